/- Parts of the proof: Gq, Gl, Gp, Gm, Gg, Psr, Tk, Pst, Pj. -/
import Derived.Test.YtjfaafoldllppaaG02
import Derived.Test.YtjfaafoldllppaaG01
import Derived.StillTailTactics
import Derived.Deep.CutRange
import Derived.Deep.MidRow
namespace Go.Proofs.Ytjfaafoldllppaa
open Go.RowKit
set_option linter.unusedVariables false

theorem Sl.lit {α : Type} {E : Flat α} (w : World) (xs : List α) (T : TypeId) (cs : Array Value) (hcs : cs = (xs.flatMap E.enc).toArray) (hok : ∀ x ∈ xs, E.ok x) (hne : 0 < xs.length) (hm : xs.length ≤ 9223372036854775807) :
    Sl E.cod (w.alloc (.cells cs T)) (.slice (some ⟨w.heap.size, 0, none⟩) xs.length xs.length) xs [w.heap.size] := by
  subst hcs
  refine Sl.of_cells (Nat.le_refl _) hm (by simp) (fun j hj => ⟨?_, ?_⟩) hok hne
  · rw [World.cell?_alloc_at _ _ _ _ rfl]; simp
  · rw [World.frozen?_alloc_at _ _ _ _ rfl]


set_option maxRecDepth 100000 in
set_option maxHeartbeats 4000000 in
theorem implValid_any (x : DGroup) (w : World) (hok : fGroup.ok x) :
    Calls Try.prog 43 #[.agg #[.string x.id, .int .i64 x.people, .int .i64 x.guides, .int .i64 x.beacons, .int .i64 x.shovels, .int .i64 x.probes, .int .i64 x.skill]] w fun e w' => e = .returned (.bool (groupB x)) ∧ Below w.heap.size w w' := by
  have hok0 : x.id.size ≤ 9223372036854775807 := hok.1
  cases h0 : nameB x.id
  · skip
    go_enter Try.func43, Try.ntmps43
    go_wp2_with (first | (go_at_call 66; refine (implIsName_any _ _ hok0).mono ?_; rintro e w' ⟨rfl, rfl⟩) | (go_at_call 44; refine (withinB_any _ _ _ _).mono ?_; rintro e w' ⟨rfl, rfl⟩))
    go_ret
    exact ⟨ret_bool (by simp [groupB, *]), (by repeat (first | exact Below.refl _ _ | assumption | refine Below.alloc ?_ (by first | omega | (simp <;> omega)) _ | refine Below.setCell ?_ (by first | (show _ ≤ _; omega) | (simp <;> omega)) _ | refine Below.drew ?_ | refine below_drewN ?_ _))⟩
  · cases h1 : inB x.people 1 30
    · skip
      go_enter Try.func43, Try.ntmps43
      go_wp2_with (first | (go_at_call 66; refine (implIsName_any _ _ hok0).mono ?_; rintro e w' ⟨rfl, rfl⟩) | (go_at_call 44; refine (withinB_any _ _ _ _).mono ?_; rintro e w' ⟨rfl, rfl⟩))
      go_ret
      exact ⟨ret_bool (by simp [groupB, *]), (by repeat (first | exact Below.refl _ _ | assumption | refine Below.alloc ?_ (by first | omega | (simp <;> omega)) _ | refine Below.setCell ?_ (by first | (show _ ≤ _; omega) | (simp <;> omega)) _ | refine Below.drew ?_ | refine below_drewN ?_ _))⟩
    · cases h2 : inB x.guides 0 x.people
      · skip
        go_enter Try.func43, Try.ntmps43
        go_wp2_with (first | (go_at_call 66; refine (implIsName_any _ _ hok0).mono ?_; rintro e w' ⟨rfl, rfl⟩) | (go_at_call 44; refine (withinB_any _ _ _ _).mono ?_; rintro e w' ⟨rfl, rfl⟩))
        go_ret
        exact ⟨ret_bool (by simp [groupB, *]), (by repeat (first | exact Below.refl _ _ | assumption | refine Below.alloc ?_ (by first | omega | (simp <;> omega)) _ | refine Below.setCell ?_ (by first | (show _ ≤ _; omega) | (simp <;> omega)) _ | refine Below.drew ?_ | refine below_drewN ?_ _))⟩
      · have hg : groupB x = (allIn [x.beacons, x.shovels, x.probes] 0 30 && inB x.skill 1 5) := by
          simp [groupB, h0, h1, h2, allIn, Bool.and_assoc]
        have HG := Lib.hid hg
        clear hg
        have hb0 : Below w.heap.size w ((w.alloc (.cells #[.string x.id, .int .i64 x.people, .int .i64 x.guides, .int .i64 x.beacons, .int .i64 x.shovels, .int .i64 x.probes, .int .i64 x.skill] 43)).alloc (.cells #[.int .i64 x.beacons, .int .i64 x.shovels, .int .i64 x.probes] 2)) := (by repeat (first | exact Below.refl _ _ | assumption | refine Below.alloc ?_ (by first | omega | (simp <;> omega)) _ | refine Below.setCell ?_ (by first | (show _ ≤ _; omega) | (simp <;> omega)) _ | refine Below.drew ?_ | refine below_drewN ?_ _))
        have hsl_ := Sl.lit (E := fInt) (w.alloc (.cells #[.string x.id, .int .i64 x.people, .int .i64 x.guides, .int .i64 x.beacons, .int .i64 x.shovels, .int .i64 x.probes, .int .i64 x.skill] 43)) [x.beacons, x.shovels, x.probes] 2 #[.int .i64 x.beacons, .int .i64 x.shovels, .int .i64 x.probes] rfl (by intro y hy; simp at hy; rcases hy with rfl | rfl | rfl; exact hok.2.2.2.1; exact hok.2.2.2.2.1; exact hok.2.2.2.2.2.1) (by simp) (by simp)
        have hsz : (w.alloc (.cells #[.string x.id, .int .i64 x.people, .int .i64 x.guides, .int .i64 x.beacons, .int .i64 x.shovels, .int .i64 x.probes, .int .i64 x.skill] 43)).heap.size = w.heap.size + 1 := by simp
        rw [hsz] at hsl_
        have hsl : Sl fInt.cod ((w.alloc (.cells #[.string x.id, .int .i64 x.people, .int .i64 x.guides, .int .i64 x.beacons, .int .i64 x.shovels, .int .i64 x.probes, .int .i64 x.skill] 43)).alloc (.cells #[.int .i64 x.beacons, .int .i64 x.shovels, .int .i64 x.probes] 2)) (.slice (some ⟨w.heap.size + 1, 0, none⟩) 3 3) [x.beacons, x.shovels, x.probes] [w.heap.size + 1] := hsl_
        clear hsl_ hsz
        go_enter Try.func43, Try.ntmps43
        go_wp2_with (first | (go_at_call 66; refine (implIsName_any _ _ hok0).mono ?_; rintro e w' ⟨rfl, rfl⟩) | (go_at_call 44; refine (withinB_any _ _ _ _).mono ?_; rintro e w' ⟨rfl, rfl⟩))
        refine (allWithin_any _ [x.beacons, x.shovels, x.probes] _ 0 30 _ hsl).mono ?_
        rintro e w1 ⟨rfl, hb⟩
        have hc6 : w1.cell? ⟨w.heap.size, 6, none⟩ = some (.int .i64 x.skill) := by rw [hb.cell (by simp <;> omega)]; simp
        have hb1 : Below w.heap.size w w1 := hb0.trans (hb.mono (by simp <;> omega))
        clear hsl hb hb0
        cases h3 : allIn [x.beacons, x.shovels, x.probes] 0 30
        · go_wp2_with (go_at_call 44; refine (withinB_any _ _ _ _).mono ?_; rintro e w' ⟨rfl, rfl⟩)
          go_ret
          exact ⟨ret_bool (by rw [HG.out, h3]; rfl), hb1⟩
        · go_wp2_with (go_at_call 44; refine (withinB_any _ _ _ _).mono ?_; rintro e w' ⟨rfl, rfl⟩)
          go_ret
          exact ⟨ret_bool (by rw [HG.out, h3]; rfl), hb1⟩

def guidesF (p l : Int) : Int := if l = 1 then 0 else if l = 2 then (p + 11) / 12 else if l = 3 then (p + 7) / 8 else if l = 4 then (p + 3) / 4 else p
set_option maxRecDepth 100000 in
set_option maxHeartbeats 1000000 in
theorem l24Guides_any (p l : Int) (w : World) (hp : 1 ≤ p ∧ p ≤ 1000) :
    Calls Try.prog 74 #[.int .i64 p, .int .i64 l] w fun e w' => e = .returned (.int .i64 (guidesF p l)) ∧ w = w' := by
  obtain ⟨hp0, hp1⟩ := hp
  by_cases h1 : l = 1
  · subst h1
    go_enter Try.func74, Try.ntmps74
    go_wp2
    go_ret
    exact ⟨rfl, rfl⟩
  · by_cases h2 : l = 2
    · subst h2
      go_enter Try.func74, Try.ntmps74
      go_wp2
      go_ret
      exact ⟨ret_int (show _ = (p + 11) / 12 from by first | rfl | (rw [show p + 12 - 1 = p + 11 from by omega])), rfl⟩
    · by_cases h3 : l = 3
      · subst h3
        go_enter Try.func74, Try.ntmps74
        go_wp2
        go_ret
        exact ⟨ret_int (show _ = (p + 7) / 8 from by first | rfl | (rw [show p + 8 - 1 = p + 7 from by omega])), rfl⟩
      · by_cases h4 : l = 4
        · subst h4
          go_enter Try.func74, Try.ntmps74
          go_wp2
          go_ret
          exact ⟨ret_int (show _ = (p + 3) / 4 from by first | rfl | (rw [show p + 4 - 1 = p + 3 from by omega])), rfl⟩
        · have e1 : (l == 1) = false := by simpa using h1
          have e2 : (l == 2) = false := by simpa using h2
          have e3 : (l == 3) = false := by simpa using h3
          have e4 : (l == 4) = false := by simpa using h4
          have hg : guidesF p l = p := by unfold guidesF; rw [if_neg h1, if_neg h2, if_neg h3, if_neg h4]
          rw [hg]
          clear h1 h2 h3 h4 hg
          go_enter Try.func74, Try.ntmps74
          go_wp2
          go_ret
          exact ⟨rfl, rfl⟩
set_option maxRecDepth 100000 in
set_option maxHeartbeats 1000000 in
theorem divUp_any (a b : Int) (w : World) (ha : 0 ≤ a) (hb : 1 ≤ b) (h : a + b ≤ 1000000) :
    Calls Try.prog 68 #[.int .i64 a, .int .i64 b] w fun e w' => e = .returned (.int .i64 ((a + b - 1) / b)) ∧ w = w' := by
  have h0 : (b == 0) = false := by rw [beq_eq_false_iff_ne]; omega
  have h1 : 0 ≤ a + b - 1 := by omega
  have h2 : a + b - 1 ≤ 1000000 := by omega
  have h3 : (a + b - 1) / b ≤ a + b - 1 := Int.ediv_le_self _ h1
  have h4 : 0 ≤ (a + b - 1) / b := Int.ediv_nonneg h1 (by omega)
  go_enter Try.func68, Try.ntmps68
  go_wp2
  go_ret
  exact ⟨rfl, rfl⟩
set_option maxRecDepth 100000 in
set_option maxHeartbeats 1000000 in
theorem neededGuides_any (p l : Int) (w : World) (hp : 1 ≤ p ∧ p ≤ 1000) :
    Calls Try.prog 45 #[.int .i64 p, .int .i64 l] w fun e w' => e = .returned (.int .i64 (guidesF p l)) ∧ w = w' := by
  obtain ⟨hp0, hp1⟩ := hp
  by_cases h1 : l = 1
  · subst h1
    go_enter Try.func45, Try.ntmps45
    go_wp2
    go_ret
    exact ⟨rfl, rfl⟩
  · by_cases h2 : l = 2
    · subst h2
      go_enter Try.func45, Try.ntmps45
      go_wp2_with (go_at_call 68; refine (divUp_any _ _ _ (by omega) (by omega) (by omega)).mono ?_; rintro e w' ⟨rfl, rfl⟩)
      go_ret
      exact ⟨ret_int (show _ = (p + 11) / 12 from by first | rfl | (rw [show p + 12 - 1 = p + 11 from by omega])), rfl⟩
    · by_cases h3 : l = 3
      · subst h3
        go_enter Try.func45, Try.ntmps45
        go_wp2_with (go_at_call 68; refine (divUp_any _ _ _ (by omega) (by omega) (by omega)).mono ?_; rintro e w' ⟨rfl, rfl⟩)
        go_ret
        exact ⟨ret_int (show _ = (p + 7) / 8 from by first | rfl | (rw [show p + 8 - 1 = p + 7 from by omega])), rfl⟩
      · by_cases h4 : l = 4
        · subst h4
          go_enter Try.func45, Try.ntmps45
          go_wp2_with (go_at_call 68; refine (divUp_any _ _ _ (by omega) (by omega) (by omega)).mono ?_; rintro e w' ⟨rfl, rfl⟩)
          go_ret
          exact ⟨ret_int (show _ = (p + 3) / 4 from by first | rfl | (rw [show p + 4 - 1 = p + 3 from by omega])), rfl⟩
        · have e1 : (l == 1) = false := by simpa using h1
          have e2 : (l == 2) = false := by simpa using h2
          have e3 : (l == 3) = false := by simpa using h3
          have e4 : (l == 4) = false := by simpa using h4
          have hg : guidesF p l = p := by unfold guidesF; rw [if_neg h1, if_neg h2, if_neg h3, if_neg h4]
          rw [hg]
          clear h1 h2 h3 h4 hg
          go_enter Try.func45, Try.ntmps45
          go_wp2
          go_ret
          exact ⟨rfl, rfl⟩

end Go.Proofs.Ytjfaafoldllppaa

namespace Go.Proofs.Ytjfaafoldllppaa
open Go.RowKit
set_option linter.unusedVariables false

theorem infoStr0 : (Try.prog.info? 9).map (fun i => (i.zero, i.size, i.bytes)) = some (some (.string ⟨#[]⟩), 1, 16) := by kernel_rfl
def lack (b p : Int) (s : List UInt8) : List ByteArray := if b < p then [⟨s.toArray⟩] else []
def lacksF (x : DGroup) : List ByteArray := lack x.beacons x.people [98, 101, 97, 99, 111, 110, 115] ++ lack x.shovels x.people [115, 104, 111, 118, 101, 108, 115] ++ lack x.probes x.people [112, 114, 111, 98, 101, 115]
theorem lacksF_len (x : DGroup) : (lacksF x).length ≤ 3 := by
  unfold lacksF lack
  simp only [List.length_append]
  (repeat' split) <;> simp
theorem lacksF_ok (x : DGroup) : ∀ s ∈ lacksF x, fStr.ok s := by
  unfold lacksF lack
  intro s hs
  show s.size ≤ _
  simp only [List.mem_append] at hs
  rcases hs with (hs | hs) | hs
  all_goals
    split at hs
    · simp at hs; subst hs; show _ ≤ 9223372036854775807; decide
    · simp at hs

set_option maxRecDepth 100000 in
set_option maxHeartbeats 4000000 in
theorem l24Lacks_any (pb po : Nat) (x : DGroup) (w : World) (hp : PGroup w pb po x) :
    Calls Try.prog 73 #[.pointer (some ⟨pb, po, none⟩)] w fun e w' => NewR fStr.cod w (lacksF x) e w' := by
  obtain ⟨i0, hi, hz0, hz1, hz2⟩ := info_parts infoStr0
  have hplt := hp.lt
  by_cases h1 : x.beacons < x.people
  · by_cases h2 : x.shovels < x.people
    · by_cases h3 : x.probes < x.people
      · have HF := Lib.hid (show lacksF x = [⟨#[98, 101, 97, 99, 111, 110, 115]⟩, ⟨#[115, 104, 111, 118, 101, 108, 115]⟩, ⟨#[112, 114, 111, 98, 101, 115]⟩] from by unfold lacksF lack; rw [if_pos h1, if_pos h2, if_pos h3]; rfl)
        go_enter Try.func73, Try.ntmps73
        go_wp2
        have hb := (Below.refl w.heap.size w).alloc (Nat.le_refl _) (Obj.cells #[] 9)
        have hown := World.ownsRow_lit (e := 9) (size := 1) w #[] 0 (Nat.le_refl w.heap.size) (by decide) rfl
        have hq := hp.below hb hplt
        generalize w.alloc (Obj.cells #[] 9) = wa at *
        obtain ⟨_, c1, _, c3, c4, c5, _⟩ := hq
        go_quiet (fail)
        have hb0 := hb.trans ((below_drewN (Below.refl _ _) nq))
        have ho0 : (wa.drewN nq).ownsRow w.heap.size 9 1 (.slice (some ⟨w.heap.size, 0, none⟩) 0 0) 0 [] := hown
        have hq0 := hp.below hb0 hplt
        have hs0 := hb0.size
        clear hb hown c1 c3 c4 c5
        generalize wa.drewN nq = w0 at *
        go_wp2_with (at_builtin; refine wpList_append_one rfl _ _ 38 rfl w.heap.size 9 i0 (.string ⟨#[]⟩) 1 16 Try.underlying38 hi hz0 hz1 hz2 rfl (by decide) (.slice (some ⟨w.heap.size, 0, none⟩) 0 0) 0 _ rfl ho0 [.string ⟨#[98, 101, 97, 99, 111, 110, 115]⟩] rfl (by intro u hu; rw [List.mem_singleton] at hu; subst hu; rfl) rfl (by decide) (by decide) hs0 ?_)
        intro v0 u0 hown hbu _ _
        have hb := hb0.trans hbu
        have hq := hp.below hb hplt
        go_wp2_with fail
        obtain ⟨_, c1, _, c3, c4, c5, _⟩ := hq
        go_quiet (fail)
        have hb1 := hb.trans ((below_drewN (Below.refl _ _) nq))
        have ho1 : (u0.drewN nq).ownsRow w.heap.size 9 1 v0 1 [.string ⟨#[98, 101, 97, 99, 111, 110, 115]⟩] := hown
        have hq1 := hp.below hb1 hplt
        have hs1 := hb1.size
        clear hb hown c1 c3 c4 c5
        generalize u0.drewN nq = w1 at *
        go_wp2_with (at_builtin; refine wpList_append_one rfl _ _ 38 rfl w.heap.size 9 i0 (.string ⟨#[]⟩) 1 16 Try.underlying38 hi hz0 hz1 hz2 rfl (by decide) v0 1 _ rfl ho1 [.string ⟨#[115, 104, 111, 118, 101, 108, 115]⟩] rfl (by intro u hu; rw [List.mem_singleton] at hu; subst hu; rfl) rfl (by decide) (by decide) hs1 ?_)
        intro v1 u1 hown hbu _ _
        have hb := hb1.trans hbu
        have hq := hp.below hb hplt
        go_wp2_with fail
        obtain ⟨_, c1, _, c3, c4, c5, _⟩ := hq
        go_quiet (fail)
        have hb2 := hb.trans ((below_drewN (Below.refl _ _) nq))
        have ho2 : (u1.drewN nq).ownsRow w.heap.size 9 1 v1 2 [.string ⟨#[98, 101, 97, 99, 111, 110, 115]⟩, .string ⟨#[115, 104, 111, 118, 101, 108, 115]⟩] := hown
        have hq2 := hp.below hb2 hplt
        have hs2 := hb2.size
        clear hb hown c1 c3 c4 c5
        generalize u1.drewN nq = w2 at *
        go_wp2_with (at_builtin; refine wpList_append_one rfl _ _ 38 rfl w.heap.size 9 i0 (.string ⟨#[]⟩) 1 16 Try.underlying38 hi hz0 hz1 hz2 rfl (by decide) v1 2 _ rfl ho2 [.string ⟨#[112, 114, 111, 98, 101, 115]⟩] rfl (by intro u hu; rw [List.mem_singleton] at hu; subst hu; rfl) rfl (by decide) (by decide) hs2 ?_)
        intro v2 u2 hown hbu _ _
        have hb := hb2.trans hbu
        go_wp2
        go_ret
        refine ⟨_, rfl, ⟨?_, hb⟩⟩
        rw [HF.out]
        exact Sl.of_own (E := fStr) (n := 3) rfl hown (by rw [← HF.out]; exact lacksF_ok x)
      · have HF := Lib.hid (show lacksF x = [⟨#[98, 101, 97, 99, 111, 110, 115]⟩, ⟨#[115, 104, 111, 118, 101, 108, 115]⟩] from by unfold lacksF lack; rw [if_pos h1, if_pos h2, if_neg h3]; rfl)
        go_enter Try.func73, Try.ntmps73
        go_wp2
        have hb := (Below.refl w.heap.size w).alloc (Nat.le_refl _) (Obj.cells #[] 9)
        have hown := World.ownsRow_lit (e := 9) (size := 1) w #[] 0 (Nat.le_refl w.heap.size) (by decide) rfl
        have hq := hp.below hb hplt
        generalize w.alloc (Obj.cells #[] 9) = wa at *
        obtain ⟨_, c1, _, c3, c4, c5, _⟩ := hq
        go_quiet (fail)
        have hb0 := hb.trans ((below_drewN (Below.refl _ _) nq))
        have ho0 : (wa.drewN nq).ownsRow w.heap.size 9 1 (.slice (some ⟨w.heap.size, 0, none⟩) 0 0) 0 [] := hown
        have hq0 := hp.below hb0 hplt
        have hs0 := hb0.size
        clear hb hown c1 c3 c4 c5
        generalize wa.drewN nq = w0 at *
        go_wp2_with (at_builtin; refine wpList_append_one rfl _ _ 38 rfl w.heap.size 9 i0 (.string ⟨#[]⟩) 1 16 Try.underlying38 hi hz0 hz1 hz2 rfl (by decide) (.slice (some ⟨w.heap.size, 0, none⟩) 0 0) 0 _ rfl ho0 [.string ⟨#[98, 101, 97, 99, 111, 110, 115]⟩] rfl (by intro u hu; rw [List.mem_singleton] at hu; subst hu; rfl) rfl (by decide) (by decide) hs0 ?_)
        intro v0 u0 hown hbu _ _
        have hb := hb0.trans hbu
        have hq := hp.below hb hplt
        go_wp2_with fail
        obtain ⟨_, c1, _, c3, c4, c5, _⟩ := hq
        go_quiet (fail)
        have hb1 := hb.trans ((below_drewN (Below.refl _ _) nq))
        have ho1 : (u0.drewN nq).ownsRow w.heap.size 9 1 v0 1 [.string ⟨#[98, 101, 97, 99, 111, 110, 115]⟩] := hown
        have hq1 := hp.below hb1 hplt
        have hs1 := hb1.size
        clear hb hown c1 c3 c4 c5
        generalize u0.drewN nq = w1 at *
        go_wp2_with (at_builtin; refine wpList_append_one rfl _ _ 38 rfl w.heap.size 9 i0 (.string ⟨#[]⟩) 1 16 Try.underlying38 hi hz0 hz1 hz2 rfl (by decide) v0 1 _ rfl ho1 [.string ⟨#[115, 104, 111, 118, 101, 108, 115]⟩] rfl (by intro u hu; rw [List.mem_singleton] at hu; subst hu; rfl) rfl (by decide) (by decide) hs1 ?_)
        intro v1 u1 hown hbu _ _
        have hb := hb1.trans hbu
        have hq := hp.below hb hplt
        go_wp2_with fail
        obtain ⟨_, c1, _, c3, c4, c5, _⟩ := hq
        go_quiet (fail)
        have hb2 := hb.trans ((below_drewN (Below.refl _ _) nq))
        have ho2 : (u1.drewN nq).ownsRow w.heap.size 9 1 v1 2 [.string ⟨#[98, 101, 97, 99, 111, 110, 115]⟩, .string ⟨#[115, 104, 111, 118, 101, 108, 115]⟩] := hown
        have hq2 := hp.below hb2 hplt
        have hs2 := hb2.size
        clear hb hown c1 c3 c4 c5
        generalize u1.drewN nq = w2 at *
        have hb := hb2
        have hown := ho2
        go_wp2
        go_ret
        refine ⟨_, rfl, ⟨?_, hb⟩⟩
        rw [HF.out]
        exact Sl.of_own (E := fStr) (n := 2) rfl hown (by rw [← HF.out]; exact lacksF_ok x)
    · by_cases h3 : x.probes < x.people
      · have HF := Lib.hid (show lacksF x = [⟨#[98, 101, 97, 99, 111, 110, 115]⟩, ⟨#[112, 114, 111, 98, 101, 115]⟩] from by unfold lacksF lack; rw [if_pos h1, if_neg h2, if_pos h3]; rfl)
        go_enter Try.func73, Try.ntmps73
        go_wp2
        have hb := (Below.refl w.heap.size w).alloc (Nat.le_refl _) (Obj.cells #[] 9)
        have hown := World.ownsRow_lit (e := 9) (size := 1) w #[] 0 (Nat.le_refl w.heap.size) (by decide) rfl
        have hq := hp.below hb hplt
        generalize w.alloc (Obj.cells #[] 9) = wa at *
        obtain ⟨_, c1, _, c3, c4, c5, _⟩ := hq
        go_quiet (fail)
        have hb0 := hb.trans ((below_drewN (Below.refl _ _) nq))
        have ho0 : (wa.drewN nq).ownsRow w.heap.size 9 1 (.slice (some ⟨w.heap.size, 0, none⟩) 0 0) 0 [] := hown
        have hq0 := hp.below hb0 hplt
        have hs0 := hb0.size
        clear hb hown c1 c3 c4 c5
        generalize wa.drewN nq = w0 at *
        go_wp2_with (at_builtin; refine wpList_append_one rfl _ _ 38 rfl w.heap.size 9 i0 (.string ⟨#[]⟩) 1 16 Try.underlying38 hi hz0 hz1 hz2 rfl (by decide) (.slice (some ⟨w.heap.size, 0, none⟩) 0 0) 0 _ rfl ho0 [.string ⟨#[98, 101, 97, 99, 111, 110, 115]⟩] rfl (by intro u hu; rw [List.mem_singleton] at hu; subst hu; rfl) rfl (by decide) (by decide) hs0 ?_)
        intro v0 u0 hown hbu _ _
        have hb := hb0.trans hbu
        have hq := hp.below hb hplt
        go_wp2_with fail
        obtain ⟨_, c1, _, c3, c4, c5, _⟩ := hq
        go_quiet (fail)
        have hb1 := hb.trans ((below_drewN (Below.refl _ _) nq))
        have ho1 : (u0.drewN nq).ownsRow w.heap.size 9 1 v0 1 [.string ⟨#[98, 101, 97, 99, 111, 110, 115]⟩] := hown
        have hq1 := hp.below hb1 hplt
        have hs1 := hb1.size
        clear hb hown c1 c3 c4 c5
        generalize u0.drewN nq = w1 at *
        have hb := hb1
        have hown := ho1
        have hq := hp.below hb hplt
        go_wp2_with fail
        obtain ⟨_, c1, _, c3, c4, c5, _⟩ := hq
        go_quiet (fail)
        have hb2 := hb.trans ((below_drewN (Below.refl _ _) nq))
        have ho2 : (w1.drewN nq).ownsRow w.heap.size 9 1 v0 1 [.string ⟨#[98, 101, 97, 99, 111, 110, 115]⟩] := hown
        have hq2 := hp.below hb2 hplt
        have hs2 := hb2.size
        clear hb hown c1 c3 c4 c5
        generalize w1.drewN nq = w2 at *
        go_wp2_with (at_builtin; refine wpList_append_one rfl _ _ 38 rfl w.heap.size 9 i0 (.string ⟨#[]⟩) 1 16 Try.underlying38 hi hz0 hz1 hz2 rfl (by decide) v0 1 _ rfl ho2 [.string ⟨#[112, 114, 111, 98, 101, 115]⟩] rfl (by intro u hu; rw [List.mem_singleton] at hu; subst hu; rfl) rfl (by decide) (by decide) hs2 ?_)
        intro v2 u2 hown hbu _ _
        have hb := hb2.trans hbu
        go_wp2
        go_ret
        refine ⟨_, rfl, ⟨?_, hb⟩⟩
        rw [HF.out]
        exact Sl.of_own (E := fStr) (n := 2) rfl hown (by rw [← HF.out]; exact lacksF_ok x)
      · have HF := Lib.hid (show lacksF x = [⟨#[98, 101, 97, 99, 111, 110, 115]⟩] from by unfold lacksF lack; rw [if_pos h1, if_neg h2, if_neg h3]; rfl)
        go_enter Try.func73, Try.ntmps73
        go_wp2
        have hb := (Below.refl w.heap.size w).alloc (Nat.le_refl _) (Obj.cells #[] 9)
        have hown := World.ownsRow_lit (e := 9) (size := 1) w #[] 0 (Nat.le_refl w.heap.size) (by decide) rfl
        have hq := hp.below hb hplt
        generalize w.alloc (Obj.cells #[] 9) = wa at *
        obtain ⟨_, c1, _, c3, c4, c5, _⟩ := hq
        go_quiet (fail)
        have hb0 := hb.trans ((below_drewN (Below.refl _ _) nq))
        have ho0 : (wa.drewN nq).ownsRow w.heap.size 9 1 (.slice (some ⟨w.heap.size, 0, none⟩) 0 0) 0 [] := hown
        have hq0 := hp.below hb0 hplt
        have hs0 := hb0.size
        clear hb hown c1 c3 c4 c5
        generalize wa.drewN nq = w0 at *
        go_wp2_with (at_builtin; refine wpList_append_one rfl _ _ 38 rfl w.heap.size 9 i0 (.string ⟨#[]⟩) 1 16 Try.underlying38 hi hz0 hz1 hz2 rfl (by decide) (.slice (some ⟨w.heap.size, 0, none⟩) 0 0) 0 _ rfl ho0 [.string ⟨#[98, 101, 97, 99, 111, 110, 115]⟩] rfl (by intro u hu; rw [List.mem_singleton] at hu; subst hu; rfl) rfl (by decide) (by decide) hs0 ?_)
        intro v0 u0 hown hbu _ _
        have hb := hb0.trans hbu
        have hq := hp.below hb hplt
        go_wp2_with fail
        obtain ⟨_, c1, _, c3, c4, c5, _⟩ := hq
        go_quiet (fail)
        have hb1 := hb.trans ((below_drewN (Below.refl _ _) nq))
        have ho1 : (u0.drewN nq).ownsRow w.heap.size 9 1 v0 1 [.string ⟨#[98, 101, 97, 99, 111, 110, 115]⟩] := hown
        have hq1 := hp.below hb1 hplt
        have hs1 := hb1.size
        clear hb hown c1 c3 c4 c5
        generalize u0.drewN nq = w1 at *
        have hb := hb1
        have hown := ho1
        have hq := hp.below hb hplt
        go_wp2_with fail
        obtain ⟨_, c1, _, c3, c4, c5, _⟩ := hq
        go_quiet (fail)
        have hb2 := hb.trans ((below_drewN (Below.refl _ _) nq))
        have ho2 : (w1.drewN nq).ownsRow w.heap.size 9 1 v0 1 [.string ⟨#[98, 101, 97, 99, 111, 110, 115]⟩] := hown
        have hq2 := hp.below hb2 hplt
        have hs2 := hb2.size
        clear hb hown c1 c3 c4 c5
        generalize w1.drewN nq = w2 at *
        have hb := hb2
        have hown := ho2
        go_wp2
        go_ret
        refine ⟨_, rfl, ⟨?_, hb⟩⟩
        rw [HF.out]
        exact Sl.of_own (E := fStr) (n := 1) rfl hown (by rw [← HF.out]; exact lacksF_ok x)
  · by_cases h2 : x.shovels < x.people
    · by_cases h3 : x.probes < x.people
      · have HF := Lib.hid (show lacksF x = [⟨#[115, 104, 111, 118, 101, 108, 115]⟩, ⟨#[112, 114, 111, 98, 101, 115]⟩] from by unfold lacksF lack; rw [if_neg h1, if_pos h2, if_pos h3]; rfl)
        go_enter Try.func73, Try.ntmps73
        go_wp2
        have hb := (Below.refl w.heap.size w).alloc (Nat.le_refl _) (Obj.cells #[] 9)
        have hown := World.ownsRow_lit (e := 9) (size := 1) w #[] 0 (Nat.le_refl w.heap.size) (by decide) rfl
        have hq := hp.below hb hplt
        generalize w.alloc (Obj.cells #[] 9) = wa at *
        obtain ⟨_, c1, _, c3, c4, c5, _⟩ := hq
        go_quiet (fail)
        have hb0 := hb.trans ((below_drewN (Below.refl _ _) nq))
        have ho0 : (wa.drewN nq).ownsRow w.heap.size 9 1 (.slice (some ⟨w.heap.size, 0, none⟩) 0 0) 0 [] := hown
        have hq0 := hp.below hb0 hplt
        have hs0 := hb0.size
        clear hb hown c1 c3 c4 c5
        generalize wa.drewN nq = w0 at *
        have hb := hb0
        have hown := ho0
        have hq := hp.below hb hplt
        go_wp2_with fail
        obtain ⟨_, c1, _, c3, c4, c5, _⟩ := hq
        go_quiet (fail)
        have hb1 := hb.trans ((below_drewN (Below.refl _ _) nq))
        have ho1 : (w0.drewN nq).ownsRow w.heap.size 9 1 (.slice (some ⟨w.heap.size, 0, none⟩) 0 0) 0 [] := hown
        have hq1 := hp.below hb1 hplt
        have hs1 := hb1.size
        clear hb hown c1 c3 c4 c5
        generalize w0.drewN nq = w1 at *
        go_wp2_with (at_builtin; refine wpList_append_one rfl _ _ 38 rfl w.heap.size 9 i0 (.string ⟨#[]⟩) 1 16 Try.underlying38 hi hz0 hz1 hz2 rfl (by decide) (.slice (some ⟨w.heap.size, 0, none⟩) 0 0) 0 _ rfl ho1 [.string ⟨#[115, 104, 111, 118, 101, 108, 115]⟩] rfl (by intro u hu; rw [List.mem_singleton] at hu; subst hu; rfl) rfl (by decide) (by decide) hs1 ?_)
        intro v1 u1 hown hbu _ _
        have hb := hb1.trans hbu
        have hq := hp.below hb hplt
        go_wp2_with fail
        obtain ⟨_, c1, _, c3, c4, c5, _⟩ := hq
        go_quiet (fail)
        have hb2 := hb.trans ((below_drewN (Below.refl _ _) nq))
        have ho2 : (u1.drewN nq).ownsRow w.heap.size 9 1 v1 1 [.string ⟨#[115, 104, 111, 118, 101, 108, 115]⟩] := hown
        have hq2 := hp.below hb2 hplt
        have hs2 := hb2.size
        clear hb hown c1 c3 c4 c5
        generalize u1.drewN nq = w2 at *
        go_wp2_with (at_builtin; refine wpList_append_one rfl _ _ 38 rfl w.heap.size 9 i0 (.string ⟨#[]⟩) 1 16 Try.underlying38 hi hz0 hz1 hz2 rfl (by decide) v1 1 _ rfl ho2 [.string ⟨#[112, 114, 111, 98, 101, 115]⟩] rfl (by intro u hu; rw [List.mem_singleton] at hu; subst hu; rfl) rfl (by decide) (by decide) hs2 ?_)
        intro v2 u2 hown hbu _ _
        have hb := hb2.trans hbu
        go_wp2
        go_ret
        refine ⟨_, rfl, ⟨?_, hb⟩⟩
        rw [HF.out]
        exact Sl.of_own (E := fStr) (n := 2) rfl hown (by rw [← HF.out]; exact lacksF_ok x)
      · have HF := Lib.hid (show lacksF x = [⟨#[115, 104, 111, 118, 101, 108, 115]⟩] from by unfold lacksF lack; rw [if_neg h1, if_pos h2, if_neg h3]; rfl)
        go_enter Try.func73, Try.ntmps73
        go_wp2
        have hb := (Below.refl w.heap.size w).alloc (Nat.le_refl _) (Obj.cells #[] 9)
        have hown := World.ownsRow_lit (e := 9) (size := 1) w #[] 0 (Nat.le_refl w.heap.size) (by decide) rfl
        have hq := hp.below hb hplt
        generalize w.alloc (Obj.cells #[] 9) = wa at *
        obtain ⟨_, c1, _, c3, c4, c5, _⟩ := hq
        go_quiet (fail)
        have hb0 := hb.trans ((below_drewN (Below.refl _ _) nq))
        have ho0 : (wa.drewN nq).ownsRow w.heap.size 9 1 (.slice (some ⟨w.heap.size, 0, none⟩) 0 0) 0 [] := hown
        have hq0 := hp.below hb0 hplt
        have hs0 := hb0.size
        clear hb hown c1 c3 c4 c5
        generalize wa.drewN nq = w0 at *
        have hb := hb0
        have hown := ho0
        have hq := hp.below hb hplt
        go_wp2_with fail
        obtain ⟨_, c1, _, c3, c4, c5, _⟩ := hq
        go_quiet (fail)
        have hb1 := hb.trans ((below_drewN (Below.refl _ _) nq))
        have ho1 : (w0.drewN nq).ownsRow w.heap.size 9 1 (.slice (some ⟨w.heap.size, 0, none⟩) 0 0) 0 [] := hown
        have hq1 := hp.below hb1 hplt
        have hs1 := hb1.size
        clear hb hown c1 c3 c4 c5
        generalize w0.drewN nq = w1 at *
        go_wp2_with (at_builtin; refine wpList_append_one rfl _ _ 38 rfl w.heap.size 9 i0 (.string ⟨#[]⟩) 1 16 Try.underlying38 hi hz0 hz1 hz2 rfl (by decide) (.slice (some ⟨w.heap.size, 0, none⟩) 0 0) 0 _ rfl ho1 [.string ⟨#[115, 104, 111, 118, 101, 108, 115]⟩] rfl (by intro u hu; rw [List.mem_singleton] at hu; subst hu; rfl) rfl (by decide) (by decide) hs1 ?_)
        intro v1 u1 hown hbu _ _
        have hb := hb1.trans hbu
        have hq := hp.below hb hplt
        go_wp2_with fail
        obtain ⟨_, c1, _, c3, c4, c5, _⟩ := hq
        go_quiet (fail)
        have hb2 := hb.trans ((below_drewN (Below.refl _ _) nq))
        have ho2 : (u1.drewN nq).ownsRow w.heap.size 9 1 v1 1 [.string ⟨#[115, 104, 111, 118, 101, 108, 115]⟩] := hown
        have hq2 := hp.below hb2 hplt
        have hs2 := hb2.size
        clear hb hown c1 c3 c4 c5
        generalize u1.drewN nq = w2 at *
        have hb := hb2
        have hown := ho2
        go_wp2
        go_ret
        refine ⟨_, rfl, ⟨?_, hb⟩⟩
        rw [HF.out]
        exact Sl.of_own (E := fStr) (n := 1) rfl hown (by rw [← HF.out]; exact lacksF_ok x)
    · by_cases h3 : x.probes < x.people
      · have HF := Lib.hid (show lacksF x = [⟨#[112, 114, 111, 98, 101, 115]⟩] from by unfold lacksF lack; rw [if_neg h1, if_neg h2, if_pos h3]; rfl)
        go_enter Try.func73, Try.ntmps73
        go_wp2
        have hb := (Below.refl w.heap.size w).alloc (Nat.le_refl _) (Obj.cells #[] 9)
        have hown := World.ownsRow_lit (e := 9) (size := 1) w #[] 0 (Nat.le_refl w.heap.size) (by decide) rfl
        have hq := hp.below hb hplt
        generalize w.alloc (Obj.cells #[] 9) = wa at *
        obtain ⟨_, c1, _, c3, c4, c5, _⟩ := hq
        go_quiet (fail)
        have hb0 := hb.trans ((below_drewN (Below.refl _ _) nq))
        have ho0 : (wa.drewN nq).ownsRow w.heap.size 9 1 (.slice (some ⟨w.heap.size, 0, none⟩) 0 0) 0 [] := hown
        have hq0 := hp.below hb0 hplt
        have hs0 := hb0.size
        clear hb hown c1 c3 c4 c5
        generalize wa.drewN nq = w0 at *
        have hb := hb0
        have hown := ho0
        have hq := hp.below hb hplt
        go_wp2_with fail
        obtain ⟨_, c1, _, c3, c4, c5, _⟩ := hq
        go_quiet (fail)
        have hb1 := hb.trans ((below_drewN (Below.refl _ _) nq))
        have ho1 : (w0.drewN nq).ownsRow w.heap.size 9 1 (.slice (some ⟨w.heap.size, 0, none⟩) 0 0) 0 [] := hown
        have hq1 := hp.below hb1 hplt
        have hs1 := hb1.size
        clear hb hown c1 c3 c4 c5
        generalize w0.drewN nq = w1 at *
        have hb := hb1
        have hown := ho1
        have hq := hp.below hb hplt
        go_wp2_with fail
        obtain ⟨_, c1, _, c3, c4, c5, _⟩ := hq
        go_quiet (fail)
        have hb2 := hb.trans ((below_drewN (Below.refl _ _) nq))
        have ho2 : (w1.drewN nq).ownsRow w.heap.size 9 1 (.slice (some ⟨w.heap.size, 0, none⟩) 0 0) 0 [] := hown
        have hq2 := hp.below hb2 hplt
        have hs2 := hb2.size
        clear hb hown c1 c3 c4 c5
        generalize w1.drewN nq = w2 at *
        go_wp2_with (at_builtin; refine wpList_append_one rfl _ _ 38 rfl w.heap.size 9 i0 (.string ⟨#[]⟩) 1 16 Try.underlying38 hi hz0 hz1 hz2 rfl (by decide) (.slice (some ⟨w.heap.size, 0, none⟩) 0 0) 0 _ rfl ho2 [.string ⟨#[112, 114, 111, 98, 101, 115]⟩] rfl (by intro u hu; rw [List.mem_singleton] at hu; subst hu; rfl) rfl (by decide) (by decide) hs2 ?_)
        intro v2 u2 hown hbu _ _
        have hb := hb2.trans hbu
        go_wp2
        go_ret
        refine ⟨_, rfl, ⟨?_, hb⟩⟩
        rw [HF.out]
        exact Sl.of_own (E := fStr) (n := 1) rfl hown (by rw [← HF.out]; exact lacksF_ok x)
      · have HF := Lib.hid (show lacksF x = [] from by unfold lacksF lack; rw [if_neg h1, if_neg h2, if_neg h3]; rfl)
        go_enter Try.func73, Try.ntmps73
        go_wp2
        have hb := (Below.refl w.heap.size w).alloc (Nat.le_refl _) (Obj.cells #[] 9)
        have hown := World.ownsRow_lit (e := 9) (size := 1) w #[] 0 (Nat.le_refl w.heap.size) (by decide) rfl
        have hq := hp.below hb hplt
        generalize w.alloc (Obj.cells #[] 9) = wa at *
        obtain ⟨_, c1, _, c3, c4, c5, _⟩ := hq
        go_quiet (fail)
        have hb0 := hb.trans ((below_drewN (Below.refl _ _) nq))
        have ho0 : (wa.drewN nq).ownsRow w.heap.size 9 1 (.slice (some ⟨w.heap.size, 0, none⟩) 0 0) 0 [] := hown
        have hq0 := hp.below hb0 hplt
        have hs0 := hb0.size
        clear hb hown c1 c3 c4 c5
        generalize wa.drewN nq = w0 at *
        have hb := hb0
        have hown := ho0
        have hq := hp.below hb hplt
        go_wp2_with fail
        obtain ⟨_, c1, _, c3, c4, c5, _⟩ := hq
        go_quiet (fail)
        have hb1 := hb.trans ((below_drewN (Below.refl _ _) nq))
        have ho1 : (w0.drewN nq).ownsRow w.heap.size 9 1 (.slice (some ⟨w.heap.size, 0, none⟩) 0 0) 0 [] := hown
        have hq1 := hp.below hb1 hplt
        have hs1 := hb1.size
        clear hb hown c1 c3 c4 c5
        generalize w0.drewN nq = w1 at *
        have hb := hb1
        have hown := ho1
        have hq := hp.below hb hplt
        go_wp2_with fail
        obtain ⟨_, c1, _, c3, c4, c5, _⟩ := hq
        go_quiet (fail)
        have hb2 := hb.trans ((below_drewN (Below.refl _ _) nq))
        have ho2 : (w1.drewN nq).ownsRow w.heap.size 9 1 (.slice (some ⟨w.heap.size, 0, none⟩) 0 0) 0 [] := hown
        have hq2 := hp.below hb2 hplt
        have hs2 := hb2.size
        clear hb hown c1 c3 c4 c5
        generalize w1.drewN nq = w2 at *
        have hb := hb2
        have hown := ho2
        go_wp2
        go_ret
        refine ⟨_, rfl, ⟨?_, hb⟩⟩
        rw [HF.out]
        exact Sl.of_own (E := fStr) (n := 0) rfl hown (by rw [← HF.out]; exact lacksF_ok x)

end Go.Proofs.Ytjfaafoldllppaa

namespace Go.Proofs.Ytjfaafoldllppaa
open Go.RowKit
set_option linter.unusedVariables false

set_option maxRecDepth 100000 in
set_option maxHeartbeats 2000000 in
theorem kit_any (pb po : Nat) (x : DGroup) (w : World) (hp : PGroup w pb po x) :
    Calls Try.prog 69 #[.pointer (some ⟨pb, po, none⟩)] w fun e w' => e = .returned (.agg #[.pointer (some ⟨pb, po+3, none⟩), .pointer (some ⟨pb, po+4, none⟩), .pointer (some ⟨pb, po+5, none⟩)]) ∧ Below w.heap.size w w' := by
  have hplt := hp.lt
  go_enter Try.func69, Try.ntmps69
  go_wp2
  go_still_tail 10, (by kernel_rfl)
  change wpList _ _ _ _ _ (World.drew _)
  go_wp2
  exact bodyPost_ret (v := .agg #[.pointer (some ⟨pb, po+3, none⟩), .pointer (some ⟨pb, po+4, none⟩), .pointer (some ⟨pb, po+5, none⟩)]) (by simp [results, Try.results69, go_sem]) rfl ⟨rfl, below_drewN ((Below.refl _ _).alloc (Nat.le_refl _) _) 1⟩

def lackK (x : DGroup) (k : Nat) : List ByteArray :=
  match k with
  | 0 => []
  | 1 => lack x.beacons x.people [98, 101, 97, 99, 111, 110, 115]
  | 2 => lack x.beacons x.people [98, 101, 97, 99, 111, 110, 115] ++ lack x.shovels x.people [115, 104, 111, 118, 101, 108, 115]
  | _ => lacksF x
theorem lackK_ok (x : DGroup) (k : Nat) : ∀ s ∈ lackK x k, fStr.ok s := by
  intro s hs
  refine lacksF_ok x s ?_
  unfold lackK at hs
  unfold lacksF
  split at hs
  · simp at hs
  · simp [hs]
  · rw [List.append_assoc] ; simp at hs; rcases hs with h | h <;> simp [h]
  · exact hs
theorem lackK_len (x : DGroup) (k : Nat) : (lackK x k).length ≤ 3 := by
  unfold lackK lacksF lack
  split
  all_goals
    (try simp only [List.length_append])
    (repeat' split) <;> simp

theorem ix_p0 (a b c : Value) (w : World) : Sem.run Try.prog (Instr.index 100 (.agg #[a, b, c]) (.int .i64 0)) w = .ok a w := by kernel_rfl
theorem ix_p1 (a b c : Value) (w : World) : Sem.run Try.prog (Instr.index 100 (.agg #[a, b, c]) (.int .i64 1)) w = .ok b w := by kernel_rfl
theorem ix_p2 (a b c : Value) (w : World) : Sem.run Try.prog (Instr.index 100 (.agg #[a, b, c]) (.int .i64 2)) w = .ok c w := by kernel_rfl
theorem ix_s0 (a b c : Value) (w : World) : Sem.run Try.prog (Instr.index 102 (.agg #[a, b, c]) (.int .i64 0)) w = .ok a w := by kernel_rfl
theorem ix_s1 (a b c : Value) (w : World) : Sem.run Try.prog (Instr.index 102 (.agg #[a, b, c]) (.int .i64 1)) w = .ok b w := by kernel_rfl
theorem ix_s2 (a b c : Value) (w : World) : Sem.run Try.prog (Instr.index 102 (.agg #[a, b, c]) (.int .i64 2)) w = .ok c w := by kernel_rfl

set_option maxRecDepth 100000 in
set_option maxHeartbeats 4000000 in
theorem problems_any (x : DGroup) (w : World) :
    Calls Try.prog 46 #[.agg #[.string x.id, .int .i64 x.people, .int .i64 x.guides, .int .i64 x.beacons, .int .i64 x.shovels, .int .i64 x.probes, .int .i64 x.skill]] w fun e w' => NewR fStr.cod w (lacksF x) e w' := by
  obtain ⟨i0, hi, hz0, hz1, hz2⟩ := info_parts infoStr0
  have hpg := PGroup.box w x 43
  have hplt := hpg.lt
  go_enter Try.func46, Try.ntmps46
  go_wp2_with fail
  refine (kit_any _ _ x _ hpg).mono ?_
  rintro e w2 ⟨rfl, hb2⟩
  have hs1 : (w.alloc (Obj.cells #[.string x.id, .int .i64 x.people, .int .i64 x.guides, .int .i64 x.beacons, .int .i64 x.shovels, .int .i64 x.probes, .int .i64 x.skill] 43)).heap.size = w.heap.size + 1 := by simp
  have hb1 := (Below.refl w.heap.size w).alloc (Nat.le_refl _) (Obj.cells #[.string x.id, .int .i64 x.people, .int .i64 x.guides, .int .i64 x.beacons, .int .i64 x.shovels, .int .i64 x.probes, .int .i64 x.skill] 43)
  generalize w.alloc (Obj.cells #[.string x.id, .int .i64 x.people, .int .i64 x.guides, .int .i64 x.beacons, .int .i64 x.shovels, .int .i64 x.probes, .int .i64 x.skill] 43) = w1 at *
  rw [hs1] at hb2
  go_wp2
  go_loopw [3, 7] (fun l i wr => ∃ k : Nat, k ≤ 3 ∧ i = .int .i64 k ∧ Below (w.heap.size + 1) w1 wr ∧ wr.ownsRow (w.heap.size + 1) 9 1 l (lackK x k).length ((lackK x k).flatMap fStr.enc)) (fun _ i _ => 3 - (intOf i).toNat)
  case atStart => exact ⟨0, by omega, rfl, hb2, rfl, .inl ⟨rfl, rfl⟩⟩
  case round =>
    obtain ⟨k, hk, rfl, hb, hown⟩ := hrel
    have hk4 : k = 0 ∨ k = 1 ∨ k = 2 ∨ k = 3 := by omega
    obtain ⟨_, c1, _, c3, c4, c5, _⟩ := hpg.below hb (by omega)
    have e0 := ix_p0
    have e1 := ix_p1
    have e2 := ix_p2
    have e3 := ix_s0
    have e4 := ix_s1
    have e5 := ix_s2
    rcases hk4 with rfl | rfl | rfl | rfl
    · by_cases h : x.beacons < x.people
      · have HL := Lib.hid (show lackK x 1 = lackK x 0 ++ [⟨#[98, 101, 97, 99, 111, 110, 115]⟩] from by show lack x.beacons x.people _ = _; unfold lack; rw [if_pos h]; rfl)
        have hlen := lackK_len x 0
        go_wp2
        go_quiet (fail)
        have hbq := hb.trans (below_drewN (Below.refl _ _) nq)
        have hoq : (wr.drewN nq).ownsRow (w.heap.size + 1) 9 1 u3 (lackK x 0).length ((lackK x 0).flatMap fStr.enc) := hown
        have hsq := hbq.size
        clear hb hown c1 c3 c4 c5
        generalize wr.drewN nq = wq at *
        go_wp2_with (at_builtin; refine wpList_append_one rfl _ _ 38 rfl (w.heap.size + 1) 9 i0 (.string ⟨#[]⟩) 1 16 Try.underlying38 hi hz0 hz1 hz2 rfl (by decide) u3 _ _ rfl hoq [.string ⟨#[98, 101, 97, 99, 111, 110, 115]⟩] rfl (by intro u hu; rw [List.mem_singleton] at hu; subst hu; rfl) rfl (by omega) (by decide) (by omega) ?_)
        intro v' u' ho' hbu _ _
        have hb' := hbq.trans hbu
        go_wp2
        go_roundw
        case rel => exact ⟨1, by omega, by go_num, hb', by rw [HL.out, List.flatMap_append, List.length_append]; exact ho'⟩
        case measure => first | (simp [intOf]; done) | (simp [intOf]; omega)
      · have HL := Lib.hid (show lackK x 1 = lackK x 0 from by show lack x.beacons x.people _ = _; unfold lack; rw [if_neg h]; rfl)
        go_wp2
        go_quiet (fail)
        have hbq := hb.trans (below_drewN (Below.refl _ _) nq)
        go_wp2
        go_roundw
        case rel => exact ⟨1, by omega, by go_num, hbq, by rw [HL.out]; exact hown⟩
        case measure => first | (simp [intOf]; done) | (simp [intOf]; omega)
    · by_cases h : x.shovels < x.people
      · have HL := Lib.hid (show lackK x 2 = lackK x 1 ++ [⟨#[115, 104, 111, 118, 101, 108, 115]⟩] from by show _ ++ lack x.shovels x.people _ = _; unfold lack; rw [if_pos h]; rfl)
        have hlen := lackK_len x 1
        go_wp2
        go_quiet (fail)
        have hbq := hb.trans (below_drewN (Below.refl _ _) nq)
        have hoq : (wr.drewN nq).ownsRow (w.heap.size + 1) 9 1 u3 (lackK x 1).length ((lackK x 1).flatMap fStr.enc) := hown
        have hsq := hbq.size
        clear hb hown c1 c3 c4 c5
        generalize wr.drewN nq = wq at *
        go_wp2_with (at_builtin; refine wpList_append_one rfl _ _ 38 rfl (w.heap.size + 1) 9 i0 (.string ⟨#[]⟩) 1 16 Try.underlying38 hi hz0 hz1 hz2 rfl (by decide) u3 _ _ rfl hoq [.string ⟨#[115, 104, 111, 118, 101, 108, 115]⟩] rfl (by intro u hu; rw [List.mem_singleton] at hu; subst hu; rfl) rfl (by omega) (by decide) (by omega) ?_)
        intro v' u' ho' hbu _ _
        have hb' := hbq.trans hbu
        go_wp2
        go_roundw
        case rel => exact ⟨2, by omega, by go_num, hb', by rw [HL.out, List.flatMap_append, List.length_append]; exact ho'⟩
        case measure => first | (simp [intOf]; done) | (simp [intOf]; omega)
      · have HL := Lib.hid (show lackK x 2 = lackK x 1 from by show _ ++ lack x.shovels x.people _ = _; unfold lack; rw [if_neg h]; exact List.append_nil _)
        go_wp2
        go_quiet (fail)
        have hbq := hb.trans (below_drewN (Below.refl _ _) nq)
        go_wp2
        go_roundw
        case rel => exact ⟨2, by omega, by go_num, hbq, by rw [HL.out]; exact hown⟩
        case measure => first | (simp [intOf]; done) | (simp [intOf]; omega)
    · by_cases h : x.probes < x.people
      · have HL := Lib.hid (show lackK x 3 = lackK x 2 ++ [⟨#[112, 114, 111, 98, 101, 115]⟩] from by show _ ++ lack x.probes x.people _ = _; unfold lack; rw [if_pos h]; rfl)
        have hlen := lackK_len x 2
        go_wp2
        go_quiet (fail)
        have hbq := hb.trans (below_drewN (Below.refl _ _) nq)
        have hoq : (wr.drewN nq).ownsRow (w.heap.size + 1) 9 1 u3 (lackK x 2).length ((lackK x 2).flatMap fStr.enc) := hown
        have hsq := hbq.size
        clear hb hown c1 c3 c4 c5
        generalize wr.drewN nq = wq at *
        go_wp2_with (at_builtin; refine wpList_append_one rfl _ _ 38 rfl (w.heap.size + 1) 9 i0 (.string ⟨#[]⟩) 1 16 Try.underlying38 hi hz0 hz1 hz2 rfl (by decide) u3 _ _ rfl hoq [.string ⟨#[112, 114, 111, 98, 101, 115]⟩] rfl (by intro u hu; rw [List.mem_singleton] at hu; subst hu; rfl) rfl (by omega) (by decide) (by omega) ?_)
        intro v' u' ho' hbu _ _
        have hb' := hbq.trans hbu
        go_wp2
        go_roundw
        case rel => exact ⟨3, by omega, by go_num, hb', by rw [HL.out, List.flatMap_append, List.length_append]; exact ho'⟩
        case measure => first | (simp [intOf]; done) | (simp [intOf]; omega)
      · have HL := Lib.hid (show lackK x 3 = lackK x 2 from by show _ ++ lack x.probes x.people _ = _; unfold lack; rw [if_neg h]; exact List.append_nil _)
        go_wp2
        go_quiet (fail)
        have hbq := hb.trans (below_drewN (Below.refl _ _) nq)
        go_wp2
        go_roundw
        case rel => exact ⟨3, by omega, by go_num, hbq, by rw [HL.out]; exact hown⟩
        case measure => first | (simp [intOf]; done) | (simp [intOf]; omega)
    · go_wp2
      go_ret
      obtain ⟨fp, hs, hf, hn⟩ := Sl.of_own (E := fStr) (n := (lackK x 3).length) rfl hown (lackK_ok x 3)
      exact ⟨_, rfl, ⟨⟨fp, hs, fun b hb' => Nat.le_of_succ_le (hf b hb'), hn⟩, hb1.trans (hb.mono (Nat.le_succ _))⟩⟩
end Go.Proofs.Ytjfaafoldllppaa

namespace Go.Proofs.Ytjfaafoldllppaa
open Go.RowKit
set_option linter.unusedVariables false

def goesB (x : DGroup) (n : Int) : Bool := decide ((lacksF x).length = 0) && decide (guidesF x.people n ≤ x.guides) && decide (n ≤ x.skill)

set_option maxRecDepth 100000 in
set_option maxHeartbeats 4000000 in
theorem l24Goes_any (pb po : Nat) (x : DGroup) (n : Int) (w : World) (hp : PGroup w pb po x) (hpe : 1 ≤ x.people ∧ x.people ≤ 1000) :
    Calls Try.prog 51 #[.pointer (some ⟨pb, po, none⟩), .int .i64 n] w fun e w' => e = .returned (.bool (goesB x n)) ∧ Below w.heap.size w w' := by
  have hplt := hp.lt
  obtain ⟨c0, c1, c2, c3, c4, c5, c6⟩ := id hp
  go_enter Try.func51, Try.ntmps51
  go_wp2
  have gc1 := cell_regrown c1
  have gc2 := cell_regrown c2
  have gc6 := cell_regrown c6
  refine wp_region_mix (C := fun w' => ∃ p : Regrown, w' = Go.Sort.grow (redrawn w p.d) p.os) [true, false, true, true, true, true, true, true, true, true, true, true, true, true, false, true, true, true, true, true, true, true, true, true, true, true] (by kernel_rfl) (by kernel_rfl) (by kernel_rfl) (fun _ _ d _ _ h => by cases d <;> exact h) (regrown_of_below (Below.drew (Below.refl _ _))) ?_
  have hS0 : Below w.heap.size w w.drew := Below.drew (Below.refl _ _)
  refine wpMix_pure (by kernel_rfl) (fun K hK => ?_); go_big_quiet_op; refine hK _ ?_; clear hK K
  refine wpMix_act (by kernel_rfl) (fun K hK => ?_)
  go_big_op
  refine (l24Lacks_any pb po x _ (hp.below hS0 hplt)).mono ?_
  rintro e wr1 ⟨v, rfl, ⟨⟨fp, hsl, _, _⟩, hbr1⟩⟩
  have hbr1S : Below w.heap.size w wr1 := hS0.trans (hbr1.mono hS0.size)
  refine hK _ _ (regrown_of_below hbr1S) ?_
  clear hK K
  obtain ⟨A, cap, rfl, hlen, hcap⟩ := hsl.form
  refine wpMix_pure (by kernel_rfl) (fun K hK => ?_); go_big_quiet_op; refine hK _ ?_; clear hK K
  by_cases hq3 : (lacksF x).length = 0
  · skip
    have e1 : (((lacksF x).length : Int) == 0) = true := by rw [beq_iff_eq]; omega
    refine wpMix_pure (by kernel_rfl) (fun K hK => ?_); go_big_quiet_op; refine hK _ ?_; clear hK K
    refine wpMix_pure (by kernel_rfl) (fun K hK => ?_); go_big_quiet_op; refine hK _ ?_; clear hK K
    refine wpMix_pure (by kernel_rfl) (fun K hK => ?_); go_big_quiet_op; refine hK _ ?_; clear hK K
    refine wpMix_pure (by kernel_rfl) (fun K hK => ?_); go_big_quiet_op; refine hK _ ?_; clear hK K
    refine wpMix_pure (by kernel_rfl) (fun K hK => ?_); go_big_quiet_op; refine hK _ ?_; clear hK K
    refine wpMix_pure (by kernel_rfl) (fun K hK => ?_); go_big_quiet_op; refine hK _ ?_; clear hK K
    refine wpMix_pure (by kernel_rfl) (fun K hK => ?_); go_big_quiet_op; refine hK _ ?_; clear hK K
    refine wpMix_pure (by kernel_rfl) (fun K hK => ?_); go_big_quiet_op; refine hK _ ?_; clear hK K
    refine wpMix_pure (by kernel_rfl) (fun K hK => ?_); go_big_quiet_op; refine hK _ ?_; clear hK K
    refine wpMix_pure (by kernel_rfl) (fun K hK => ?_); go_big_quiet_op; refine hK _ ?_; clear hK K
    refine wpMix_pure (by kernel_rfl) (fun K hK => ?_); go_big_quiet_op; refine hK _ ?_; clear hK K
    refine wpMix_act (by kernel_rfl) (fun K hK => ?_)
    go_big_op
    refine (l24Guides_any _ _ _ hpe).mono ?_
    rintro e w' ⟨rfl, rfl⟩
    refine hK _ _ (regrown_of_below hbr1S) ?_
    clear hK K
    by_cases hq15 : guidesF x.people n ≤ x.guides
    · skip
      refine wpMix_pure (by kernel_rfl) (fun K hK => ?_); go_big_quiet_op; refine hK _ ?_; clear hK K
      refine wpMix_pure (by kernel_rfl) (fun K hK => ?_); go_big_quiet_op; refine hK _ ?_; clear hK K
      refine wpMix_pure (by kernel_rfl) (fun K hK => ?_); go_big_quiet_op; refine hK _ ?_; clear hK K
      refine wpMix_pure (by kernel_rfl) (fun K hK => ?_); go_big_quiet_op; refine hK _ ?_; clear hK K
      refine wpMix_pure (by kernel_rfl) (fun K hK => ?_); go_big_quiet_op; refine hK _ ?_; clear hK K
      refine wpMix_pure (by kernel_rfl) (fun K hK => ?_); go_big_quiet_op; refine hK _ ?_; clear hK K
      refine wpMix_pure (by kernel_rfl) (fun K hK => ?_); go_big_quiet_op; refine hK _ ?_; clear hK K
      refine wpMix_pure (by kernel_rfl) (fun K hK => ?_); go_big_quiet_op; refine hK _ ?_; clear hK K
      by_cases hq23 : n ≤ x.skill
      · skip
        refine wpMix_pure (by kernel_rfl) (fun K hK => ?_); go_big_quiet_op; refine hK _ ?_; clear hK K
        refine wpMix_pure (by kernel_rfl) (fun K hK => ?_); go_big_quiet_op; refine hK _ ?_; clear hK K
        refine wpMix_pure (by kernel_rfl) (fun K hK => ?_); go_big_quiet_op; refine hK _ ?_; clear hK K
        refine wpMix_nil ?_
        go_wp2
        go_ret
        exact ⟨ret_bool (by simp [goesB, *]), hbr1S⟩
      · skip
        have e3 : decide (n ≤ x.skill) = false := by simpa using hq23
        refine wpMix_pure (by kernel_rfl) (fun K hK => ?_); go_big_quiet_op; refine hK _ ?_; clear hK K
        refine wpMix_pure (by kernel_rfl) (fun K hK => ?_); go_big_quiet_op; refine hK _ ?_; clear hK K
        refine wpMix_pure (by kernel_rfl) (fun K hK => ?_); go_big_quiet_op; refine hK _ ?_; clear hK K
        refine wpMix_nil ?_
        go_wp2
        go_ret
        exact ⟨ret_bool (by simp [goesB, *]), hbr1S⟩
    · skip
      have e2 : decide (guidesF x.people n ≤ x.guides) = false := by simpa using hq15
      refine wpMix_pure (by kernel_rfl) (fun K hK => ?_); go_big_quiet_op; refine hK _ ?_; clear hK K
      refine wpMix_pure (by kernel_rfl) (fun K hK => ?_); go_big_quiet_op; refine hK _ ?_; clear hK K
      refine wpMix_pure (by kernel_rfl) (fun K hK => ?_); go_big_quiet_op; refine hK _ ?_; clear hK K
      refine wpMix_skip (by kernel_rfl) (fun K hK => ?_)
      simp only [Act.put, List.setIfInBounds_toArray, List.set_cons_zero, List.set_cons_succ]
      refine hK _ ?_; clear hK K
      refine wpMix_skip (by kernel_rfl) (fun K hK => ?_)
      simp only [Act.put, List.setIfInBounds_toArray, List.set_cons_zero, List.set_cons_succ]
      refine hK _ ?_; clear hK K
      refine wpMix_skip (by kernel_rfl) (fun K hK => ?_)
      simp only [Act.put, List.setIfInBounds_toArray, List.set_cons_zero, List.set_cons_succ]
      refine hK _ ?_; clear hK K
      refine wpMix_skip (by kernel_rfl) (fun K hK => ?_)
      simp only [Act.put, List.setIfInBounds_toArray, List.set_cons_zero, List.set_cons_succ]
      refine hK _ ?_; clear hK K
      refine wpMix_skip (by kernel_rfl) (fun K hK => ?_)
      simp only [Act.put, List.setIfInBounds_toArray, List.set_cons_zero, List.set_cons_succ]
      refine hK _ ?_; clear hK K
      refine wpMix_skip (by kernel_rfl) (fun K hK => ?_)
      simp only [Act.put, List.setIfInBounds_toArray, List.set_cons_zero, List.set_cons_succ]
      refine hK _ ?_; clear hK K
      refine wpMix_pure (by kernel_rfl) (fun K hK => ?_); go_big_quiet_op; refine hK _ ?_; clear hK K
      refine wpMix_pure (by kernel_rfl) (fun K hK => ?_); go_big_quiet_op; refine hK _ ?_; clear hK K
      refine wpMix_nil ?_
      go_wp2
      go_ret
      exact ⟨ret_bool (by simp [goesB, *]), hbr1S⟩
  · skip
    have e1 : (((lacksF x).length : Int) == 0) = false := by rw [beq_eq_false_iff_ne]; omega
    refine wpMix_pure (by kernel_rfl) (fun K hK => ?_); go_big_quiet_op; refine hK _ ?_; clear hK K
    refine wpMix_pure (by kernel_rfl) (fun K hK => ?_); go_big_quiet_op; refine hK _ ?_; clear hK K
    refine wpMix_skip (by kernel_rfl) (fun K hK => ?_)
    simp only [Act.put, List.setIfInBounds_toArray, List.set_cons_zero, List.set_cons_succ]
    refine hK _ ?_; clear hK K
    refine wpMix_skip (by kernel_rfl) (fun K hK => ?_)
    simp only [Act.put, List.setIfInBounds_toArray, List.set_cons_zero, List.set_cons_succ]
    refine hK _ ?_; clear hK K
    refine wpMix_skip (by kernel_rfl) (fun K hK => ?_)
    simp only [Act.put, List.setIfInBounds_toArray, List.set_cons_zero, List.set_cons_succ]
    refine hK _ ?_; clear hK K
    refine wpMix_skip (by kernel_rfl) (fun K hK => ?_)
    simp only [Act.put, List.setIfInBounds_toArray, List.set_cons_zero, List.set_cons_succ]
    refine hK _ ?_; clear hK K
    refine wpMix_skip (by kernel_rfl) (fun K hK => ?_)
    simp only [Act.put, List.setIfInBounds_toArray, List.set_cons_zero, List.set_cons_succ]
    refine hK _ ?_; clear hK K
    refine wpMix_skip (by kernel_rfl) (fun K hK => ?_)
    simp only [Act.put, List.setIfInBounds_toArray, List.set_cons_zero, List.set_cons_succ]
    refine hK _ ?_; clear hK K
    refine wpMix_skip (by kernel_rfl) (fun K hK => ?_)
    simp only [Act.put, List.setIfInBounds_toArray, List.set_cons_zero, List.set_cons_succ]
    refine hK _ ?_; clear hK K
    refine wpMix_skip (by kernel_rfl) (fun K hK => ?_)
    simp only [Act.put, List.setIfInBounds_toArray, List.set_cons_zero, List.set_cons_succ]
    refine hK _ ?_; clear hK K
    refine wpMix_skip (by kernel_rfl) (fun K hK => ?_)
    simp only [Act.put, List.setIfInBounds_toArray, List.set_cons_zero, List.set_cons_succ]
    refine hK _ ?_; clear hK K
    refine wpMix_skip (by kernel_rfl) (fun K hK => ?_)
    simp only [Act.put, List.setIfInBounds_toArray, List.set_cons_zero, List.set_cons_succ]
    refine hK _ ?_; clear hK K
    refine wpMix_skip (by kernel_rfl) (fun K hK => ?_)
    simp only [Act.put, List.setIfInBounds_toArray, List.set_cons_zero, List.set_cons_succ]
    refine hK _ ?_; clear hK K
    refine wpMix_pure (by kernel_rfl) (fun K hK => ?_); go_big_quiet_op; refine hK _ ?_; clear hK K
    refine wpMix_pure (by kernel_rfl) (fun K hK => ?_); go_big_quiet_op; refine hK _ ?_; clear hK K
    refine wpMix_skip (by kernel_rfl) (fun K hK => ?_)
    simp only [Act.put, List.setIfInBounds_toArray, List.set_cons_zero, List.set_cons_succ]
    refine hK _ ?_; clear hK K
    refine wpMix_skip (by kernel_rfl) (fun K hK => ?_)
    simp only [Act.put, List.setIfInBounds_toArray, List.set_cons_zero, List.set_cons_succ]
    refine hK _ ?_; clear hK K
    refine wpMix_skip (by kernel_rfl) (fun K hK => ?_)
    simp only [Act.put, List.setIfInBounds_toArray, List.set_cons_zero, List.set_cons_succ]
    refine hK _ ?_; clear hK K
    refine wpMix_skip (by kernel_rfl) (fun K hK => ?_)
    simp only [Act.put, List.setIfInBounds_toArray, List.set_cons_zero, List.set_cons_succ]
    refine hK _ ?_; clear hK K
    refine wpMix_skip (by kernel_rfl) (fun K hK => ?_)
    simp only [Act.put, List.setIfInBounds_toArray, List.set_cons_zero, List.set_cons_succ]
    refine hK _ ?_; clear hK K
    refine wpMix_skip (by kernel_rfl) (fun K hK => ?_)
    simp only [Act.put, List.setIfInBounds_toArray, List.set_cons_zero, List.set_cons_succ]
    refine hK _ ?_; clear hK K
    refine wpMix_pure (by kernel_rfl) (fun K hK => ?_); go_big_quiet_op; refine hK _ ?_; clear hK K
    refine wpMix_pure (by kernel_rfl) (fun K hK => ?_); go_big_quiet_op; refine hK _ ?_; clear hK K
    refine wpMix_nil ?_
    go_wp2
    go_ret
    exact ⟨ret_bool (by simp [goesB, *]), hbr1S⟩
set_option maxRecDepth 100000 in
set_option maxHeartbeats 4000000 in
theorem implGoes_any (x : DGroup) (n : Int) (w0 : World) (hok : fGroup.ok x) (hpe : 1 ≤ x.people ∧ x.people ≤ 1000) :
    Calls Try.prog 42 #[.agg #[.string x.id, .int .i64 x.people, .int .i64 x.guides, .int .i64 x.beacons, .int .i64 x.shovels, .int .i64 x.probes, .int .i64 x.skill], .int .i64 n] w0 fun e w' => e = .returned (.bool (goesB x n)) ∧ Below w0.heap.size w0 w' := by
  go_enter Try.func42, Try.ntmps42
  go_wp2
  have hb0 : Below w0.heap.size w0 (w0.alloc (.cells #[.string x.id, .int .i64 x.people, .int .i64 x.guides, .int .i64 x.beacons, .int .i64 x.shovels, .int .i64 x.probes, .int .i64 x.skill] 43)) := (Below.refl _ _).alloc (Nat.le_refl _) _
  obtain ⟨c0, c1, c2, c3, c4, c5, c6⟩ := PGroup.box w0 x 43
  have hszw : w0.heap.size < (w0.alloc (.cells #[.string x.id, .int .i64 x.people, .int .i64 x.guides, .int .i64 x.beacons, .int .i64 x.shovels, .int .i64 x.probes, .int .i64 x.skill] 43)).heap.size := by simp
  generalize w0.alloc (.cells #[.string x.id, .int .i64 x.people, .int .i64 x.guides, .int .i64 x.beacons, .int .i64 x.shovels, .int .i64 x.probes, .int .i64 x.skill] 43) = w at *
  have gc0 := cell_regrown c0
  have gc1 := cell_regrown c1
  have gc2 := cell_regrown c2
  have gc3 := cell_regrown c3
  have gc4 := cell_regrown c4
  have gc5 := cell_regrown c5
  have gc6 := cell_regrown c6
  refine wp_region_mix (C := fun w' => ∃ p : Regrown, w' = Go.Sort.grow (redrawn w p.d) p.os) [true, false, true, true, true, true, true, true, true, true, false, true, true, true, true, true, true, true, true, true] (by kernel_rfl) (by kernel_rfl) (by kernel_rfl) (fun _ _ d _ _ h => by cases d <;> exact h) (regrown_of_below (Below.drew (Below.refl _ _))) ?_
  have hS0 : Below w.heap.size w w.drew := Below.drew (Below.refl _ _)
  refine wpMix_pure (by kernel_rfl) (fun K hK => ?_); go_big_quiet_op; refine hK _ ?_; clear hK K
  refine wpMix_act (by kernel_rfl) (fun K hK => ?_)
  go_big_op
  refine (problems_any x _).mono ?_
  rintro e wr1 ⟨v, rfl, ⟨⟨fp, hsl, _, _⟩, hbr1⟩⟩
  have hbr1S : Below w.heap.size w wr1 := hS0.trans (hbr1.mono hS0.size)
  refine hK _ _ (regrown_of_below hbr1S) ?_
  clear hK K
  obtain ⟨A, cap, rfl, hlen, hcap⟩ := hsl.form
  refine wpMix_pure (by kernel_rfl) (fun K hK => ?_); go_big_quiet_op; refine hK _ ?_; clear hK K
  by_cases hq3 : (lacksF x).length = 0
  · skip
    have e1 : (((lacksF x).length : Int) == 0) = true := by rw [beq_iff_eq]; omega
    refine wpMix_pure (by kernel_rfl) (fun K hK => ?_); go_big_quiet_op; refine hK _ ?_; clear hK K
    refine wpMix_pure (by kernel_rfl) (fun K hK => ?_); go_big_quiet_op; refine hK _ ?_; clear hK K
    refine wpMix_pure (by kernel_rfl) (fun K hK => ?_); go_big_quiet_op; refine hK _ ?_; clear hK K
    refine wpMix_pure (by kernel_rfl) (fun K hK => ?_); go_big_quiet_op; refine hK _ ?_; clear hK K
    refine wpMix_pure (by kernel_rfl) (fun K hK => ?_); go_big_quiet_op; refine hK _ ?_; clear hK K
    refine wpMix_pure (by kernel_rfl) (fun K hK => ?_); go_big_quiet_op; refine hK _ ?_; clear hK K
    refine wpMix_pure (by kernel_rfl) (fun K hK => ?_); go_big_quiet_op; refine hK _ ?_; clear hK K
    refine wpMix_act (by kernel_rfl) (fun K hK => ?_)
    go_big_op
    refine (neededGuides_any _ _ _ hpe).mono ?_
    rintro e w' ⟨rfl, rfl⟩
    refine hK _ _ (regrown_of_below hbr1S) ?_
    clear hK K
    by_cases hq11 : guidesF x.people n ≤ x.guides
    · skip
      refine wpMix_pure (by kernel_rfl) (fun K hK => ?_); go_big_quiet_op; refine hK _ ?_; clear hK K
      refine wpMix_pure (by kernel_rfl) (fun K hK => ?_); go_big_quiet_op; refine hK _ ?_; clear hK K
      refine wpMix_pure (by kernel_rfl) (fun K hK => ?_); go_big_quiet_op; refine hK _ ?_; clear hK K
      refine wpMix_pure (by kernel_rfl) (fun K hK => ?_); go_big_quiet_op; refine hK _ ?_; clear hK K
      refine wpMix_pure (by kernel_rfl) (fun K hK => ?_); go_big_quiet_op; refine hK _ ?_; clear hK K
      refine wpMix_pure (by kernel_rfl) (fun K hK => ?_); go_big_quiet_op; refine hK _ ?_; clear hK K
      by_cases hq17 : n ≤ x.skill
      · skip
        refine wpMix_pure (by kernel_rfl) (fun K hK => ?_); go_big_quiet_op; refine hK _ ?_; clear hK K
        refine wpMix_pure (by kernel_rfl) (fun K hK => ?_); go_big_quiet_op; refine hK _ ?_; clear hK K
        refine wpMix_pure (by kernel_rfl) (fun K hK => ?_); go_big_quiet_op; refine hK _ ?_; clear hK K
        refine wpMix_nil ?_
        go_wp2
        go_ret
        exact ⟨ret_bool (by simp [goesB, *]), hb0.trans (hbr1S.mono hb0.size)⟩
      · skip
        have e3 : decide (n ≤ x.skill) = false := by simpa using hq17
        refine wpMix_pure (by kernel_rfl) (fun K hK => ?_); go_big_quiet_op; refine hK _ ?_; clear hK K
        refine wpMix_pure (by kernel_rfl) (fun K hK => ?_); go_big_quiet_op; refine hK _ ?_; clear hK K
        refine wpMix_pure (by kernel_rfl) (fun K hK => ?_); go_big_quiet_op; refine hK _ ?_; clear hK K
        refine wpMix_nil ?_
        go_wp2
        go_ret
        exact ⟨ret_bool (by simp [goesB, *]), hb0.trans (hbr1S.mono hb0.size)⟩
    · skip
      have e2 : decide (guidesF x.people n ≤ x.guides) = false := by simpa using hq11
      refine wpMix_pure (by kernel_rfl) (fun K hK => ?_); go_big_quiet_op; refine hK _ ?_; clear hK K
      refine wpMix_pure (by kernel_rfl) (fun K hK => ?_); go_big_quiet_op; refine hK _ ?_; clear hK K
      refine wpMix_pure (by kernel_rfl) (fun K hK => ?_); go_big_quiet_op; refine hK _ ?_; clear hK K
      refine wpMix_skip (by kernel_rfl) (fun K hK => ?_)
      simp only [Act.put, List.setIfInBounds_toArray, List.set_cons_zero, List.set_cons_succ]
      refine hK _ ?_; clear hK K
      refine wpMix_skip (by kernel_rfl) (fun K hK => ?_)
      simp only [Act.put, List.setIfInBounds_toArray, List.set_cons_zero, List.set_cons_succ]
      refine hK _ ?_; clear hK K
      refine wpMix_skip (by kernel_rfl) (fun K hK => ?_)
      simp only [Act.put, List.setIfInBounds_toArray, List.set_cons_zero, List.set_cons_succ]
      refine hK _ ?_; clear hK K
      refine wpMix_skip (by kernel_rfl) (fun K hK => ?_)
      simp only [Act.put, List.setIfInBounds_toArray, List.set_cons_zero, List.set_cons_succ]
      refine hK _ ?_; clear hK K
      refine wpMix_pure (by kernel_rfl) (fun K hK => ?_); go_big_quiet_op; refine hK _ ?_; clear hK K
      refine wpMix_pure (by kernel_rfl) (fun K hK => ?_); go_big_quiet_op; refine hK _ ?_; clear hK K
      refine wpMix_nil ?_
      go_wp2
      go_ret
      exact ⟨ret_bool (by simp [goesB, *]), hb0.trans (hbr1S.mono hb0.size)⟩
  · skip
    have e1 : (((lacksF x).length : Int) == 0) = false := by rw [beq_eq_false_iff_ne]; omega
    refine wpMix_pure (by kernel_rfl) (fun K hK => ?_); go_big_quiet_op; refine hK _ ?_; clear hK K
    refine wpMix_pure (by kernel_rfl) (fun K hK => ?_); go_big_quiet_op; refine hK _ ?_; clear hK K
    refine wpMix_skip (by kernel_rfl) (fun K hK => ?_)
    simp only [Act.put, List.setIfInBounds_toArray, List.set_cons_zero, List.set_cons_succ]
    refine hK _ ?_; clear hK K
    refine wpMix_skip (by kernel_rfl) (fun K hK => ?_)
    simp only [Act.put, List.setIfInBounds_toArray, List.set_cons_zero, List.set_cons_succ]
    refine hK _ ?_; clear hK K
    refine wpMix_skip (by kernel_rfl) (fun K hK => ?_)
    simp only [Act.put, List.setIfInBounds_toArray, List.set_cons_zero, List.set_cons_succ]
    refine hK _ ?_; clear hK K
    refine wpMix_skip (by kernel_rfl) (fun K hK => ?_)
    simp only [Act.put, List.setIfInBounds_toArray, List.set_cons_zero, List.set_cons_succ]
    refine hK _ ?_; clear hK K
    refine wpMix_skip (by kernel_rfl) (fun K hK => ?_)
    simp only [Act.put, List.setIfInBounds_toArray, List.set_cons_zero, List.set_cons_succ]
    refine hK _ ?_; clear hK K
    refine wpMix_skip (by kernel_rfl) (fun K hK => ?_)
    simp only [Act.put, List.setIfInBounds_toArray, List.set_cons_zero, List.set_cons_succ]
    refine hK _ ?_; clear hK K
    refine wpMix_skip (by kernel_rfl) (fun K hK => ?_)
    simp only [Act.put, List.setIfInBounds_toArray, List.set_cons_zero, List.set_cons_succ]
    refine hK _ ?_; clear hK K
    refine wpMix_pure (by kernel_rfl) (fun K hK => ?_); go_big_quiet_op; refine hK _ ?_; clear hK K
    refine wpMix_pure (by kernel_rfl) (fun K hK => ?_); go_big_quiet_op; refine hK _ ?_; clear hK K
    refine wpMix_skip (by kernel_rfl) (fun K hK => ?_)
    simp only [Act.put, List.setIfInBounds_toArray, List.set_cons_zero, List.set_cons_succ]
    refine hK _ ?_; clear hK K
    refine wpMix_skip (by kernel_rfl) (fun K hK => ?_)
    simp only [Act.put, List.setIfInBounds_toArray, List.set_cons_zero, List.set_cons_succ]
    refine hK _ ?_; clear hK K
    refine wpMix_skip (by kernel_rfl) (fun K hK => ?_)
    simp only [Act.put, List.setIfInBounds_toArray, List.set_cons_zero, List.set_cons_succ]
    refine hK _ ?_; clear hK K
    refine wpMix_skip (by kernel_rfl) (fun K hK => ?_)
    simp only [Act.put, List.setIfInBounds_toArray, List.set_cons_zero, List.set_cons_succ]
    refine hK _ ?_; clear hK K
    refine wpMix_pure (by kernel_rfl) (fun K hK => ?_); go_big_quiet_op; refine hK _ ?_; clear hK K
    refine wpMix_pure (by kernel_rfl) (fun K hK => ?_); go_big_quiet_op; refine hK _ ?_; clear hK K
    refine wpMix_nil ?_
    go_wp2
    go_ret
    exact ⟨ret_bool (by simp [goesB, *]), hb0.trans (hbr1S.mono hb0.size)⟩
def mayGoB (x : DGroup) (n : Int) : Bool := groupB x && levelB n && goesB x n
theorem groupB_people {x : DGroup} (h : groupB x = true) : 1 ≤ x.people ∧ x.people ≤ 1000 := by
  unfold groupB at h
  simp only [Bool.and_eq_true] at h
  have := inB_true.1 h.1.1.1.1.1.2
  omega
set_option maxRecDepth 100000 in
set_option maxHeartbeats 1000000 in
theorem specMayGo_any (x : DGroup) (n : Int) (w : World) (hok : fGroup.ok x) :
    Calls Try.prog 23 #[.agg #[.string x.id, .int .i64 x.people, .int .i64 x.guides, .int .i64 x.beacons, .int .i64 x.shovels, .int .i64 x.probes, .int .i64 x.skill], .int .i64 n] w fun e w' => e = .returned (.bool (mayGoB x n)) ∧ Below w.heap.size w w' := by
  have hp := PGroup.box w x 43
  have hok0 : x.id.size ≤ 9223372036854775807 := hok.1
  go_enter Try.func23, Try.ntmps23
  go_wp2_with fail
  refine (l24One_any _ 0 x _ hp hok0).mono ?_
  rintro e w1 ⟨rfl, hb⟩
  have hp1 := hp.below hb hp.lt
  have hb' : Below w.heap.size w w1 := ((Below.refl _ _).alloc (Nat.le_refl _) _).trans (hb.mono (by simp))
  cases h0 : groupB x
  · go_wp2
    go_ret
    exact ⟨ret_bool (by simp [mayGoB, *]), hb'⟩
  · have hpe := groupB_people h0
    cases h1 : levelB n
    · go_wp2_with (go_at_call 26; refine (l17Is_any _ _).mono ?_; rintro e w' ⟨rfl, rfl⟩)
      go_ret
      exact ⟨ret_bool (by simp [mayGoB, *]), hb'⟩
    · go_wp2_with (go_at_call 26; refine (l17Is_any _ _).mono ?_; rintro e w' ⟨rfl, rfl⟩)
      refine (l24Goes_any _ 0 x n _ hp1 hpe).mono ?_
      rintro e w2 ⟨rfl, hb2⟩
      go_wp2
      go_ret
      exact ⟨ret_bool (by simp [mayGoB, *]), hb'.trans (hb2.mono hb'.size)⟩
set_option maxRecDepth 100000 in
set_option maxHeartbeats 1000000 in
theorem implMayGo_any (x : DGroup) (n : Int) (w : World) (hok : fGroup.ok x) :
    Calls Try.prog 17 #[.agg #[.string x.id, .int .i64 x.people, .int .i64 x.guides, .int .i64 x.beacons, .int .i64 x.shovels, .int .i64 x.probes, .int .i64 x.skill], .int .i64 n] w fun e w' => e = .returned (.bool (mayGoB x n)) ∧ Below w.heap.size w w' := by
  obtain ⟨c0, c1, c2, c3, c4, c5, c6⟩ := PGroup.box w x 43
  go_enter Try.func17, Try.ntmps17
  go_wp2_with fail
  refine (implValid_any x _ hok).mono ?_
  rintro e w1 ⟨rfl, hb⟩
  replace c0 := (hb.cell (block_lt_of_cell c0)).trans c0
  replace c1 := (hb.cell (block_lt_of_cell c1)).trans c1
  replace c2 := (hb.cell (block_lt_of_cell c2)).trans c2
  replace c3 := (hb.cell (block_lt_of_cell c3)).trans c3
  replace c4 := (hb.cell (block_lt_of_cell c4)).trans c4
  replace c5 := (hb.cell (block_lt_of_cell c5)).trans c5
  replace c6 := (hb.cell (block_lt_of_cell c6)).trans c6
  have hb' : Below w.heap.size w w1 := ((Below.refl _ _).alloc (Nat.le_refl _) _).trans (hb.mono (by simp))
  cases h0 : groupB x
  · go_wp2
    go_ret
    exact ⟨ret_bool (by simp [mayGoB, *]), hb'⟩
  · have hpe := groupB_people h0
    cases h1 : levelB n
    · go_wp2_with (go_at_call 31; refine (levelOk_any _ _).mono ?_; rintro e w' ⟨rfl, rfl⟩)
      go_ret
      exact ⟨ret_bool (by simp [mayGoB, *]), hb'⟩
    · go_wp2_with (go_at_call 31; refine (levelOk_any _ _).mono ?_; rintro e w' ⟨rfl, rfl⟩)
      refine (implGoes_any x n _ hok hpe).mono ?_
      rintro e w2 ⟨rfl, hb2⟩
      go_wp2
      go_ret
      exact ⟨ret_bool (by simp [mayGoB, *]), hb'.trans (hb2.mono hb'.size)⟩

end Go.Proofs.Ytjfaafoldllppaa

namespace Go.Proofs.Ytjfaafoldllppaa
open Go.RowKit
set_option linter.unusedVariables false

def g0 : DGroup := ⟨⟨#[]⟩, 0, 0, 0, 0, 0, 0⟩
def gOk (xs : List DGroup) (i : Nat) : Bool := groupB (xs.getD i g0) && (decide (i = 0) || ltS (xs.getD (i - 1) g0).id (xs.getD i g0).id)
def groupsB (xs : List DGroup) : Bool := allIdx (gOk xs) xs.length && decide (xs.length ≤ 8)
theorem gOk_zero {xs : List DGroup} (h : 0 < xs.length) : gOk xs 0 = groupB xs[0] := by simp [gOk, h]
theorem gOk_succ {xs : List DGroup} {m : Nat} (h : m + 1 < xs.length) : gOk xs (m + 1) = (groupB xs[m + 1] && ltS xs[m].id xs[m + 1].id) := by
  have h1 : m < xs.length := by omega
  simp [gOk, h, h1]
theorem groupsB_bad {xs : List DGroup} {k : Nat} (h : k < xs.length) (h1 : gOk xs k = false) : groupsB xs = false := by
  unfold groupsB; rw [allIdx_bad h h1]; rfl
theorem groupsB_one {xs : List DGroup} (h : groupsB xs = true) {k : Nat} (hk : k < xs.length) : groupB xs[k] = true := by
  unfold groupsB at h
  simp only [Bool.and_eq_true] at h
  have := allIdx_true.1 h.1 k hk
  unfold gOk at this
  simp only [Bool.and_eq_true] at this
  rw [getD_of_lt hk] at this
  exact this.1
theorem groupsB_len {xs : List DGroup} (h : groupsB xs = true) : xs.length ≤ 8 := by
  unfold groupsB at h; simp at h; exact h.2
set_option maxRecDepth 100000 in
set_option maxHeartbeats 4000000 in
theorem l24Ok_any (v : Value) (xs : List DGroup) (fp : List Nat) (w : World) (hx : Sl fGroup.cod w v xs fp) :
    Calls Try.prog 25 #[v] w fun e w' => e = .returned (.bool (groupsB xs)) ∧ Below w.heap.size w w' := by
  obtain ⟨A, cap, rfl, hlen, hcap⟩ := hx.form
  go_enter Try.func25, Try.ntmps25
  go_wp2
  go_loopw [3] (fun i wr => ∃ k : Nat, k ≤ xs.length ∧ i = .int .i64 k ∧ Hid (allIdx (gOk xs) k = true) ∧ Below w.heap.size w wr) (fun i _ => xs.length - (intOf i).toNat)
  case atStart => exact ⟨0, Nat.zero_le _, rfl, rfl, Below.refl _ _⟩
  case round =>
    obtain ⟨k, hk, rfl, H0, hb⟩ := hrel
    by_cases hlt : k < xs.length
    · rcases Nat.eq_zero_or_pos k with rfl | hpos
      · obtain ⟨b, off, rfl, _, hok, hp⟩ := PGroup.elem (hx.below' hb) hlt
        have hok0 : xs[0].id.size ≤ 9223372036854775807 := hok.1
        have c0 := hp.c0
        have hplt := hp.lt
        go_wp2
        have gc0 := cell_regrown c0
        refine wp_region_mix (C := fun w' => ∃ p : Regrown, w' = Go.Sort.grow (redrawn wr p.d) p.os) [true, true, true, false, true, true, true, true, true, true, true, true, true, true, true, true, true, true, true, true, true, true, true] (by kernel_rfl) (by kernel_rfl) (by kernel_rfl) (fun _ _ d _ _ h => by cases d <;> exact h) (regrown_of_below (Below.drew (Below.refl _ _))) ?_
        have hS0 : Below (wr.heap.size) wr wr.drew := Below.drew (Below.refl _ _)
        refine wpMix_pure (by kernel_rfl) (fun K hK => ?_); go_big_quiet_op; refine hK _ ?_; clear hK K
        refine wpMix_pure (by kernel_rfl) (fun K hK => ?_); go_big_quiet_op; refine hK _ ?_; clear hK K
        refine wpMix_pure (by kernel_rfl) (fun K hK => ?_); go_big_quiet_op; refine hK _ ?_; clear hK K
        refine wpMix_act (by kernel_rfl) (fun K hK => ?_)
        go_big_op
        refine (l24One_any _ _ _ _ (hp.below hS0 hplt) hok0).mono ?_
        rintro e wr1 ⟨rfl, hbr1⟩
        have hbr1S : Below (wr.heap.size) wr wr1 := hS0.trans (hbr1.mono hS0.size)
        refine hK _ _ (regrown_of_below hbr1S) ?_
        clear hK K
        cases hq3 : groupB xs[0]
        · skip
          refine wpMix_pure (by kernel_rfl) (fun K hK => ?_); go_big_quiet_op; refine hK _ ?_; clear hK K
          refine wpMix_pure (by kernel_rfl) (fun K hK => ?_); go_big_quiet_op; refine hK _ ?_; clear hK K
          refine wpMix_skip (by kernel_rfl) (fun K hK => ?_)
          simp only [Act.put, List.setIfInBounds_toArray, List.set_cons_zero, List.set_cons_succ]
          refine hK _ ?_; clear hK K
          refine wpMix_skip (by kernel_rfl) (fun K hK => ?_)
          simp only [Act.put, List.setIfInBounds_toArray, List.set_cons_zero, List.set_cons_succ]
          refine hK _ ?_; clear hK K
          refine wpMix_skip (by kernel_rfl) (fun K hK => ?_)
          simp only [Act.put, List.setIfInBounds_toArray, List.set_cons_zero, List.set_cons_succ]
          refine hK _ ?_; clear hK K
          refine wpMix_skip (by kernel_rfl) (fun K hK => ?_)
          simp only [Act.put, List.setIfInBounds_toArray, List.set_cons_zero, List.set_cons_succ]
          refine hK _ ?_; clear hK K
          refine wpMix_skip (by kernel_rfl) (fun K hK => ?_)
          simp only [Act.put, List.setIfInBounds_toArray, List.set_cons_zero, List.set_cons_succ]
          refine hK _ ?_; clear hK K
          refine wpMix_skip (by kernel_rfl) (fun K hK => ?_)
          simp only [Act.put, List.setIfInBounds_toArray, List.set_cons_zero, List.set_cons_succ]
          refine hK _ ?_; clear hK K
          refine wpMix_skip (by kernel_rfl) (fun K hK => ?_)
          simp only [Act.put, List.setIfInBounds_toArray, List.set_cons_zero, List.set_cons_succ]
          refine hK _ ?_; clear hK K
          refine wpMix_skip (by kernel_rfl) (fun K hK => ?_)
          simp only [Act.put, List.setIfInBounds_toArray, List.set_cons_zero, List.set_cons_succ]
          refine hK _ ?_; clear hK K
          refine wpMix_skip (by kernel_rfl) (fun K hK => ?_)
          simp only [Act.put, List.setIfInBounds_toArray, List.set_cons_zero, List.set_cons_succ]
          refine hK _ ?_; clear hK K
          refine wpMix_skip (by kernel_rfl) (fun K hK => ?_)
          simp only [Act.put, List.setIfInBounds_toArray, List.set_cons_zero, List.set_cons_succ]
          refine hK _ ?_; clear hK K
          refine wpMix_skip (by kernel_rfl) (fun K hK => ?_)
          simp only [Act.put, List.setIfInBounds_toArray, List.set_cons_zero, List.set_cons_succ]
          refine hK _ ?_; clear hK K
          refine wpMix_skip (by kernel_rfl) (fun K hK => ?_)
          simp only [Act.put, List.setIfInBounds_toArray, List.set_cons_zero, List.set_cons_succ]
          refine hK _ ?_; clear hK K
          refine wpMix_skip (by kernel_rfl) (fun K hK => ?_)
          simp only [Act.put, List.setIfInBounds_toArray, List.set_cons_zero, List.set_cons_succ]
          refine hK _ ?_; clear hK K
          refine wpMix_skip (by kernel_rfl) (fun K hK => ?_)
          simp only [Act.put, List.setIfInBounds_toArray, List.set_cons_zero, List.set_cons_succ]
          refine hK _ ?_; clear hK K
          refine wpMix_skip (by kernel_rfl) (fun K hK => ?_)
          simp only [Act.put, List.setIfInBounds_toArray, List.set_cons_zero, List.set_cons_succ]
          refine hK _ ?_; clear hK K
          refine wpMix_skip (by kernel_rfl) (fun K hK => ?_)
          simp only [Act.put, List.setIfInBounds_toArray, List.set_cons_zero, List.set_cons_succ]
          refine hK _ ?_; clear hK K
          refine wpMix_pure (by kernel_rfl) (fun K hK => ?_); go_big_quiet_op; refine hK _ ?_; clear hK K
          refine wpMix_nil ?_
          go_wp2
          go_ret
          exact ⟨ret_bool (by rw [groupsB_bad hlt (by rw [gOk_zero hlt]; simp [*])]), hb.trans (hbr1S.mono hb.size)⟩
        · skip
          refine wpMix_pure (by kernel_rfl) (fun K hK => ?_); go_big_quiet_op; refine hK _ ?_; clear hK K
          refine wpMix_pure (by kernel_rfl) (fun K hK => ?_); go_big_quiet_op; refine hK _ ?_; clear hK K
          refine wpMix_pure (by kernel_rfl) (fun K hK => ?_); go_big_quiet_op; refine hK _ ?_; clear hK K
          refine wpMix_pure (by kernel_rfl) (fun K hK => ?_); go_big_quiet_op; refine hK _ ?_; clear hK K
          refine wpMix_pure (by kernel_rfl) (fun K hK => ?_); go_big_quiet_op; refine hK _ ?_; clear hK K
          refine wpMix_skip (by kernel_rfl) (fun K hK => ?_)
          simp only [Act.put, List.setIfInBounds_toArray, List.set_cons_zero, List.set_cons_succ]
          refine hK _ ?_; clear hK K
          refine wpMix_skip (by kernel_rfl) (fun K hK => ?_)
          simp only [Act.put, List.setIfInBounds_toArray, List.set_cons_zero, List.set_cons_succ]
          refine hK _ ?_; clear hK K
          refine wpMix_skip (by kernel_rfl) (fun K hK => ?_)
          simp only [Act.put, List.setIfInBounds_toArray, List.set_cons_zero, List.set_cons_succ]
          refine hK _ ?_; clear hK K
          refine wpMix_skip (by kernel_rfl) (fun K hK => ?_)
          simp only [Act.put, List.setIfInBounds_toArray, List.set_cons_zero, List.set_cons_succ]
          refine hK _ ?_; clear hK K
          refine wpMix_skip (by kernel_rfl) (fun K hK => ?_)
          simp only [Act.put, List.setIfInBounds_toArray, List.set_cons_zero, List.set_cons_succ]
          refine hK _ ?_; clear hK K
          refine wpMix_skip (by kernel_rfl) (fun K hK => ?_)
          simp only [Act.put, List.setIfInBounds_toArray, List.set_cons_zero, List.set_cons_succ]
          refine hK _ ?_; clear hK K
          refine wpMix_skip (by kernel_rfl) (fun K hK => ?_)
          simp only [Act.put, List.setIfInBounds_toArray, List.set_cons_zero, List.set_cons_succ]
          refine hK _ ?_; clear hK K
          refine wpMix_skip (by kernel_rfl) (fun K hK => ?_)
          simp only [Act.put, List.setIfInBounds_toArray, List.set_cons_zero, List.set_cons_succ]
          refine hK _ ?_; clear hK K
          refine wpMix_skip (by kernel_rfl) (fun K hK => ?_)
          simp only [Act.put, List.setIfInBounds_toArray, List.set_cons_zero, List.set_cons_succ]
          refine hK _ ?_; clear hK K
          refine wpMix_skip (by kernel_rfl) (fun K hK => ?_)
          simp only [Act.put, List.setIfInBounds_toArray, List.set_cons_zero, List.set_cons_succ]
          refine hK _ ?_; clear hK K
          refine wpMix_skip (by kernel_rfl) (fun K hK => ?_)
          simp only [Act.put, List.setIfInBounds_toArray, List.set_cons_zero, List.set_cons_succ]
          refine hK _ ?_; clear hK K
          refine wpMix_skip (by kernel_rfl) (fun K hK => ?_)
          simp only [Act.put, List.setIfInBounds_toArray, List.set_cons_zero, List.set_cons_succ]
          refine hK _ ?_; clear hK K
          refine wpMix_pure (by kernel_rfl) (fun K hK => ?_); go_big_quiet_op; refine hK _ ?_; clear hK K
          refine wpMix_pure (by kernel_rfl) (fun K hK => ?_); go_big_quiet_op; refine hK _ ?_; clear hK K
          refine wpMix_nil ?_
          go_wp2
          go_roundw
          case rel => exact ⟨0 + 1, by omega, by go_num, allIdx_step H0.out (by rw [gOk_zero hlt, hq3]), hb.trans (hbr1S.mono hb.size)⟩
          case measure => simp [intOf]; omega
      · obtain ⟨m, rfl⟩ : ∃ m, k = m + 1 := ⟨k - 1, by omega⟩
        have hm : m < xs.length := by omega
        obtain ⟨b, off, rfl, _, hok, hp⟩ := PGroup.elem (hx.below' hb) hlt
        have hok0 : xs[m + 1].id.size ≤ 9223372036854775807 := hok.1
        have c0 := hp.c0
        have hplt := hp.lt
        obtain ⟨b1, off1, hA1, _, hokm, hpm⟩ := PGroup.elem (hx.below' hb) hm
        injection hA1 with hA1
        injection hA1 with hA1 hA2 _
        subst hA1 hA2
        have d0 := hpm.c0
        clear hpm
        go_wp2
        have gc0 := cell_regrown c0
        have gd0 := cell_regrown d0
        refine wp_region_mix (C := fun w' => ∃ p : Regrown, w' = Go.Sort.grow (redrawn wr p.d) p.os) [true, true, true, false, true, true, true, true, true, true, true, true, true, true, true, true, true, true, true, true, true, true, true] (by kernel_rfl) (by kernel_rfl) (by kernel_rfl) (fun _ _ d _ _ h => by cases d <;> exact h) (regrown_of_below (Below.drew (Below.refl _ _))) ?_
        have hS0 : Below (wr.heap.size) wr wr.drew := Below.drew (Below.refl _ _)
        refine wpMix_pure (by kernel_rfl) (fun K hK => ?_); go_big_quiet_op; refine hK _ ?_; clear hK K
        refine wpMix_pure (by kernel_rfl) (fun K hK => ?_); go_big_quiet_op; refine hK _ ?_; clear hK K
        refine wpMix_pure (by kernel_rfl) (fun K hK => ?_); go_big_quiet_op; refine hK _ ?_; clear hK K
        refine wpMix_act (by kernel_rfl) (fun K hK => ?_)
        go_big_op
        refine (l24One_any _ _ _ _ (hp.below hS0 hplt) hok0).mono ?_
        rintro e wr1 ⟨rfl, hbr1⟩
        have hbr1S : Below (wr.heap.size) wr wr1 := hS0.trans (hbr1.mono hS0.size)
        refine hK _ _ (regrown_of_below hbr1S) ?_
        clear hK K
        cases hq3 : groupB xs[m + 1]
        · skip
          refine wpMix_pure (by kernel_rfl) (fun K hK => ?_); go_big_quiet_op; refine hK _ ?_; clear hK K
          refine wpMix_pure (by kernel_rfl) (fun K hK => ?_); go_big_quiet_op; refine hK _ ?_; clear hK K
          refine wpMix_skip (by kernel_rfl) (fun K hK => ?_)
          simp only [Act.put, List.setIfInBounds_toArray, List.set_cons_zero, List.set_cons_succ]
          refine hK _ ?_; clear hK K
          refine wpMix_skip (by kernel_rfl) (fun K hK => ?_)
          simp only [Act.put, List.setIfInBounds_toArray, List.set_cons_zero, List.set_cons_succ]
          refine hK _ ?_; clear hK K
          refine wpMix_skip (by kernel_rfl) (fun K hK => ?_)
          simp only [Act.put, List.setIfInBounds_toArray, List.set_cons_zero, List.set_cons_succ]
          refine hK _ ?_; clear hK K
          refine wpMix_skip (by kernel_rfl) (fun K hK => ?_)
          simp only [Act.put, List.setIfInBounds_toArray, List.set_cons_zero, List.set_cons_succ]
          refine hK _ ?_; clear hK K
          refine wpMix_skip (by kernel_rfl) (fun K hK => ?_)
          simp only [Act.put, List.setIfInBounds_toArray, List.set_cons_zero, List.set_cons_succ]
          refine hK _ ?_; clear hK K
          refine wpMix_skip (by kernel_rfl) (fun K hK => ?_)
          simp only [Act.put, List.setIfInBounds_toArray, List.set_cons_zero, List.set_cons_succ]
          refine hK _ ?_; clear hK K
          refine wpMix_skip (by kernel_rfl) (fun K hK => ?_)
          simp only [Act.put, List.setIfInBounds_toArray, List.set_cons_zero, List.set_cons_succ]
          refine hK _ ?_; clear hK K
          refine wpMix_skip (by kernel_rfl) (fun K hK => ?_)
          simp only [Act.put, List.setIfInBounds_toArray, List.set_cons_zero, List.set_cons_succ]
          refine hK _ ?_; clear hK K
          refine wpMix_skip (by kernel_rfl) (fun K hK => ?_)
          simp only [Act.put, List.setIfInBounds_toArray, List.set_cons_zero, List.set_cons_succ]
          refine hK _ ?_; clear hK K
          refine wpMix_skip (by kernel_rfl) (fun K hK => ?_)
          simp only [Act.put, List.setIfInBounds_toArray, List.set_cons_zero, List.set_cons_succ]
          refine hK _ ?_; clear hK K
          refine wpMix_skip (by kernel_rfl) (fun K hK => ?_)
          simp only [Act.put, List.setIfInBounds_toArray, List.set_cons_zero, List.set_cons_succ]
          refine hK _ ?_; clear hK K
          refine wpMix_skip (by kernel_rfl) (fun K hK => ?_)
          simp only [Act.put, List.setIfInBounds_toArray, List.set_cons_zero, List.set_cons_succ]
          refine hK _ ?_; clear hK K
          refine wpMix_skip (by kernel_rfl) (fun K hK => ?_)
          simp only [Act.put, List.setIfInBounds_toArray, List.set_cons_zero, List.set_cons_succ]
          refine hK _ ?_; clear hK K
          refine wpMix_skip (by kernel_rfl) (fun K hK => ?_)
          simp only [Act.put, List.setIfInBounds_toArray, List.set_cons_zero, List.set_cons_succ]
          refine hK _ ?_; clear hK K
          refine wpMix_skip (by kernel_rfl) (fun K hK => ?_)
          simp only [Act.put, List.setIfInBounds_toArray, List.set_cons_zero, List.set_cons_succ]
          refine hK _ ?_; clear hK K
          refine wpMix_skip (by kernel_rfl) (fun K hK => ?_)
          simp only [Act.put, List.setIfInBounds_toArray, List.set_cons_zero, List.set_cons_succ]
          refine hK _ ?_; clear hK K
          refine wpMix_pure (by kernel_rfl) (fun K hK => ?_); go_big_quiet_op; refine hK _ ?_; clear hK K
          refine wpMix_nil ?_
          go_wp2
          go_ret
          exact ⟨ret_bool (by rw [groupsB_bad hlt (by rw [gOk_succ hlt]; simp [*])]), hb.trans (hbr1S.mono hb.size)⟩
        · skip
          refine wpMix_pure (by kernel_rfl) (fun K hK => ?_); go_big_quiet_op; refine hK _ ?_; clear hK K
          refine wpMix_pure (by kernel_rfl) (fun K hK => ?_); go_big_quiet_op; refine hK _ ?_; clear hK K
          refine wpMix_pure (by kernel_rfl) (fun K hK => ?_); go_big_quiet_op; refine hK _ ?_; clear hK K
          refine wpMix_pure (by kernel_rfl) (fun K hK => ?_); go_big_quiet_op; refine hK _ ?_; clear hK K
          refine wpMix_pure (by kernel_rfl) (fun K hK => ?_); go_big_quiet_op; refine hK _ ?_; clear hK K
          refine wpMix_pure (by kernel_rfl) (fun K hK => ?_); go_big_quiet_op; refine hK _ ?_; clear hK K
          refine wpMix_pure (by kernel_rfl) (fun K hK => ?_); go_big_quiet_op; refine hK _ ?_; clear hK K
          refine wpMix_pure (by kernel_rfl) (fun K hK => ?_); go_big_quiet_op; refine hK _ ?_; clear hK K
          refine wpMix_pure (by kernel_rfl) (fun K hK => ?_); go_big_quiet_op; refine hK _ ?_; clear hK K
          refine wpMix_pure (by kernel_rfl) (fun K hK => ?_); go_big_quiet_op; refine hK _ ?_; clear hK K
          refine wpMix_pure (by kernel_rfl) (fun K hK => ?_); go_big_quiet_op; refine hK _ ?_; clear hK K
          refine wpMix_pure (by kernel_rfl) (fun K hK => ?_); go_big_quiet_op; refine hK _ ?_; clear hK K
          refine wpMix_pure (by kernel_rfl) (fun K hK => ?_); go_big_quiet_op; refine hK _ ?_; clear hK K
          refine wpMix_pure (by kernel_rfl) (fun K hK => ?_); go_big_quiet_op; refine hK _ ?_; clear hK K
          refine wpMix_pure (by kernel_rfl) (fun K hK => ?_); go_big_quiet_op; refine hK _ ?_; clear hK K
          refine wpMix_pure (by kernel_rfl) (fun K hK => ?_); go_big_quiet_op; refine hK _ ?_; clear hK K
          by_cases hq20 : ltS xs[m].id xs[m + 1].id = true
          · skip
            have e20 : Op.bytesLess xs[m].id.toList xs[m + 1].id.toList = true := hq20
            refine wpMix_pure (by kernel_rfl) (fun K hK => ?_); go_big_quiet_op; refine hK _ ?_; clear hK K
            refine wpMix_pure (by kernel_rfl) (fun K hK => ?_); go_big_quiet_op; refine hK _ ?_; clear hK K
            refine wpMix_pure (by kernel_rfl) (fun K hK => ?_); go_big_quiet_op; refine hK _ ?_; clear hK K
            refine wpMix_nil ?_
            go_wp2
            go_roundw
            case rel => exact ⟨m + 1 + 1, by omega, by go_num, allIdx_step H0.out (by rw [gOk_succ hlt, hq3]; simp [*]), hb.trans (hbr1S.mono hb.size)⟩
            case measure => simp [intOf]; omega
          · skip
            have e20 : Op.bytesLess xs[m].id.toList xs[m + 1].id.toList = false := by simpa [ltS] using hq20
            refine wpMix_pure (by kernel_rfl) (fun K hK => ?_); go_big_quiet_op; refine hK _ ?_; clear hK K
            refine wpMix_pure (by kernel_rfl) (fun K hK => ?_); go_big_quiet_op; refine hK _ ?_; clear hK K
            refine wpMix_pure (by kernel_rfl) (fun K hK => ?_); go_big_quiet_op; refine hK _ ?_; clear hK K
            refine wpMix_nil ?_
            go_wp2
            go_ret
            exact ⟨ret_bool (by rw [groupsB_bad hlt (by rw [gOk_succ hlt]; simp [*])]), hb.trans (hbr1S.mono hb.size)⟩
    · have HF := Lib.hid (allIdx_full (by omega) hk H0.out)
      by_cases hle : xs.length ≤ 8
      all_goals
        go_wp2
        go_ret
        exact ⟨ret_bool (by unfold groupsB; rw [HF.out]; simp [hle] <;> omega), hb⟩
set_option maxRecDepth 100000 in
set_option maxHeartbeats 4000000 in
theorem validGroups_any (v : Value) (xs : List DGroup) (fp : List Nat) (w : World) (hx : Sl fGroup.cod w v xs fp) :
    Calls Try.prog 30 #[v] w fun e w' => e = .returned (.bool (groupsB xs)) ∧ Below w.heap.size w w' := by
  obtain ⟨A, cap, rfl, hlen, hcap⟩ := hx.form
  by_cases hle : xs.length ≤ 8
  · go_enter Try.func30, Try.ntmps30
    go_wp2
    go_loopw [10] (fun i wr => ∃ k : Nat, k ≤ xs.length ∧ i = .int .i64 k ∧ Hid (allIdx (gOk xs) k = true) ∧ Below w.heap.size w wr) (fun i _ => xs.length - (intOf i).toNat)
    case atStart => exact ⟨0, Nat.zero_le _, rfl, rfl, Below.refl _ _⟩
    case round =>
      obtain ⟨k, hk, rfl, H0, hb⟩ := hrel
      by_cases hlt : k < xs.length
      · rcases Nat.eq_zero_or_pos k with rfl | hpos
        · skip
          obtain ⟨b, off, rfl, _, hok, hp⟩ := PGroup.elem (hx.below' hb) hlt
          rw [Nat.zero_mul, Nat.add_zero] at hp
          obtain ⟨c0, c1, c2, c3, c4, c5, c6⟩ := id hp
          go_wp2
          refine at_world (fun W => Below wr.heap.size wr W ∧ PGroup W wr.heap.size 0 xs[0]) ⟨(Below.refl _ _).alloc (Nat.le_refl _) _, PGroup.box wr xs[0] _⟩ ?_
          clear c0 c1 c2 c3 c4 c5 c6
          rintro W ⟨hW, hpW⟩
          obtain ⟨c0, c1, c2, c3, c4, c5, c6⟩ := id hpW
          have gc0 := cell_regrown c0
          have gc1 := cell_regrown c1
          have gc2 := cell_regrown c2
          have gc3 := cell_regrown c3
          have gc4 := cell_regrown c4
          have gc5 := cell_regrown c5
          have gc6 := cell_regrown c6
          refine wp_region_mix (C := fun w' => ∃ p : Regrown, w' = Go.Sort.grow (redrawn W p.d) p.os) [true, false, true, true, true, true, true, true, true, true, true, true, true, true, true, true, true, true] (by kernel_rfl) (by kernel_rfl) (by kernel_rfl) (fun _ _ d _ _ h => by cases d <;> exact h) (regrown_of_below (Below.drew (Below.refl _ _))) ?_
          have hS0 : Below (W.heap.size) W W.drew := Below.drew (Below.refl _ _)
          refine wpMix_pure (by kernel_rfl) (fun K hK => ?_); go_big_quiet_op; refine hK _ ?_; clear hK K
          refine wpMix_act (by kernel_rfl) (fun K hK => ?_)
          go_big_op
          refine (implValid_any xs[0] _ hok).mono ?_
          rintro e wr1 ⟨rfl, hbr1⟩
          have hbr1S : Below (W.heap.size) W wr1 := hS0.trans (hbr1.mono hS0.size)
          refine hK _ _ (regrown_of_below hbr1S) ?_
          clear hK K
          cases hq1 : groupB xs[0]
          · skip
            refine wpMix_pure (by kernel_rfl) (fun K hK => ?_); go_big_quiet_op; refine hK _ ?_; clear hK K
            refine wpMix_pure (by kernel_rfl) (fun K hK => ?_); go_big_quiet_op; refine hK _ ?_; clear hK K
            refine wpMix_skip (by kernel_rfl) (fun K hK => ?_)
            simp only [Act.put, List.setIfInBounds_toArray, List.set_cons_zero, List.set_cons_succ]
            refine hK _ ?_; clear hK K
            refine wpMix_skip (by kernel_rfl) (fun K hK => ?_)
            simp only [Act.put, List.setIfInBounds_toArray, List.set_cons_zero, List.set_cons_succ]
            refine hK _ ?_; clear hK K
            refine wpMix_skip (by kernel_rfl) (fun K hK => ?_)
            simp only [Act.put, List.setIfInBounds_toArray, List.set_cons_zero, List.set_cons_succ]
            refine hK _ ?_; clear hK K
            refine wpMix_skip (by kernel_rfl) (fun K hK => ?_)
            simp only [Act.put, List.setIfInBounds_toArray, List.set_cons_zero, List.set_cons_succ]
            refine hK _ ?_; clear hK K
            refine wpMix_skip (by kernel_rfl) (fun K hK => ?_)
            simp only [Act.put, List.setIfInBounds_toArray, List.set_cons_zero, List.set_cons_succ]
            refine hK _ ?_; clear hK K
            refine wpMix_skip (by kernel_rfl) (fun K hK => ?_)
            simp only [Act.put, List.setIfInBounds_toArray, List.set_cons_zero, List.set_cons_succ]
            refine hK _ ?_; clear hK K
            refine wpMix_skip (by kernel_rfl) (fun K hK => ?_)
            simp only [Act.put, List.setIfInBounds_toArray, List.set_cons_zero, List.set_cons_succ]
            refine hK _ ?_; clear hK K
            refine wpMix_skip (by kernel_rfl) (fun K hK => ?_)
            simp only [Act.put, List.setIfInBounds_toArray, List.set_cons_zero, List.set_cons_succ]
            refine hK _ ?_; clear hK K
            refine wpMix_skip (by kernel_rfl) (fun K hK => ?_)
            simp only [Act.put, List.setIfInBounds_toArray, List.set_cons_zero, List.set_cons_succ]
            refine hK _ ?_; clear hK K
            refine wpMix_skip (by kernel_rfl) (fun K hK => ?_)
            simp only [Act.put, List.setIfInBounds_toArray, List.set_cons_zero, List.set_cons_succ]
            refine hK _ ?_; clear hK K
            refine wpMix_skip (by kernel_rfl) (fun K hK => ?_)
            simp only [Act.put, List.setIfInBounds_toArray, List.set_cons_zero, List.set_cons_succ]
            refine hK _ ?_; clear hK K
            refine wpMix_skip (by kernel_rfl) (fun K hK => ?_)
            simp only [Act.put, List.setIfInBounds_toArray, List.set_cons_zero, List.set_cons_succ]
            refine hK _ ?_; clear hK K
            refine wpMix_skip (by kernel_rfl) (fun K hK => ?_)
            simp only [Act.put, List.setIfInBounds_toArray, List.set_cons_zero, List.set_cons_succ]
            refine hK _ ?_; clear hK K
            refine wpMix_pure (by kernel_rfl) (fun K hK => ?_); go_big_quiet_op; refine hK _ ?_; clear hK K
            refine wpMix_nil ?_
            go_wp2
            go_ret
            exact ⟨ret_bool (by rw [groupsB_bad hlt (by rw [gOk_zero hlt]; simp [*])]), hb.trans (hW.trans (hbr1S.mono hW.size) |>.mono hb.size)⟩
          · skip
            refine wpMix_pure (by kernel_rfl) (fun K hK => ?_); go_big_quiet_op; refine hK _ ?_; clear hK K
            refine wpMix_pure (by kernel_rfl) (fun K hK => ?_); go_big_quiet_op; refine hK _ ?_; clear hK K
            refine wpMix_pure (by kernel_rfl) (fun K hK => ?_); go_big_quiet_op; refine hK _ ?_; clear hK K
            refine wpMix_pure (by kernel_rfl) (fun K hK => ?_); go_big_quiet_op; refine hK _ ?_; clear hK K
            refine wpMix_pure (by kernel_rfl) (fun K hK => ?_); go_big_quiet_op; refine hK _ ?_; clear hK K
            refine wpMix_skip (by kernel_rfl) (fun K hK => ?_)
            simp only [Act.put, List.setIfInBounds_toArray, List.set_cons_zero, List.set_cons_succ]
            refine hK _ ?_; clear hK K
            refine wpMix_skip (by kernel_rfl) (fun K hK => ?_)
            simp only [Act.put, List.setIfInBounds_toArray, List.set_cons_zero, List.set_cons_succ]
            refine hK _ ?_; clear hK K
            refine wpMix_skip (by kernel_rfl) (fun K hK => ?_)
            simp only [Act.put, List.setIfInBounds_toArray, List.set_cons_zero, List.set_cons_succ]
            refine hK _ ?_; clear hK K
            refine wpMix_skip (by kernel_rfl) (fun K hK => ?_)
            simp only [Act.put, List.setIfInBounds_toArray, List.set_cons_zero, List.set_cons_succ]
            refine hK _ ?_; clear hK K
            refine wpMix_skip (by kernel_rfl) (fun K hK => ?_)
            simp only [Act.put, List.setIfInBounds_toArray, List.set_cons_zero, List.set_cons_succ]
            refine hK _ ?_; clear hK K
            refine wpMix_skip (by kernel_rfl) (fun K hK => ?_)
            simp only [Act.put, List.setIfInBounds_toArray, List.set_cons_zero, List.set_cons_succ]
            refine hK _ ?_; clear hK K
            refine wpMix_skip (by kernel_rfl) (fun K hK => ?_)
            simp only [Act.put, List.setIfInBounds_toArray, List.set_cons_zero, List.set_cons_succ]
            refine hK _ ?_; clear hK K
            refine wpMix_skip (by kernel_rfl) (fun K hK => ?_)
            simp only [Act.put, List.setIfInBounds_toArray, List.set_cons_zero, List.set_cons_succ]
            refine hK _ ?_; clear hK K
            refine wpMix_skip (by kernel_rfl) (fun K hK => ?_)
            simp only [Act.put, List.setIfInBounds_toArray, List.set_cons_zero, List.set_cons_succ]
            refine hK _ ?_; clear hK K
            refine wpMix_pure (by kernel_rfl) (fun K hK => ?_); go_big_quiet_op; refine hK _ ?_; clear hK K
            refine wpMix_pure (by kernel_rfl) (fun K hK => ?_); go_big_quiet_op; refine hK _ ?_; clear hK K
            refine wpMix_nil ?_
            go_wp2
            go_roundw
            case rel => exact ⟨0 + 1, by omega, by go_num, allIdx_step H0.out (by rw [gOk_zero hlt, hq1]), hb.trans (hW.trans (hbr1S.mono hW.size) |>.mono hb.size)⟩
            case measure => simp [intOf]; omega
        · obtain ⟨m, rfl⟩ : ∃ m, k = m + 1 := ⟨k - 1, by omega⟩
          have hm : m < xs.length := by omega
          obtain ⟨b, off, rfl, _, hok, hp⟩ := PGroup.elem (hx.below' hb) hlt
          skip
          obtain ⟨c0, c1, c2, c3, c4, c5, c6⟩ := id hp
          obtain ⟨b1, off1, hA1, _, hokm, hpm⟩ := PGroup.elem (hx.below' hb) hm
          injection hA1 with hA1
          injection hA1 with hA1 hA2 _
          subst hA1 hA2
          have d0 := hpm.c0
          go_wp2
          refine at_world (fun W => Below wr.heap.size wr W ∧ PGroup W wr.heap.size 0 xs[m + 1] ∧ W.cell? ⟨b, off + m * 7, none⟩ = some (.string xs[m].id)) ⟨(Below.refl _ _).alloc (Nat.le_refl _) _, PGroup.box wr xs[m + 1] _, (((Below.refl _ _).alloc (Nat.le_refl _) _).cell (block_lt_of_cell d0)).trans d0⟩ ?_
          clear c0 c1 c2 c3 c4 c5 c6 d0 hpm
          rintro W ⟨hW, hpW, d0⟩
          obtain ⟨c0, c1, c2, c3, c4, c5, c6⟩ := id hpW
          have gc0 := cell_regrown c0
          have gc1 := cell_regrown c1
          have gc2 := cell_regrown c2
          have gc3 := cell_regrown c3
          have gc4 := cell_regrown c4
          have gc5 := cell_regrown c5
          have gc6 := cell_regrown c6
          have gd0 := cell_regrown d0
          refine wp_region_mix (C := fun w' => ∃ p : Regrown, w' = Go.Sort.grow (redrawn W p.d) p.os) [true, false, true, true, true, true, true, true, true, true, true, true, true, true, true, true, true, true] (by kernel_rfl) (by kernel_rfl) (by kernel_rfl) (fun _ _ d _ _ h => by cases d <;> exact h) (regrown_of_below (Below.drew (Below.refl _ _))) ?_
          have hS0 : Below (W.heap.size) W W.drew := Below.drew (Below.refl _ _)
          refine wpMix_pure (by kernel_rfl) (fun K hK => ?_); go_big_quiet_op; refine hK _ ?_; clear hK K
          refine wpMix_act (by kernel_rfl) (fun K hK => ?_)
          go_big_op
          refine (implValid_any xs[m + 1] _ hok).mono ?_
          rintro e wr1 ⟨rfl, hbr1⟩
          have hbr1S : Below (W.heap.size) W wr1 := hS0.trans (hbr1.mono hS0.size)
          refine hK _ _ (regrown_of_below hbr1S) ?_
          clear hK K
          cases hq1 : groupB xs[m + 1]
          · skip
            refine wpMix_pure (by kernel_rfl) (fun K hK => ?_); go_big_quiet_op; refine hK _ ?_; clear hK K
            refine wpMix_pure (by kernel_rfl) (fun K hK => ?_); go_big_quiet_op; refine hK _ ?_; clear hK K
            refine wpMix_skip (by kernel_rfl) (fun K hK => ?_)
            simp only [Act.put, List.setIfInBounds_toArray, List.set_cons_zero, List.set_cons_succ]
            refine hK _ ?_; clear hK K
            refine wpMix_skip (by kernel_rfl) (fun K hK => ?_)
            simp only [Act.put, List.setIfInBounds_toArray, List.set_cons_zero, List.set_cons_succ]
            refine hK _ ?_; clear hK K
            refine wpMix_skip (by kernel_rfl) (fun K hK => ?_)
            simp only [Act.put, List.setIfInBounds_toArray, List.set_cons_zero, List.set_cons_succ]
            refine hK _ ?_; clear hK K
            refine wpMix_skip (by kernel_rfl) (fun K hK => ?_)
            simp only [Act.put, List.setIfInBounds_toArray, List.set_cons_zero, List.set_cons_succ]
            refine hK _ ?_; clear hK K
            refine wpMix_skip (by kernel_rfl) (fun K hK => ?_)
            simp only [Act.put, List.setIfInBounds_toArray, List.set_cons_zero, List.set_cons_succ]
            refine hK _ ?_; clear hK K
            refine wpMix_skip (by kernel_rfl) (fun K hK => ?_)
            simp only [Act.put, List.setIfInBounds_toArray, List.set_cons_zero, List.set_cons_succ]
            refine hK _ ?_; clear hK K
            refine wpMix_skip (by kernel_rfl) (fun K hK => ?_)
            simp only [Act.put, List.setIfInBounds_toArray, List.set_cons_zero, List.set_cons_succ]
            refine hK _ ?_; clear hK K
            refine wpMix_skip (by kernel_rfl) (fun K hK => ?_)
            simp only [Act.put, List.setIfInBounds_toArray, List.set_cons_zero, List.set_cons_succ]
            refine hK _ ?_; clear hK K
            refine wpMix_skip (by kernel_rfl) (fun K hK => ?_)
            simp only [Act.put, List.setIfInBounds_toArray, List.set_cons_zero, List.set_cons_succ]
            refine hK _ ?_; clear hK K
            refine wpMix_skip (by kernel_rfl) (fun K hK => ?_)
            simp only [Act.put, List.setIfInBounds_toArray, List.set_cons_zero, List.set_cons_succ]
            refine hK _ ?_; clear hK K
            refine wpMix_skip (by kernel_rfl) (fun K hK => ?_)
            simp only [Act.put, List.setIfInBounds_toArray, List.set_cons_zero, List.set_cons_succ]
            refine hK _ ?_; clear hK K
            refine wpMix_skip (by kernel_rfl) (fun K hK => ?_)
            simp only [Act.put, List.setIfInBounds_toArray, List.set_cons_zero, List.set_cons_succ]
            refine hK _ ?_; clear hK K
            refine wpMix_skip (by kernel_rfl) (fun K hK => ?_)
            simp only [Act.put, List.setIfInBounds_toArray, List.set_cons_zero, List.set_cons_succ]
            refine hK _ ?_; clear hK K
            refine wpMix_pure (by kernel_rfl) (fun K hK => ?_); go_big_quiet_op; refine hK _ ?_; clear hK K
            refine wpMix_nil ?_
            go_wp2
            go_ret
            exact ⟨ret_bool (by rw [groupsB_bad hlt (by rw [gOk_succ hlt]; simp [*])]), hb.trans (hW.trans (hbr1S.mono hW.size) |>.mono hb.size)⟩
          · skip
            refine wpMix_pure (by kernel_rfl) (fun K hK => ?_); go_big_quiet_op; refine hK _ ?_; clear hK K
            refine wpMix_pure (by kernel_rfl) (fun K hK => ?_); go_big_quiet_op; refine hK _ ?_; clear hK K
            refine wpMix_pure (by kernel_rfl) (fun K hK => ?_); go_big_quiet_op; refine hK _ ?_; clear hK K
            refine wpMix_pure (by kernel_rfl) (fun K hK => ?_); go_big_quiet_op; refine hK _ ?_; clear hK K
            refine wpMix_pure (by kernel_rfl) (fun K hK => ?_); go_big_quiet_op; refine hK _ ?_; clear hK K
            refine wpMix_pure (by kernel_rfl) (fun K hK => ?_); go_big_quiet_op; refine hK _ ?_; clear hK K
            refine wpMix_pure (by kernel_rfl) (fun K hK => ?_); go_big_quiet_op; refine hK _ ?_; clear hK K
            refine wpMix_pure (by kernel_rfl) (fun K hK => ?_); go_big_quiet_op; refine hK _ ?_; clear hK K
            refine wpMix_pure (by kernel_rfl) (fun K hK => ?_); go_big_quiet_op; refine hK _ ?_; clear hK K
            refine wpMix_pure (by kernel_rfl) (fun K hK => ?_); go_big_quiet_op; refine hK _ ?_; clear hK K
            refine wpMix_pure (by kernel_rfl) (fun K hK => ?_); go_big_quiet_op; refine hK _ ?_; clear hK K
            refine wpMix_pure (by kernel_rfl) (fun K hK => ?_); go_big_quiet_op; refine hK _ ?_; clear hK K
            refine wpMix_pure (by kernel_rfl) (fun K hK => ?_); go_big_quiet_op; refine hK _ ?_; clear hK K
            by_cases hq15 : ltS xs[m].id xs[m + 1].id = true
            · skip
              have e15 : (Op.bytesLess xs[m + 1].id.toList xs[m].id.toList || xs[m + 1].id.toList == xs[m].id.toList) = false := by rw [leS_eq, hq15]; rfl
              refine wpMix_pure (by kernel_rfl) (fun K hK => ?_); go_big_quiet_op; refine hK _ ?_; clear hK K
              refine wpMix_pure (by kernel_rfl) (fun K hK => ?_); go_big_quiet_op; refine hK _ ?_; clear hK K
              refine wpMix_pure (by kernel_rfl) (fun K hK => ?_); go_big_quiet_op; refine hK _ ?_; clear hK K
              refine wpMix_nil ?_
              go_wp2
              go_roundw
              case rel => exact ⟨m + 1 + 1, by omega, by go_num, allIdx_step H0.out (by rw [gOk_succ hlt, hq1]; simp [*]), hb.trans (hW.trans (hbr1S.mono hW.size) |>.mono hb.size)⟩
              case measure => simp [intOf]; omega
            · skip
              have e15 : (Op.bytesLess xs[m + 1].id.toList xs[m].id.toList || xs[m + 1].id.toList == xs[m].id.toList) = true := by rw [leS_eq]; simpa using hq15
              refine wpMix_pure (by kernel_rfl) (fun K hK => ?_); go_big_quiet_op; refine hK _ ?_; clear hK K
              refine wpMix_pure (by kernel_rfl) (fun K hK => ?_); go_big_quiet_op; refine hK _ ?_; clear hK K
              refine wpMix_pure (by kernel_rfl) (fun K hK => ?_); go_big_quiet_op; refine hK _ ?_; clear hK K
              refine wpMix_nil ?_
              go_wp2
              go_ret
              exact ⟨ret_bool (by rw [groupsB_bad hlt (by rw [gOk_succ hlt]; simp [*])]), hb.trans (hW.trans (hbr1S.mono hW.size) |>.mono hb.size)⟩
      · have HF := Lib.hid (allIdx_full (by omega) hk H0.out)
        go_wp2
        go_ret
        exact ⟨ret_bool (by unfold groupsB; rw [HF.out]; simp [hle]), hb⟩
  · go_enter Try.func30, Try.ntmps30
    go_wp2
    go_ret
    exact ⟨ret_bool (by unfold groupsB; simp <;> omega), Below.refl _ _⟩
def gpF (x : DGroup) : List ByteArray := if groupB x then lacksF x else []
def gpC (x : DGroup) : Int := if groupB x then 0 else 1
theorem gpF_len (x : DGroup) : (gpF x).length ≤ 100000000000 := by unfold gpF; split; exact Nat.le_trans (lacksF_len x) (by decide); simp
set_option maxRecDepth 100000 in
set_option maxHeartbeats 1000000 in
theorem implGroupProblems_any (x : DGroup) (w : World) (hok : fGroup.ok x) :
    Calls Try.prog 20 #[.agg #[.string x.id, .int .i64 x.people, .int .i64 x.guides, .int .i64 x.beacons, .int .i64 x.shovels, .int .i64 x.probes, .int .i64 x.skill]] w fun e w' => NewR2 fStr.cod w (gpF x) (gpC x) e w' := by
  have hp := PGroup.box w x 43
  obtain ⟨c0, c1, c2, c3, c4, c5, c6⟩ := id hp
  go_enter Try.func20, Try.ntmps20
  go_wp2_with fail
  refine (implValid_any x _ hok).mono ?_
  rintro e w1 ⟨rfl, hb⟩
  clear c0 c1 c2 c3 c4 c5 c6
  have hp1 := hp.below' hb
  clear hp
  obtain ⟨c0, c1, c2, c3, c4, c5, c6⟩ := hp1
  have hb' : Below w.heap.size w w1 := ((Below.refl _ _).alloc (Nat.le_refl _) _).trans (hb.mono (by simp))
  cases h0 : groupB x
  · go_wp2
    go_ret2
    exact ⟨_, by rw [gpC, h0]; rfl, by rw [gpF, h0]; exact New.nil hb'⟩
  · go_wp2_with fail
    refine (problems_any x _).mono ?_
    rintro e w2 ⟨v, rfl, hn⟩
    have hn' := hn.later hb'
    go_wp2
    go_ret2
    exact ⟨_, by rw [gpC, h0]; rfl, by rw [gpF, h0]; exact hn'⟩

end Go.Proofs.Ytjfaafoldllppaa

namespace Go.Proofs.Ytjfaafoldllppaa
open Go.RowKit
set_option linter.unusedVariables false

def sumG (x y : DGroup) (id : ByteArray) : DGroup := ⟨id, x.people + y.people, x.guides + y.guides, x.beacons + y.beacons, x.shovels + y.shovels, x.probes + y.probes, min x.skill y.skill⟩
structure GrpIn (x : DGroup) : Prop where
  id : x.id.size ≤ 1000
  p : 0 ≤ x.people ∧ x.people ≤ 1000
  g : 0 ≤ x.guides ∧ x.guides ≤ 1000
  b : 0 ≤ x.beacons ∧ x.beacons ≤ 1000
  s : 0 ≤ x.shovels ∧ x.shovels ≤ 1000
  r : 0 ≤ x.probes ∧ x.probes ≤ 1000
  k : 0 ≤ x.skill ∧ x.skill ≤ 1000
theorem GrpIn.of {x : DGroup} (h : groupB x = true) : GrpIn x := by
  unfold groupB at h
  simp only [Bool.and_eq_true, inB_true] at h
  obtain ⟨⟨⟨⟨⟨⟨h0, h1⟩, h2⟩, h3⟩, h4⟩, h5⟩, h6⟩ := h
  have h7 : x.id.size ≤ 10 := by
    by_cases h8 : 10 < x.id.size
    · rw [nameB_long h8] at h0; cases h0
    · omega
  refine ⟨?_, ?_, ?_, ?_, ?_, ?_, ?_⟩ <;> omega
theorem sumG_ok {x y : DGroup} (hx : GrpIn x) (hy : GrpIn y) {id : ByteArray} (hi : id.size ≤ 1000) : fGroup.ok (sumG x y id) := by
  obtain ⟨_, a1, a2, a3, a4, a5, a6⟩ := hx
  obtain ⟨_, b1, b2, b3, b4, b5, b6⟩ := hy
  unfold sumG
  refine ⟨?_, ?_, ?_, ?_, ?_, ?_, ?_⟩ <;> first | (show _ ≤ _; simp only; omega) | (show _ ∧ _; simp only; omega)
theorem w64_inS (n : Int) (h : -9223372036854775808 ≤ n ∧ n ≤ 9223372036854775807) : wrap64 n = n := by unfold wrap64; omega
set_option maxRecDepth 100000 in
set_option maxHeartbeats 4000000 in
theorem with_any (x y : DGroup) (id : ByteArray) (w : World) (hx : GrpIn x) (hy : GrpIn y) :
    Calls Try.prog 60 #[.agg #[.string x.id, .int .i64 x.people, .int .i64 x.guides, .int .i64 x.beacons, .int .i64 x.shovels, .int .i64 x.probes, .int .i64 x.skill], .agg #[.string y.id, .int .i64 y.people, .int .i64 y.guides, .int .i64 y.beacons, .int .i64 y.shovels, .int .i64 y.probes, .int .i64 y.skill], .string id] w fun e w' =>
      e = .returned (.agg #[.string id, .int .i64 (x.people + y.people), .int .i64 (x.guides + y.guides), .int .i64 (x.beacons + y.beacons), .int .i64 (x.shovels + y.shovels), .int .i64 (x.probes + y.probes), .int .i64 (min x.skill y.skill)]) ∧ Below w.heap.size w w' := by
  obtain ⟨_, a1, a2, a3, a4, a5, a6⟩ := hx
  obtain ⟨_, b1, b2, b3, b4, b5, b6⟩ := hy
  have e1 := w64_inS (x.people + y.people) (by omega)
  have e2 := w64_inS (x.guides + y.guides) (by omega)
  have e3 := w64_inS (x.beacons + y.beacons) (by omega)
  have e4 := w64_inS (x.shovels + y.shovels) (by omega)
  have e5 := w64_inS (x.probes + y.probes) (by omega)
  go_enter Try.func60, Try.ntmps60
  go_wp2
  refine bodyPost_ret (v := .agg #[.string id, .int .i64 (x.people + y.people), .int .i64 (x.guides + y.guides), .int .i64 (x.beacons + y.beacons), .int .i64 (x.shovels + y.shovels), .int .i64 (x.probes + y.probes), .int .i64 (min x.skill y.skill)]) (by simp [results, Try.results60, go_sem]) rfl ⟨rfl, (by repeat (first | exact Below.refl _ _ | assumption | refine Below.alloc ?_ (by first | omega | (simp <;> omega)) _ | refine Below.setCell ?_ (by first | (show _ ≤ _; omega) | (simp <;> omega)) _ | refine Below.drew ?_ | refine below_drewN ?_ _))⟩
end Go.Proofs.Ytjfaafoldllppaa

namespace Go.Proofs.Ytjfaafoldllppaa
open Go.RowKit
section
variable {P : Program} {ops : Array Oper} {Q : Exit → Act → World → Prop} {md : Region.Mode} {C : World → Prop} {t : Nat}

/-- Whichever comes up: behind each but number 't' the class holds. -/
def wpSink (P : Program) (md : Region.Mode) (ops : Array Oper) (Q : Exit → Act → World → Prop) (C : World → Prop) (t : Nat) : Nat → Array Bool → Act → World → Prop
  | 0, L, a, w => Region.ready md ops L = [] ∧ Q .normal a w
  | n + 1, L, a, w => (Region.ready md ops L = [] → Q .normal a w) ∧ ∀ i, i ∈ Region.ready md ops L → wpOp P ops Q i (fun b v => (i ≠ t → C v) ∧ wpSink P md ops Q C t n (L.setIfInBounds i true) b v) a w
theorem any_of_sink : ∀ (n : Nat) (L : Array Bool) (a : Act) (w : World), wpSink P md ops Q C t n L a w → wpAny P md ops Q n L a w
  | 0, _, _, _, h => h
  | n + 1, _, _, _, h => And.intro h.1 fun i hi => wpOp_mono (fun b v g => any_of_sink n _ b v g.2) (h.2 i hi)
/-- Does number 't' wait for number 'i'? -/
def waitsOn (md : Region.Mode) (ops : Array Oper) (t i : Nat) : Bool := match ops[t]? with | some o => o.after.any (fun e => Region.binds md e && e.on == i) | none => false
theorem waitsOn_not {i : Nat} {L : Array Bool} (hw : waitsOn md ops t i = true) (hi : L.getD i true = false) : t ∉ Region.ready md ops L := by
  intro ht
  obtain ⟨_, o, ho, hall⟩ := mem_ready.1 ht
  unfold waitsOn at hw
  rw [ho] at hw
  simp only at hw
  obtain ⟨e, he, hb⟩ := Array.any_eq_true'.1 hw
  simp only [Bool.and_eq_true, beq_iff_eq] at hb
  have h1 := hall e he hb.1
  rw [hb.2] at h1
  rcases Nat.lt_or_ge i L.size with h' | h'
  · simp [h'] at hi h1; rw [hi] at h1; cases h1
  · simp [Array.getElem?_eq_none h'] at h1
/-- Does number 't' wait for number 'i', or for one that is not listed yet and that waits for 'i', and so on? -/
def waitsDeep (md : Region.Mode) (ops : Array Oper) (i : Nat) (L : Array Bool) : Nat → Nat → Bool
  | 0, j => waitsOn md ops j i
  | d + 1, j => waitsOn md ops j i || (List.range ops.size).any fun k => !(L.getD k true) && waitsOn md ops j k && waitsDeep md ops i L d k
def waitsBy (md : Region.Mode) (ops : Array Oper) (t i : Nat) (L : Array Bool) : Bool := waitsDeep md ops i L 12 t
theorem waitsDeep_not {i : Nat} {L : Array Bool} (hi : L.getD i true = false) : ∀ (d j : Nat), waitsDeep md ops i L d j = true → j ∉ Region.ready md ops L := by
  intro d j h
  cases d with
  | zero => exact waitsOn_not h hi
  | succ d =>
    simp only [waitsDeep, Bool.or_eq_true] at h
    rcases h with h | h
    · exact waitsOn_not h hi
    · obtain ⟨k, _, hk⟩ := List.any_eq_true.1 h
      simp only [Bool.and_eq_true, Bool.not_eq_true'] at hk
      exact waitsOn_not hk.1.2 hk.1.1
theorem waitsBy_not {i : Nat} {L : Array Bool} (hw : waitsBy md ops t i L = true) (hi : L.getD i true = false) : t ∉ Region.ready md ops L := waitsDeep_not hi _ _ hw
theorem waitsDeep_keep {i x : Nat} {L : Array Bool} (hi : L.getD i true = false) (hx : x ∈ Region.ready md ops L) : ∀ (d j : Nat), waitsDeep md ops i L d j = true → waitsDeep md ops i (L.setIfInBounds x true) d j = true := by
  intro d
  induction d with
  | zero => intro j h; exact h
  | succ d ih =>
    intro j h
    simp only [waitsDeep, Bool.or_eq_true] at h ⊢
    rcases h with h | h
    · exact .inl h
    · right
      obtain ⟨k, hkr, hk⟩ := List.any_eq_true.1 h
      simp only [Bool.and_eq_true, Bool.not_eq_true'] at hk
      refine List.any_eq_true.2 ⟨k, hkr, ?_⟩
      have hne : x ≠ k := fun e => waitsDeep_not hi d k hk.2 (e ▸ hx)
      simp only [Bool.and_eq_true, Bool.not_eq_true']
      exact ⟨⟨by rw [getD_set_ne true hne]; exact hk.1.1, hk.1.2⟩, ih k hk.2⟩
theorem waitsBy_keep {i k : Nat} {L : Array Bool} (hw : waitsBy md ops t i L = true) (hi : L.getD i true = false) (hk : k ∈ Region.ready md ops L) : waitsBy md ops t i (L.setIfInBounds k true) = true := waitsDeep_keep hi hk _ _ hw
theorem sink_first {i : Nat} {o : Oper} {v : Value} (ho : ops[i]? = some o) (hs : Region.noSelect ops = true) (hit : i ≠ t)
    (hQ : ∀ c a w, Q (.panic c) (a.put o.dst v) w → Q (.panic c) a w) : ∀ (n : Nat) (L : Array Bool) (a : Act) (w : World),
      (∀ j p, ops[j]? = some p → j ≠ i → L.getD j true = false → (∀ e ∈ p.after, Region.binds md e = true → e.on ≠ i) → o.apart ops p = true) →
      waitsBy md ops t i L = true → i ∈ Region.ready md ops L → YieldsIf P ops C o v a → C w → wpSink P md ops Q C t n (L.setIfInBounds i true) (a.put o.dst v) w → wpSink P md ops Q C t (n + 1) L a w := by
  intro n
  induction n with
  | zero =>
    intro L a w _ _ hr hy hC H
    constructor
    · intro h; rw [h] at hr; exact absurd hr List.not_mem_nil
    · intro j hj
      rcases Decidable.em (j = i) with rfl | e
      · exact hy.wpOp ho hC ⟨fun _ => hC, H⟩
      · have h2 := ready_mono hj e
        rw [H.1] at h2
        exact absurd h2 List.not_mem_nil
  | succ n ih =>
    intro L a w hf hwt hr hy hC H
    constructor
    · intro h; rw [h] at hr; exact absurd hr List.not_mem_nil
    · intro j hj
      rcases Decidable.em (j = i) with rfl | e
      · exact hy.wpOp ho hC ⟨fun _ => hC, H⟩
      · have hun := (mem_ready.1 hr).1
        have hjt : j ≠ t := fun h => waitsBy_not hwt hun (h ▸ hj)
        obtain ⟨hju, p, hp, hall⟩ := mem_ready.1 hj
        have hno : ∀ e ∈ p.after, Region.binds md e = true → e.on ≠ i := fun e he hb h => by
          have h1 := hall e he hb
          rw [h] at h1
          rcases Nat.lt_or_ge i L.size with h' | h'
          · simp [h'] at hun h1; rw [hun] at h1; cases h1
          · simp [Array.getElem?_eq_none h'] at h1
        have h2 := wpOp_putIf hp (hf j p hp e hju hno) (fun cs b => Region.noSelect_spec hs i o cs b ho) (fun cs b => Region.noSelect_spec hs j p cs b hp) hQ hy (H.2 j (ready_mono hj e))
        refine wpOp_mono (fun b u g => ?_) h2
        have hCu := g.2.1 hjt
        refine ⟨fun _ => hCu, ih _ b u (fun k q hk hki hku hkn => ?_) (waitsBy_keep hwt hun hj) (ready_mono hr (Ne.symm e)) g.1 hCu ?_⟩
        · refine hf k q hk hki ?_ hkn
          rcases Decidable.em (j = k) with rfl | hjk
          · exact hju
          · rw [getD_set_ne true hjk] at hku; exact hku
        · rw [Array.setIfInBounds_comm _ _ e]
          exact g.2.2

def wpMixS (P : Program) (ops : Array Oper) (Q : Exit → Act → World → Prop) (C : World → Prop) : List Bool → List Oper → Act → World → Prop
  | _, [], a, w => Q .normal a w
  | [], _ :: _, _, _ => False
  | true :: ks, o :: l, a, w => if Region.wanted o (yielded ops a.tmps) then o.quiet P a C (fun a' => wpMixS P ops Q C ks l a' w) else wpMixS P ops Q C ks l (a.put o.dst undef) w
  | false :: ks, o :: l, a, w => if Region.wanted o (yielded ops a.tmps) then o.wp P a w (fun a' w' => (l ≠ [] → C w') ∧ wpMixS P ops Q C ks l a' w') Q else wpMixS P ops Q C ks l (a.put o.dst undef) w
def mixSB (md : Region.Mode) (ops : Array Oper) (t : Nat) : List Nat → List Bool → Array Bool → Bool
  | [], _, L => (Region.ready md ops L).isEmpty
  | i :: is, true :: ks, L => (Region.ready md ops L).contains i && Region.free md ops L i && ((ops[i]?).map valueOnly).getD false && !(i == t) && waitsBy md ops t i L && mixSB md ops t is ks (L.setIfInBounds i true)
  | i :: is, false :: ks, L => (Region.ready md ops L == [i]) && (is.isEmpty == (i == t)) && mixSB md ops t is ks (L.setIfInBounds i true)
  | _ :: _, [], _ => false
theorem sink_of_mix (hs : Region.noSelect ops = true) (hQ : ∀ (c : _) (a : Act) (d : Option Tmp) (v : Value) (w : World), Q (.panic c) (a.put d v) w → Q (.panic c) a w) :
    ∀ (is : List Nat) (ks : List Bool) (l : List Oper) (L : Array Bool) (a : Act) (w : World), (∀ j : Nat, l[j]? = (is[j]?).bind (fun i => ops[i]?)) → l.length = is.length →
      mixSB md ops t is ks L = true → (l ≠ [] → C w) → wpMixS P ops Q C ks l a w → wpSink P md ops Q C t is.length L a w := by
  intro is
  induction is with
  | nil =>
    intro ks l L a w _ hn hB _ h
    obtain rfl : l = [] := List.eq_nil_of_length_eq_zero hn
    have h' : Q .normal a w := by cases ks <;> exact h
    exact ⟨by simpa [mixSB] using hB, h'⟩
  | cons i is ih =>
    intro ks l L a w hl hn hB hC h
    cases l with
    | nil => simp at hn
    | cons o l =>
      have hC := hC (by simp)
      have ho : ops[i]? = some o := by simpa using (hl 0).symm
      have hl' : ∀ j : Nat, l[j]? = (is[j]?).bind (fun i => ops[i]?) := fun j => by simpa using hl (j + 1)
      have hn' : l.length = is.length := by simpa using hn
      cases ks with
      | nil => simp [mixSB] at hB
      | cons k ks =>
        cases k with
        | true =>
          simp only [mixSB, Bool.and_eq_true, ho, Option.map_some, Option.getD_some, Bool.not_eq_true', beq_eq_false_iff_ne] at hB
          obtain ⟨⟨⟨⟨⟨hr, hf⟩, hv⟩, hit⟩, hwt⟩, hB'⟩ := hB
          simp only [wpMixS] at h
          have hr' : i ∈ Region.ready md ops L := by simpa using hr
          by_cases hw : Region.wanted o (yielded ops a.tmps) = true
          · rw [if_pos hw] at h
            obtain ⟨v, h1, h2⟩ := yieldsIf_of_quiet hv h
            exact sink_first ho hs hit (fun c a w => hQ c a _ _ w) _ L a w (Region.free_spec ho hf) hwt hr' (.inl ⟨hw, h1⟩) hC (ih ks l _ _ w hl' hn' hB' (fun _ => hC) h2)
          · rw [if_neg hw] at h
            exact sink_first ho hs hit (fun c a w => hQ c a _ _ w) _ L a w (Region.free_spec ho hf) hwt hr' (.inr ⟨by simpa using hw, rfl⟩) hC (ih ks l _ _ w hl' hn' hB' (fun _ => hC) h)
        | false =>
          simp only [mixSB, Bool.and_eq_true, beq_iff_eq] at hB
          obtain ⟨⟨hr, he⟩, hB'⟩ := hB
          simp only [wpMixS] at h
          have hlt : i ≠ t → l ≠ [] := fun hne hl0 => by
            subst hl0
            have : is = [] := List.eq_nil_of_length_eq_zero hn'.symm
            rw [this] at he
            exact hne (by simpa using he.symm)
          refine ⟨fun h0 => by rw [h0] at hr; simp at hr, fun j hj => ?_⟩
          rw [hr, List.mem_singleton] at hj
          subst hj
          unfold wpOp
          simp only [ho]
          by_cases hw : Region.wanted o (yielded ops a.tmps) = true
          · rw [if_pos hw] at h ⊢
            exact .inl (Oper.wp_mono (fun a' w' hh => ⟨fun hne => hh.1 (hlt hne), ih ks l _ a' w' hl' hn' hB' hh.1 hh.2⟩) h)
          · rw [if_neg hw] at h ⊢
            exact ⟨fun _ => hC, ih ks l _ _ w hl' hn' hB' (fun _ => hC) h⟩
structure MixS (P : Program) (ops : Array Oper) (Q : Exit → Act → World → Prop) (C : World → Prop) (ks : List Bool) (l : List Oper) (a : Act) (w : World) : Prop where
  out : wpMixS P ops Q C ks l a w
theorem wp_region_sink {id : Nat} {l : List Oper} {a : Act} {w : World} (is : List Nat) (ks : List Bool) (t : Nat) (hm : P.follows .mixedOrders = true) (hs : Region.noSelect l.toArray = true)
    (hB : (is.all (fun i => decide (i < l.length)) && decide (is.length = l.length) && mixSB .any l.toArray t is ks (Array.replicate l.length false)) = true)
    (hQ : ∀ (c : _) (a : Act) (d : Option Tmp) (v : Value) (w : World), Q (.panic c) (a.put d v) w → Q (.panic c) a w) (hC : C w.drew) (h : MixS P l.toArray Q C ks (is.map fun i => l.getD i default) a w.drew) : (Code.region id l.toArray true).wp P Q a w := by
  simp only [Bool.and_eq_true, decide_eq_true_eq, List.all_eq_true] at hB
  obtain ⟨⟨h1, h2⟩, h3⟩ := hB
  refine wp_region_any hm (any_of_sink (C := C) (t := t) _ _ _ _ ?_)
  have := sink_of_mix (md := .any) hs hQ is ks (is.map fun i => l.getD i default) (Array.replicate l.length false) a w.drew (fun j => by
    rw [List.getElem?_map]
    cases hj : is[j]? with
    | none => rfl
    | some i =>
      have hi := h1 i (List.mem_of_getElem? hj)
      simp [hi, List.getD_eq_getElem?_getD]) (by simp) h3 (fun _ => hC) h.out
  rw [h2] at this
  simpa using this
theorem wpMixS_pure {ks : List Bool} {o : Oper} {l : List Oper} {a : Act} {w : World} (hw : Region.wanted o (yielded ops a.tmps) = true)
    (h : ∀ K : Act → Prop, (∀ a', MixS P ops Q C ks l a' w → K a') → o.quiet P a C K) : MixS P ops Q C (true :: ks) (o :: l) a w := by
  refine ⟨?_⟩
  simp only [wpMixS]; rw [if_pos hw]; exact h _ fun _ h => h.out
theorem wpMixS_skip {k : Bool} {ks : List Bool} {o : Oper} {l : List Oper} {a : Act} {w : World} (hw : Region.wanted o (yielded ops a.tmps) = false)
    (h : ∀ K : Act → Prop, (∀ a', MixS P ops Q C ks l a' w → K a') → K (a.put o.dst undef)) : MixS P ops Q C (k :: ks) (o :: l) a w := by
  have h' : wpMixS P ops Q C ks l (a.put o.dst undef) w := h _ fun _ h => h.out
  refine ⟨?_⟩
  cases k <;> (simp only [wpMixS]; rw [if_neg (by rw [hw]; exact Bool.false_ne_true)]; exact h')
theorem wpMixS_act {ks : List Bool} {o : Oper} {l : List Oper} {a : Act} {w : World} (hw : Region.wanted o (yielded ops a.tmps) = true)
    (h : ∀ K : Act → World → Prop, (∀ a' w', C w' → MixS P ops Q C ks l a' w' → K a' w') → o.wp P a w K Q) : MixS P ops Q C (false :: ks) (o :: l) a w := by
  refine ⟨?_⟩
  simp only [wpMixS]; rw [if_pos hw]; exact h _ fun _ _ hc h => ⟨fun _ => hc, h.out⟩
theorem wpMixS_last {ks : List Bool} {o : Oper} {a : Act} {w : World} (hw : Region.wanted o (yielded ops a.tmps) = true)
    (h : ∀ K : Act → World → Prop, (∀ a' w', Q .normal a' w' → K a' w') → o.wp P a w K Q) : MixS P ops Q C (false :: ks) [o] a w := by
  refine ⟨?_⟩
  simp only [wpMixS]; rw [if_pos hw]; exact h _ fun _ _ hq => ⟨fun h0 => absurd rfl h0, by cases ks <;> exact hq⟩
theorem mixS_world {ks : List Bool} {l : List Oper} {a : Act} {w : World} (X : World → Prop) (hX : X w) (h : ∀ N, X N → MixS P ops Q C ks l a N) : MixS P ops Q C ks l a w := h w hX
end
end Go.Proofs.Ytjfaafoldllppaa

namespace Go.Proofs.Ytjfaafoldllppaa
open Go.RowKit
set_option linter.unusedVariables false

theorem hit_cellS {w : World} {p : Addr} {x : Value} (h : (w.cell? p).isSome = true) : (w.setCell p x).cell? p = some x := by
  obtain ⟨v, hv⟩ := Option.isSome_iff_exists.1 h
  exact World.cell?_setCell_same w p x hv
structure BxG (w : World) (g : Nat) : Prop where
  d0 : w.cell? ⟨g, 0, none⟩ = some (.string ⟨#[]⟩)
  d1 : w.cell? ⟨g, 1, none⟩ = some (.int .i64 0)
  d2 : w.cell? ⟨g, 2, none⟩ = some (.int .i64 0)
  d3 : w.cell? ⟨g, 3, none⟩ = some (.int .i64 0)
  d4 : w.cell? ⟨g, 4, none⟩ = some (.int .i64 0)
  d5 : w.cell? ⟨g, 5, none⟩ = some (.int .i64 0)
  d6 : w.cell? ⟨g, 6, none⟩ = some (.int .i64 0)
  z0 : w.frozen? ⟨g, 0, none⟩ = false
  z1 : w.frozen? ⟨g, 1, none⟩ = false
  z2 : w.frozen? ⟨g, 2, none⟩ = false
  z3 : w.frozen? ⟨g, 3, none⟩ = false
  z4 : w.frozen? ⟨g, 4, none⟩ = false
  z5 : w.frozen? ⟨g, 5, none⟩ = false
  z6 : w.frozen? ⟨g, 6, none⟩ = false
theorem BxG.new (w : World) (T : TypeId) : BxG (w.alloc (.cells #[.string ⟨#[]⟩, .int .i64 0, .int .i64 0, .int .i64 0, .int .i64 0, .int .i64 0, .int .i64 0] T)) w.heap.size := by
  constructor <;> simp
theorem BxG.below {w w' : World} {g B : Nat} (h : BxG w g) (hb : Below B w w') (hg : g < B) : BxG w' g :=
  ⟨(hb.cell (p := ⟨g, _, none⟩) hg).trans h.d0, (hb.cell (p := ⟨g, _, none⟩) hg).trans h.d1, (hb.cell (p := ⟨g, _, none⟩) hg).trans h.d2, (hb.cell (p := ⟨g, _, none⟩) hg).trans h.d3, (hb.cell (p := ⟨g, _, none⟩) hg).trans h.d4, (hb.cell (p := ⟨g, _, none⟩) hg).trans h.d5, (hb.cell (p := ⟨g, _, none⟩) hg).trans h.d6,
   (hb.frozen (p := ⟨g, _, none⟩) hg).trans h.z0, (hb.frozen (p := ⟨g, _, none⟩) hg).trans h.z1, (hb.frozen (p := ⟨g, _, none⟩) hg).trans h.z2, (hb.frozen (p := ⟨g, _, none⟩) hg).trans h.z3, (hb.frozen (p := ⟨g, _, none⟩) hg).trans h.z4, (hb.frozen (p := ⟨g, _, none⟩) hg).trans h.z5, (hb.frozen (p := ⟨g, _, none⟩) hg).trans h.z6⟩
theorem BxG.far {V : World} {b g j : Nat} {v : Value} (h : BxG V b) (hne : b ≠ g) : BxG (V.setCell ⟨g, j, none⟩ v) b := by
  have k : ∀ i, (V.setCell ⟨g, j, none⟩ v).cell? ⟨b, i, none⟩ = V.cell? ⟨b, i, none⟩ := fun i => World.cell?_setCell_far V ⟨g, j, none⟩ ⟨b, i, none⟩ v (fun e => hne e.symm)
  have f : ∀ i, (V.setCell ⟨g, j, none⟩ v).frozen? ⟨b, i, none⟩ = V.frozen? ⟨b, i, none⟩ := fun i => frozen?_setCell _ _ _ _
  exact ⟨(k _).trans h.d0, (k _).trans h.d1, (k _).trans h.d2, (k _).trans h.d3, (k _).trans h.d4, (k _).trans h.d5, (k _).trans h.d6, (f _).trans h.z0, (f _).trans h.z1, (f _).trans h.z2, (f _).trans h.z3, (f _).trans h.z4, (f _).trans h.z5, (f _).trans h.z6⟩
set_option maxRecDepth 100000 in
set_option maxHeartbeats 1000000 in
theorem l00Min_any (a b : Int) (w : World) : Calls Try.prog 72 #[.int .i64 a, .int .i64 b] w fun e w' => e = .returned (.int .i64 (min a b)) ∧ w = w' := by
  by_cases h : a < b
  · have e : min a b = a := by omega
    rw [e]
    go_enter Try.func72, Try.ntmps72
    go_wp2
    go_ret
    exact ⟨rfl, rfl⟩
  · have e : min a b = b := by omega
    rw [e]
    go_enter Try.func72, Try.ntmps72
    go_wp2
    go_ret
    exact ⟨rfl, rfl⟩
set_option maxRecDepth 100000 in
set_option maxHeartbeats 8000000 in
theorem l24Sum_any (pa oa pb ob : Nat) (x y : DGroup) (id : ByteArray) (w : World) (ha : PGroup w pa oa x) (hb : PGroup w pb ob y) (hx : GrpIn x) (hy : GrpIn y) :
    Calls Try.prog 50 #[.pointer (some ⟨pa, oa, none⟩), .pointer (some ⟨pb, ob, none⟩), .string id] w fun e w' =>
      e = .returned (.agg #[.string id, .int .i64 (x.people + y.people), .int .i64 (x.guides + y.guides), .int .i64 (x.beacons + y.beacons), .int .i64 (x.shovels + y.shovels), .int .i64 (x.probes + y.probes), .int .i64 (min x.skill y.skill)]) ∧ Below w.heap.size w w' := by
  obtain ⟨_, a1, a2, a3, a4, a5, a6⟩ := hx
  obtain ⟨_, b1, b2, b3, b4, b5, b6⟩ := hy
  have e1 := w64_inS (x.people + y.people) (by omega)
  have e2 := w64_inS (x.guides + y.guides) (by omega)
  have e3 := w64_inS (x.beacons + y.beacons) (by omega)
  have e4 := w64_inS (x.shovels + y.shovels) (by omega)
  have e5 := w64_inS (x.probes + y.probes) (by omega)
  have hB0 : Below w.heap.size w (w.alloc (.cells #[.string ⟨#[]⟩, .int .i64 0, .int .i64 0, .int .i64 0, .int .i64 0, .int .i64 0, .int .i64 0] 43)) := (Below.refl _ _).alloc (Nat.le_refl _) _
  have hbx := BxG.new w 43
  replace ha := ha.below' hB0
  replace hb := hb.below' hB0
  have hgl : w.heap.size < (w.alloc (.cells #[.string ⟨#[]⟩, .int .i64 0, .int .i64 0, .int .i64 0, .int .i64 0, .int .i64 0, .int .i64 0] 43)).heap.size := by simp
  go_enter Try.func50, Try.ntmps50
  go_wp2
  generalize w.alloc (.cells #[.string ⟨#[]⟩, .int .i64 0, .int .i64 0, .int .i64 0, .int .i64 0, .int .i64 0, .int .i64 0] 43) = W at *
  generalize hgg : w.heap.size = gr at *
  have hg2 := Lib.hid hgg
  clear hgg
  obtain ⟨A0, A1, A2, A3, A4, A5, A6⟩ := ha
  obtain ⟨B0, B1, B2, B3, B4, B5, B6⟩ := hb
  have gA1 := cell_regrown A1
  have gA2 := cell_regrown A2
  have gA3 := cell_regrown A3
  have gA4 := cell_regrown A4
  have gA5 := cell_regrown A5
  have gA6 := cell_regrown A6
  have gB1 := cell_regrown B1
  have gB2 := cell_regrown B2
  have gB3 := cell_regrown B3
  have gB4 := cell_regrown B4
  have gB5 := cell_regrown B5
  have gB6 := cell_regrown B6
  refine wp_region_sink (C := fun w' => ∃ p : Regrown, w' = Go.Sort.grow (redrawn W p.d) p.os) [0, 1, 2, 3, 4, 5, 6, 7, 8, 9, 10, 11, 12, 13, 14, 15, 16, 17, 18, 19, 20, 21, 22, 23, 24, 25, 26, 27, 28, 29, 30, 31, 32, 33, 34, 35, 36, 37, 38, 39, 40, 41, 42, 43, 44, 45, 46, 47, 48, 49, 50, 51, 52, 53, 54, 55, 56] [true, true, true, true, true, true, true, true, true, true, true, true, true, true, true, true, true, true, true, true, true, true, true, true, true, true, true, true, true, true, true, true, true, true, true, true, true, true, true, true, true, true, true, true, true, true, true, true, true, true, true, true, true, true, false, true, false] 56 (by kernel_rfl) (by kernel_rfl) (by kernel_rfl) (fun _ _ d _ _ h => by cases d <;> exact h) (regrown_of_below (Below.drew (Below.refl _ _))) ?_
  simp only [List.map_cons, List.map_nil, List.getD_cons_zero, List.getD_cons_succ]
  have hS0 : Below (W.heap.size) W W.drew := Below.drew (Below.refl _ _)
  refine wpMixS_pure (by kernel_rfl) (fun K hK => ?_)
  go_big_quiet_op
  refine hK _ ?_; clear hK K
  refine wpMixS_pure (by kernel_rfl) (fun K hK => ?_)
  go_big_quiet_op
  refine hK _ ?_; clear hK K
  refine wpMixS_pure (by kernel_rfl) (fun K hK => ?_)
  go_big_quiet_op
  refine hK _ ?_; clear hK K
  refine wpMixS_pure (by kernel_rfl) (fun K hK => ?_)
  go_big_quiet_op
  refine hK _ ?_; clear hK K
  refine wpMixS_pure (by kernel_rfl) (fun K hK => ?_)
  go_big_quiet_op
  refine hK _ ?_; clear hK K
  refine wpMixS_pure (by kernel_rfl) (fun K hK => ?_)
  go_big_quiet_op
  refine hK _ ?_; clear hK K
  refine wpMixS_pure (by kernel_rfl) (fun K hK => ?_)
  go_big_quiet_op
  refine hK _ ?_; clear hK K
  refine wpMixS_pure (by kernel_rfl) (fun K hK => ?_)
  go_big_quiet_op
  refine hK _ ?_; clear hK K
  refine wpMixS_pure (by kernel_rfl) (fun K hK => ?_)
  go_big_quiet_op
  refine hK _ ?_; clear hK K
  refine wpMixS_pure (by kernel_rfl) (fun K hK => ?_)
  go_big_quiet_op
  refine hK _ ?_; clear hK K
  refine wpMixS_pure (by kernel_rfl) (fun K hK => ?_)
  go_big_quiet_op
  refine hK _ ?_; clear hK K
  refine wpMixS_pure (by kernel_rfl) (fun K hK => ?_)
  go_big_quiet_op
  refine hK _ ?_; clear hK K
  refine wpMixS_pure (by kernel_rfl) (fun K hK => ?_)
  go_big_quiet_op
  refine hK _ ?_; clear hK K
  refine wpMixS_pure (by kernel_rfl) (fun K hK => ?_)
  go_big_quiet_op
  refine hK _ ?_; clear hK K
  refine wpMixS_pure (by kernel_rfl) (fun K hK => ?_)
  go_big_quiet_op
  refine hK _ ?_; clear hK K
  refine wpMixS_pure (by kernel_rfl) (fun K hK => ?_)
  go_big_quiet_op
  refine hK _ ?_; clear hK K
  refine wpMixS_pure (by kernel_rfl) (fun K hK => ?_)
  go_big_quiet_op
  refine hK _ ?_; clear hK K
  refine wpMixS_pure (by kernel_rfl) (fun K hK => ?_)
  go_big_quiet_op
  refine hK _ ?_; clear hK K
  refine wpMixS_pure (by kernel_rfl) (fun K hK => ?_)
  go_big_quiet_op
  refine hK _ ?_; clear hK K
  refine wpMixS_pure (by kernel_rfl) (fun K hK => ?_)
  go_big_quiet_op
  refine hK _ ?_; clear hK K
  refine wpMixS_pure (by kernel_rfl) (fun K hK => ?_)
  go_big_quiet_op
  refine hK _ ?_; clear hK K
  refine wpMixS_pure (by kernel_rfl) (fun K hK => ?_)
  go_big_quiet_op
  refine hK _ ?_; clear hK K
  refine wpMixS_pure (by kernel_rfl) (fun K hK => ?_)
  go_big_quiet_op
  refine hK _ ?_; clear hK K
  refine wpMixS_pure (by kernel_rfl) (fun K hK => ?_)
  go_big_quiet_op
  refine hK _ ?_; clear hK K
  refine wpMixS_pure (by kernel_rfl) (fun K hK => ?_)
  go_big_quiet_op
  refine hK _ ?_; clear hK K
  refine wpMixS_pure (by kernel_rfl) (fun K hK => ?_)
  go_big_quiet_op
  refine hK _ ?_; clear hK K
  refine wpMixS_pure (by kernel_rfl) (fun K hK => ?_)
  go_big_quiet_op
  refine hK _ ?_; clear hK K
  refine wpMixS_pure (by kernel_rfl) (fun K hK => ?_)
  go_big_quiet_op
  refine hK _ ?_; clear hK K
  refine wpMixS_pure (by kernel_rfl) (fun K hK => ?_)
  go_big_quiet_op
  refine hK _ ?_; clear hK K
  refine wpMixS_pure (by kernel_rfl) (fun K hK => ?_)
  go_big_quiet_op
  refine hK _ ?_; clear hK K
  refine wpMixS_pure (by kernel_rfl) (fun K hK => ?_)
  go_big_quiet_op
  refine hK _ ?_; clear hK K
  refine wpMixS_pure (by kernel_rfl) (fun K hK => ?_)
  go_big_quiet_op
  refine hK _ ?_; clear hK K
  refine wpMixS_pure (by kernel_rfl) (fun K hK => ?_)
  go_big_quiet_op
  refine hK _ ?_; clear hK K
  refine wpMixS_pure (by kernel_rfl) (fun K hK => ?_)
  go_big_quiet_op
  refine hK _ ?_; clear hK K
  refine wpMixS_pure (by kernel_rfl) (fun K hK => ?_)
  go_big_quiet_op
  refine hK _ ?_; clear hK K
  refine wpMixS_pure (by kernel_rfl) (fun K hK => ?_)
  go_big_quiet_op
  refine hK _ ?_; clear hK K
  refine wpMixS_pure (by kernel_rfl) (fun K hK => ?_)
  go_big_quiet_op
  refine hK _ ?_; clear hK K
  refine wpMixS_pure (by kernel_rfl) (fun K hK => ?_)
  go_big_quiet_op
  refine hK _ ?_; clear hK K
  refine wpMixS_pure (by kernel_rfl) (fun K hK => ?_)
  go_big_quiet_op
  refine hK _ ?_; clear hK K
  refine wpMixS_pure (by kernel_rfl) (fun K hK => ?_)
  go_big_quiet_op
  refine hK _ ?_; clear hK K
  refine wpMixS_pure (by kernel_rfl) (fun K hK => ?_)
  go_big_quiet_op
  refine hK _ ?_; clear hK K
  refine wpMixS_pure (by kernel_rfl) (fun K hK => ?_)
  go_big_quiet_op
  refine hK _ ?_; clear hK K
  refine wpMixS_pure (by kernel_rfl) (fun K hK => ?_)
  go_big_quiet_op
  refine hK _ ?_; clear hK K
  refine wpMixS_pure (by kernel_rfl) (fun K hK => ?_)
  go_big_quiet_op
  refine hK _ ?_; clear hK K
  refine wpMixS_pure (by kernel_rfl) (fun K hK => ?_)
  go_big_quiet_op
  refine hK _ ?_; clear hK K
  refine wpMixS_pure (by kernel_rfl) (fun K hK => ?_)
  go_big_quiet_op
  refine hK _ ?_; clear hK K
  refine wpMixS_pure (by kernel_rfl) (fun K hK => ?_)
  go_big_quiet_op
  refine hK _ ?_; clear hK K
  refine wpMixS_pure (by kernel_rfl) (fun K hK => ?_)
  go_big_quiet_op
  refine hK _ ?_; clear hK K
  refine wpMixS_pure (by kernel_rfl) (fun K hK => ?_)
  go_big_quiet_op
  refine hK _ ?_; clear hK K
  refine wpMixS_pure (by kernel_rfl) (fun K hK => ?_)
  go_big_quiet_op
  refine hK _ ?_; clear hK K
  refine wpMixS_pure (by kernel_rfl) (fun K hK => ?_)
  go_big_quiet_op
  refine hK _ ?_; clear hK K
  refine wpMixS_pure (by kernel_rfl) (fun K hK => ?_)
  go_big_quiet_op
  refine hK _ ?_; clear hK K
  refine wpMixS_pure (by kernel_rfl) (fun K hK => ?_)
  go_big_quiet_op
  refine hK _ ?_; clear hK K
  refine wpMixS_pure (by kernel_rfl) (fun K hK => ?_)
  go_big_quiet_op
  refine hK _ ?_; clear hK K
  refine wpMixS_act (by kernel_rfl) (fun K hK => ?_)
  go_big_op
  refine (l00Min_any _ _ _).mono ?_
  rintro e w' ⟨rfl, rfl⟩
  refine hK _ _ (regrown_of_below hS0) ?_
  clear hK K
  refine wpMixS_pure (by kernel_rfl) (fun K hK => ?_)
  go_big_quiet_op
  refine hK _ ?_; clear hK K
  refine wpMixS_last (by kernel_rfl) (fun K hK => ?_)
  obtain ⟨d0, d1, d2, d3, d4, d5, d6, z0, z1, z2, z3, z4, z5, z6⟩ := hbx
  go_big_op
  try simp only [Act.put, List.setIfInBounds_toArray, List.set_cons_zero, List.set_cons_succ]
  refine hK _ _ ?_
  clear hK K
  go_wp2
  refine bodyPost_ret (v := .agg #[.string id, .int .i64 (x.people + y.people), .int .i64 (x.guides + y.guides), .int .i64 (x.beacons + y.beacons), .int .i64 (x.shovels + y.shovels), .int .i64 (x.probes + y.probes), .int .i64 (min x.skill y.skill)]) (by simp [results, hit_cellS, d0, d1, d2, d3, d4, d5, d6, Try.results50, go_sem]) rfl ⟨rfl, ?_⟩
  have hle : w.heap.size ≤ gr := Nat.le_of_eq hg2.out
  have hBz : Below w.heap.size w W := by rw [hg2.out]; exact hB0
  exact Below.drew (((((((hBz.setCell (p := ⟨gr, 0, none⟩) hle _).setCell (p := ⟨gr, 1, none⟩) hle _).setCell (p := ⟨gr, 2, none⟩) hle _).setCell (p := ⟨gr, 3, none⟩) hle _).setCell (p := ⟨gr, 4, none⟩) hle _).setCell (p := ⟨gr, 5, none⟩) hle _).setCell (p := ⟨gr, 6, none⟩) hle _)
end Go.Proofs.Ytjfaafoldllppaa

namespace Go.Proofs.Ytjfaafoldllppaa
open Go.RowKit
set_option linter.unusedVariables false
set_option linter.unusedSimpArgs false

def jnC (a b : DGroup) (id : ByteArray) : Int := if (groupB a && groupB b) = false then 1 else if nameB id = false then 2 else if groupB (sumG a b id) = false then 6 else 0
def jnF (a b : DGroup) (nm : ByteArray) : DGroup := if jnC a b nm = 0 then sumG a b nm else ⟨⟨#[]⟩, 0, 0, 0, 0, 0, 0⟩
theorem jn_bad {a b : DGroup} {nm : ByteArray} {c : Int} (hc : jnC a b nm = c) (h0 : c ≠ 0) : Hid (jnC a b nm = c ∧ jnF a b nm = ⟨⟨#[]⟩, 0, 0, 0, 0, 0, 0⟩) := ⟨hc, by unfold jnF; rw [if_neg (by rw [hc]; exact h0)]⟩
set_option maxRecDepth 100000 in
set_option maxHeartbeats 8000000 in
theorem specJoinGroups_any (a b : DGroup) (nm : ByteArray) (w : World) (hoa : fGroup.ok a) (hob : fGroup.ok b) (hid : nm.size ≤ 1000) :
    Calls Try.prog 22 #[.agg #[.string a.id, .int .i64 a.people, .int .i64 a.guides, .int .i64 a.beacons, .int .i64 a.shovels, .int .i64 a.probes, .int .i64 a.skill], .agg #[.string b.id, .int .i64 b.people, .int .i64 b.guides, .int .i64 b.beacons, .int .i64 b.shovels, .int .i64 b.probes, .int .i64 b.skill], .string nm] w fun e w' => e = .returned (.tuple #[agGroup (jnF a b nm), .int .i64 (jnC a b nm)]) ∧ Below w.heap.size w w' := by
  have hB0 : Below w.heap.size w ((w.alloc (.cells #[.string a.id, .int .i64 a.people, .int .i64 a.guides, .int .i64 a.beacons, .int .i64 a.shovels, .int .i64 a.probes, .int .i64 a.skill] 43)).alloc (.cells #[.string b.id, .int .i64 b.people, .int .i64 b.guides, .int .i64 b.beacons, .int .i64 b.shovels, .int .i64 b.probes, .int .i64 b.skill] 43)) := ((Below.refl _ _).alloc (Nat.le_refl _) _).alloc (by simp) _
  have hB1 : Below w.heap.size w (((w.alloc (.cells #[.string a.id, .int .i64 a.people, .int .i64 a.guides, .int .i64 a.beacons, .int .i64 a.shovels, .int .i64 a.probes, .int .i64 a.skill] 43)).alloc (.cells #[.string b.id, .int .i64 b.people, .int .i64 b.guides, .int .i64 b.beacons, .int .i64 b.shovels, .int .i64 b.probes, .int .i64 b.skill] 43)).alloc (.cells #[.string ⟨#[]⟩, .int .i64 0, .int .i64 0, .int .i64 0, .int .i64 0, .int .i64 0, .int .i64 0] 43)) := hB0.alloc hB0.size _
  have hpa : PGroup (((w.alloc (.cells #[.string a.id, .int .i64 a.people, .int .i64 a.guides, .int .i64 a.beacons, .int .i64 a.shovels, .int .i64 a.probes, .int .i64 a.skill] 43)).alloc (.cells #[.string b.id, .int .i64 b.people, .int .i64 b.guides, .int .i64 b.beacons, .int .i64 b.shovels, .int .i64 b.probes, .int .i64 b.skill] 43)).alloc (.cells #[.string ⟨#[]⟩, .int .i64 0, .int .i64 0, .int .i64 0, .int .i64 0, .int .i64 0, .int .i64 0] 43)) w.heap.size 0 a := ((PGroup.box w a 43).below ((Below.refl (w.heap.size + 1) _).alloc (by simp) _) (Nat.lt_succ_self _)).below ((Below.refl (w.heap.size + 1) _).alloc (by simp) _) (Nat.lt_succ_self _)
  have hpb : PGroup (((w.alloc (.cells #[.string a.id, .int .i64 a.people, .int .i64 a.guides, .int .i64 a.beacons, .int .i64 a.shovels, .int .i64 a.probes, .int .i64 a.skill] 43)).alloc (.cells #[.string b.id, .int .i64 b.people, .int .i64 b.guides, .int .i64 b.beacons, .int .i64 b.shovels, .int .i64 b.probes, .int .i64 b.skill] 43)).alloc (.cells #[.string ⟨#[]⟩, .int .i64 0, .int .i64 0, .int .i64 0, .int .i64 0, .int .i64 0, .int .i64 0] 43)) (w.heap.size + 1) 0 b := by
    have h := PGroup.box (w.alloc (.cells #[.string a.id, .int .i64 a.people, .int .i64 a.guides, .int .i64 a.beacons, .int .i64 a.shovels, .int .i64 a.probes, .int .i64 a.skill] 43)) b 43
    rw [World.size_alloc] at h
    exact h.below ((Below.refl (w.heap.size + 2) _).alloc (by simp) _) (by omega)
  have hbx : BxGroup (((w.alloc (.cells #[.string a.id, .int .i64 a.people, .int .i64 a.guides, .int .i64 a.beacons, .int .i64 a.shovels, .int .i64 a.probes, .int .i64 a.skill] 43)).alloc (.cells #[.string b.id, .int .i64 b.people, .int .i64 b.guides, .int .i64 b.beacons, .int .i64 b.shovels, .int .i64 b.probes, .int .i64 b.skill] 43)).alloc (.cells #[.string ⟨#[]⟩, .int .i64 0, .int .i64 0, .int .i64 0, .int .i64 0, .int .i64 0, .int .i64 0] 43)) (w.heap.size + 2) := by
    have h := BxGroup.new ((w.alloc (.cells #[.string a.id, .int .i64 a.people, .int .i64 a.guides, .int .i64 a.beacons, .int .i64 a.shovels, .int .i64 a.probes, .int .i64 a.skill] 43)).alloc (.cells #[.string b.id, .int .i64 b.people, .int .i64 b.guides, .int .i64 b.beacons, .int .i64 b.shovels, .int .i64 b.probes, .int .i64 b.skill] 43)) 43
    rw [World.size_alloc, World.size_alloc] at h; exact h
  have hrr : w.heap.size ≤ w.heap.size + 2 := by omega
  clear hB0
  go_enter Try.func22, Try.ntmps22
  go_wp2_with fail
  refine (l24One_any _ 0 a _ hpa hoa.1).mono ?_
  rintro e w1 ⟨rfl, hbN⟩
  have hp1a := hpa.below' hbN
  have hp1b := hpb.below' hbN
  replace hbx := hbx.belowB hbN hbx.lt
  replace hB1 := hB1.trans (hbN.mono hB1.size)
  clear hpa hpb hbN
  have hpa := hp1a
  have hpb := hp1b
  clear hp1a hp1b
  cases hva : groupB a
  · have HE := jn_bad (show jnC a b nm = 1 by unfold jnC; rw [hva]; rfl) (by decide)
    obtain ⟨d0, d1, d2, d3, d4, d5, d6, z0, z1, z2, z3, z4, z5, z6⟩ := hbx
    go_wp2
    exact bodyPost_ret (v := .tuple #[.agg #[.string ⟨#[]⟩, .int .i64 0, .int .i64 0, .int .i64 0, .int .i64 0, .int .i64 0, .int .i64 0], .int .i64 1]) (by simp [results, hit_cellX, d0, d1, d2, d3, d4, d5, d6, Try.results22, go_sem]) rfl ⟨by rw [HE.out.1, HE.out.2]; rfl, by (repeat (refine Below.setCell ?_ hrr _)); exact hB1⟩
  go_wp2_with fail
  refine (l24One_any _ 0 b _ hpb hob.1).mono ?_
  rintro e w2 ⟨rfl, hbN⟩
  have hp2a := hpa.below' hbN
  have hp2b := hpb.below' hbN
  replace hbx := hbx.belowB hbN hbx.lt
  replace hB1 := hB1.trans (hbN.mono hB1.size)
  clear hpa hpb hbN
  have hpa := hp2a
  have hpb := hp2b
  clear hp2a hp2b
  cases hvb : groupB b
  · have HE := jn_bad (show jnC a b nm = 1 by unfold jnC; rw [hva, hvb]; rfl) (by decide)
    obtain ⟨d0, d1, d2, d3, d4, d5, d6, z0, z1, z2, z3, z4, z5, z6⟩ := hbx
    go_wp2
    exact bodyPost_ret (v := .tuple #[.agg #[.string ⟨#[]⟩, .int .i64 0, .int .i64 0, .int .i64 0, .int .i64 0, .int .i64 0, .int .i64 0], .int .i64 1]) (by simp [results, hit_cellX, d0, d1, d2, d3, d4, d5, d6, Try.results22, go_sem]) rfl ⟨by rw [HE.out.1, HE.out.2]; rfl, by (repeat (refine Below.setCell ?_ hrr _)); exact hB1⟩
  go_wp2_with fail
  refine (l01Name_any nm _ (by omega)).mono ?_
  rintro e w' ⟨rfl, rfl⟩
  cases hn : nameB nm
  · have HE := jn_bad (show jnC a b nm = 2 by unfold jnC; rw [hva, hvb, hn]; rfl) (by decide)
    obtain ⟨d0, d1, d2, d3, d4, d5, d6, z0, z1, z2, z3, z4, z5, z6⟩ := hbx
    go_wp2
    exact bodyPost_ret (v := .tuple #[.agg #[.string ⟨#[]⟩, .int .i64 0, .int .i64 0, .int .i64 0, .int .i64 0, .int .i64 0, .int .i64 0], .int .i64 2]) (by simp [results, hit_cellX, d0, d1, d2, d3, d4, d5, d6, Try.results22, go_sem]) rfl ⟨by rw [HE.out.1, HE.out.2]; rfl, by (repeat (refine Below.setCell ?_ hrr _)); exact hB1⟩
  go_wp2_with fail
  refine (l24Sum_any _ 0 _ 0 a b nm _ hpa hpb (GrpIn.of hva) (GrpIn.of hvb)).mono ?_
  rintro e w3 ⟨rfl, hbN⟩
  have hsok : fGroup.ok (sumG a b nm) := sumG_ok (GrpIn.of hva) (GrpIn.of hvb) hid
  have hJ : jnC a b nm = if groupB (sumG a b nm) = false then 6 else 0 := by unfold jnC; rw [hva, hvb, hn]; rfl
  replace hbx := hbx.belowB hbN hbx.lt
  replace hB1 := hB1.trans (hbN.mono hB1.size)
  clear hpa hpb hbN hva hvb hn
  have hAl : Below w3.heap.size w3 (w3.alloc (.cells #[.string nm, .int .i64 (a.people + b.people), .int .i64 (a.guides + b.guides), .int .i64 (a.beacons + b.beacons), .int .i64 (a.shovels + b.shovels), .int .i64 (a.probes + b.probes), .int .i64 (min a.skill b.skill)] 43)) := (Below.refl _ _).alloc (Nat.le_refl _) _
  have hps := PGroup.box w3 (sumG a b nm) 43
  replace hbx := hbx.belowB hAl hbx.lt
  replace hB1 := hB1.trans (hAl.mono hB1.size)
  clear hAl
  go_wp2_with fail
  refine (l24One_any _ 0 (sumG a b nm) _ hps hsok.1).mono ?_
  rintro e w4 ⟨rfl, hbN⟩
  have hps4 := hps.below' hbN
  replace hbx := hbx.belowB hbN hbx.lt
  replace hB1 := hB1.trans (hbN.mono hB1.size)
  clear hbN hps
  cases hs : groupB (sumG a b nm)
  · have HE := jn_bad (show jnC a b nm = 6 by rw [hJ, hs]; rfl) (by decide)
    clear hJ hs hsok hps4
    obtain ⟨d0, d1, d2, d3, d4, d5, d6, z0, z1, z2, z3, z4, z5, z6⟩ := hbx
    go_wp2
    exact bodyPost_ret (v := .tuple #[.agg #[.string ⟨#[]⟩, .int .i64 0, .int .i64 0, .int .i64 0, .int .i64 0, .int .i64 0, .int .i64 0], .int .i64 6]) (by simp [results, hit_cellX, d0, d1, d2, d3, d4, d5, d6, Try.results22, go_sem]) rfl ⟨by rw [HE.out.1, HE.out.2]; rfl, by (repeat (refine Below.setCell ?_ hrr _)); exact hB1⟩
  · have h0 : jnC a b nm = 0 := by rw [hJ, hs]; rfl
    have HE := Lib.hid (show jnC a b nm = 0 ∧ jnF a b nm = sumG a b nm from ⟨h0, by unfold jnF; rw [if_pos h0]⟩)
    obtain ⟨c0, c1, c2, c3, c4, c5, c6⟩ := id hps4
    simp only [sumG] at c0 c1 c2 c3 c4 c5 c6
    clear hJ hs hsok h0 hps4
    obtain ⟨d0, d1, d2, d3, d4, d5, d6, z0, z1, z2, z3, z4, z5, z6⟩ := hbx
    go_wp2
    exact bodyPost_ret (v := .tuple #[.agg #[.string nm, .int .i64 (a.people + b.people), .int .i64 (a.guides + b.guides), .int .i64 (a.beacons + b.beacons), .int .i64 (a.shovels + b.shovels), .int .i64 (a.probes + b.probes), .int .i64 (min a.skill b.skill)], .int .i64 0]) (by simp [results, hit_cellX, d0, d1, d2, d3, d4, d5, d6, Try.results22, go_sem]) rfl ⟨by rw [HE.out.1, HE.out.2]; rfl, by (repeat (refine Below.setCell ?_ hrr _)); exact hB1⟩
end Go.Proofs.Ytjfaafoldllppaa
