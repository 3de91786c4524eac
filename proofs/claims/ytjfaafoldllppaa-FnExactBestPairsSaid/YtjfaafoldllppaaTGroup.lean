
/- Group: the data, its cells; the given helpers over it. Written by wip/gentype.py. -/
import Derived.Test.YtjfaafoldllppaaMark
namespace Go.Proofs.Ytjfaafoldllppaa
open Go.RowKit
set_option linter.unusedVariables false

structure DGroup where
  id : ByteArray
  people : Int
  guides : Int
  beacons : Int
  shovels : Int
  probes : Int
  skill : Int
  deriving DecidableEq

def fGroup : Flat DGroup where
  n := 7
  enc := fun x => [.string x.id, .int .i64 x.people, .int .i64 x.guides, .int .i64 x.beacons, .int .i64 x.shovels, .int .i64 x.probes, .int .i64 x.skill]
  ok := fun x => fStr.ok x.id ∧ fInt.ok x.people ∧ fInt.ok x.guides ∧ fInt.ok x.beacons ∧ fInt.ok x.shovels ∧ fInt.ok x.probes ∧ fInt.ok x.skill
  pos := by omega
  len := fun _ => rfl
  one := by intro x v hv; simp at hv; rcases hv with rfl | rfl | rfl | rfl | rfl | rfl | rfl <;> rfl

def totGroup (x : DGroup) : Nat := x.id.size
def totGroupS (xs : List DGroup) : Nat := xs.length + (xs.map totGroup).sum

set_option maxRecDepth 100000 in
set_option maxHeartbeats 1000000 in
theorem szGroup_any (x : DGroup) (left : Int) (w : World) (hx : fGroup.ok x) (h0 : 0 ≤ left) (h1 : left ≤ 1048576) :
    Calls Try.prog 24 #[.agg #[.string x.id, .int .i64 x.people, .int .i64 x.guides, .int .i64 x.beacons, .int .i64 x.shovels, .int .i64 x.probes, .int .i64 x.skill], .int .i64 left] w fun e w' => SzR left (totGroup x) w e w' := by
  have hsz0 : x.id.size ≤ 9223372036854775807 := hx.1
  by_cases c0 : left - x.id.size < 0
  · go_enter Try.func24, Try.ntmps24
    go_wp2
    go_ret
    exact .no (by repeat (first | exact Below.refl _ _ | assumption | refine Below.alloc ?_ (by first | omega | (simp <;> omega)) _ | refine Below.setCell ?_ (by first | (show _ ≤ _; omega) | (simp <;> omega)) _ | refine Below.drew ?_ | refine below_drewN ?_ _))
  · skip
    go_enter Try.func24, Try.ntmps24
    go_wp2
    go_ret
    exact .yes (by omega) (by unfold totGroup; omega) (by repeat (first | exact Below.refl _ _ | assumption | refine Below.alloc ?_ (by first | omega | (simp <;> omega)) _ | refine Below.setCell ?_ (by first | (show _ ≤ _; omega) | (simp <;> omega)) _ | refine Below.drew ?_ | refine below_drewN ?_ _))

set_option maxRecDepth 100000 in
set_option maxHeartbeats 1000000 in
theorem szGroupS_any (v : Value) (xs : List DGroup) (fp : List Nat) (left : Int) (w : World) (hx : Sl fGroup.cod w v xs fp) (h0 : 0 ≤ left) (h1 : left ≤ 1048576) :
    Calls Try.prog 5 #[v, .int .i64 left] w fun e w' => SzR left (totGroupS xs) w e w' := by
  obtain ⟨A, cap, rfl, hlen, hcap⟩ := hx.form
  by_cases hl : left - (xs.length : Int) < 0
  · go_enter Try.func5, Try.ntmps5
    go_wp2
    go_ret
    exact .no (Below.refl _ _)
  · go_enter Try.func5, Try.ntmps5
    go_wp2
    go_loopw [1, 5] (fun l i wr => ∃ k : Nat, k ≤ xs.length ∧ i = .int .i64 k ∧ Below w.heap.size w wr ∧ ∃ r : Int, l = .int .i64 r ∧ 0 ≤ r ∧ r + (xs.length + ((xs.take k).map totGroup).sum : Nat) = left) (fun _ i _ => xs.length - (intOf i).toNat)
    case atStart => exact ⟨0, Nat.zero_le _, rfl, Below.refl _ _, _, rfl, by omega, by simp⟩
    case round =>
      obtain ⟨k, hk, rfl, hb, r, rfl, hr0, hr⟩ := hrel
      have HR := Lib.hid hr
      clear hr
      have hr1 : r ≤ 1048576 := by have := HR.out; omega
      by_cases hlt : k < xs.length
      · obtain ⟨b, off, rfl, _, hok, hc, _⟩ := (hx.below' hb).at_ hlt
        have hc0 : wr.cell? ⟨b, off + k * 7, none⟩ = some (.string xs[k].id) := by have := hc 0 (by decide); exact this
        have hc1 : wr.cell? ⟨b, off + k * 7 + 1, none⟩ = some (.int .i64 xs[k].people) := by have := hc 1 (by decide); exact this
        have hc2 : wr.cell? ⟨b, off + k * 7 + 2, none⟩ = some (.int .i64 xs[k].guides) := by have := hc 2 (by decide); exact this
        have hc3 : wr.cell? ⟨b, off + k * 7 + 3, none⟩ = some (.int .i64 xs[k].beacons) := by have := hc 3 (by decide); exact this
        have hc4 : wr.cell? ⟨b, off + k * 7 + 4, none⟩ = some (.int .i64 xs[k].shovels) := by have := hc 4 (by decide); exact this
        have hc5 : wr.cell? ⟨b, off + k * 7 + 5, none⟩ = some (.int .i64 xs[k].probes) := by have := hc 5 (by decide); exact this
        have hc6 : wr.cell? ⟨b, off + k * 7 + 6, none⟩ = some (.int .i64 xs[k].skill) := by have := hc 6 (by decide); exact this
        clear hc
        go_wp2_with fail
        refine (szGroup_any xs[k] r _ hok hr0 hr1).mono ?_
        rintro e w2 ⟨r2, rfl, hr2, hb2⟩
        have HR2 := Lib.hid hr2
        clear hr2
        by_cases hneg : r2 < 0
        · go_wp2
          go_ret
          exact .no (hb.trans (hb2.mono hb.size))
        · go_wp2
          go_roundw
          case rel => exact ⟨k + 1, by omega, by go_num, hb.trans (hb2.mono hb.size), _, rfl, by omega, by have := HR.out; have hst := sum_take_step_ totGroup xs k hlt; rcases HR2.out with h | ⟨_, h⟩ <;> omega⟩
          case measure => simp [intOf]; omega
      · go_wp2
        go_ret
        exact .yes hr0 (by have := HR.out; rw [List.take_of_length_le (by omega)] at this; exact this) hb

set_option maxRecDepth 100000 in
set_option maxHeartbeats 1000000 in
theorem toGroup_any (x : DGroup) (w : World) :
    Calls Try.prog 29 #[.agg #[.string x.id, .int .i64 x.people, .int .i64 x.guides, .int .i64 x.beacons, .int .i64 x.shovels, .int .i64 x.probes, .int .i64 x.skill]] w fun e w' => e = .returned (.agg #[.string x.id, .int .i64 x.people, .int .i64 x.guides, .int .i64 x.beacons, .int .i64 x.shovels, .int .i64 x.probes, .int .i64 x.skill]) ∧ Below w.heap.size w w' := by
  go_enter Try.func29, Try.ntmps29
  go_wp2
  exact bodyPost_ret (v := .agg #[.string x.id, .int .i64 x.people, .int .i64 x.guides, .int .i64 x.beacons, .int .i64 x.shovels, .int .i64 x.probes, .int .i64 x.skill]) (by simp [results, Try.results29, go_sem]) rfl ⟨rfl, (by repeat (first | exact Below.refl _ _ | assumption | refine Below.alloc ?_ (by first | omega | (simp <;> omega)) _ | refine Below.setCell ?_ (by first | (show _ ≤ _; omega) | (simp <;> omega)) _ | refine Below.drew ?_ | refine below_drewN ?_ _))⟩
set_option maxRecDepth 100000 in
set_option maxHeartbeats 1000000 in
theorem eqGroup_any (x : DGroup) (w : World) :
    Calls Try.prog 35 #[.agg #[.string x.id, .int .i64 x.people, .int .i64 x.guides, .int .i64 x.beacons, .int .i64 x.shovels, .int .i64 x.probes, .int .i64 x.skill], .agg #[.string x.id, .int .i64 x.people, .int .i64 x.guides, .int .i64 x.beacons, .int .i64 x.shovels, .int .i64 x.probes, .int .i64 x.skill]] w fun e w' => e = .returned (.bool true) ∧ Below w.heap.size w w' := by
  go_enter Try.func35, Try.ntmps35
  go_wp2
  go_ret
  exact ⟨rfl, (by repeat (first | exact Below.refl _ _ | assumption | refine Below.alloc ?_ (by first | omega | (simp <;> omega)) _ | refine Below.setCell ?_ (by first | (show _ ≤ _; omega) | (simp <;> omega)) _ | refine Below.drew ?_ | refine below_drewN ?_ _))⟩

theorem infoGroup : (Try.prog.info? 43).map (fun i => (i.zero, i.size, i.bytes)) = some (some (.agg #[.string ⟨#[]⟩, .int .i64 0, .int .i64 0, .int .i64 0, .int .i64 0, .int .i64 0, .int .i64 0]), 7, 64) := by kernel_rfl
set_option maxRecDepth 100000 in
set_option maxHeartbeats 1000000 in
theorem toGroupS_any (v : Value) (xs : List DGroup) (fp : List Nat) (w : World) (hx : Sl fGroup.cod w v xs fp) (h1 : xs.length ≤ 1048576) :
    Calls Try.prog 7 #[v] w fun e w' => NewR fGroup.cod w xs e w' := by
  obtain ⟨A, cap, rfl, hlen, hcap⟩ := hx.form
  obtain ⟨i0, hi, hz0, hz1, hz2⟩ := info_parts infoGroup
  have hmk := fun W => run_make_rowN (P := Try.prog) 27 43 i0 _ Try.underlying27 hi hz0 .i64 .i64 xs.length xs.length (Nat.le_refl _) (by rw [hz2]; omega) (by omega) W
  rw [hz1] at hmk
  go_enter Try.func7, Try.ntmps7
  go_wp2
  go_loopw [4] (fun i wr => ∃ k : Nat, k ≤ xs.length ∧ i = .int .i64 k ∧ Fill wr w.heap.size w.heap.size 43 7 xs.length ((xs.take k).flatMap fGroup.enc) ∧ Below w.heap.size w wr) (fun i _ => xs.length - (intOf i).toNat)
  case atStart => exact ⟨0, Nat.zero_le _, rfl, Fill.start w _ _ _ _ (by omega), (Below.refl _ _).alloc (Nat.le_refl _) _⟩
  case round =>
    obtain ⟨k, hk, rfl, hf, hb⟩ := hrel
    by_cases hlt : k < xs.length
    · obtain ⟨b, off, rfl, _, hok, hc, _⟩ := (hx.below' hb).at_ hlt
      have hc0 : wr.cell? ⟨b, off + k * 7, none⟩ = some (.string xs[k].id) := by have := hc 0 (by decide); exact this
      have hc1 : wr.cell? ⟨b, off + k * 7 + 1, none⟩ = some (.int .i64 xs[k].people) := by have := hc 1 (by decide); exact this
      have hc2 : wr.cell? ⟨b, off + k * 7 + 2, none⟩ = some (.int .i64 xs[k].guides) := by have := hc 2 (by decide); exact this
      have hc3 : wr.cell? ⟨b, off + k * 7 + 3, none⟩ = some (.int .i64 xs[k].beacons) := by have := hc 3 (by decide); exact this
      have hc4 : wr.cell? ⟨b, off + k * 7 + 4, none⟩ = some (.int .i64 xs[k].shovels) := by have := hc 4 (by decide); exact this
      have hc5 : wr.cell? ⟨b, off + k * 7 + 5, none⟩ = some (.int .i64 xs[k].probes) := by have := hc 5 (by decide); exact this
      have hc6 : wr.cell? ⟨b, off + k * 7 + 6, none⟩ = some (.int .i64 xs[k].skill) := by have := hc 6 (by decide); exact this
      clear hc
      go_wp2_with fail
      refine (toGroup_any xs[k] _).mono ?_
      rintro e w2 ⟨rfl, hb2⟩
      have hgl := hf.lt
      have hf2 := hf.below hb2 hgl
      clear hf hc0 hc1 hc2 hc3 hc4 hc5 hc6
      obtain ⟨u0, hu0⟩ := hf2.cell (j := k * 7) (by omega)
      have hz0 := hf2.frozen (k * 7)
      obtain ⟨u1, hu1⟩ := hf2.cell (j := k * 7 + 1) (by omega)
      have hz1 := hf2.frozen (k * 7 + 1)
      obtain ⟨u2, hu2⟩ := hf2.cell (j := k * 7 + 2) (by omega)
      have hz2 := hf2.frozen (k * 7 + 2)
      obtain ⟨u3, hu3⟩ := hf2.cell (j := k * 7 + 3) (by omega)
      have hz3 := hf2.frozen (k * 7 + 3)
      obtain ⟨u4, hu4⟩ := hf2.cell (j := k * 7 + 4) (by omega)
      have hz4 := hf2.frozen (k * 7 + 4)
      obtain ⟨u5, hu5⟩ := hf2.cell (j := k * 7 + 5) (by omega)
      have hz5 := hf2.frozen (k * 7 + 5)
      obtain ⟨u6, hu6⟩ := hf2.cell (j := k * 7 + 6) (by omega)
      have hz6 := hf2.frozen (k * 7 + 6)
      go_wp2
      have HL : ((xs.take k).flatMap fGroup.enc).length = k * 7 := flat_take_len (E := fGroup) hk
      have hq0 := hf2.put_at (p := k * 7) (by simp [HL]) (by omega) (.string xs[k].id)
      have hq1 := hq0.put_at (p := k * 7 + 1) (by simp [HL]) (by omega) (.int .i64 xs[k].people)
      have hq2 := hq1.put_at (p := k * 7 + 2) (by simp [HL]) (by omega) (.int .i64 xs[k].guides)
      have hq3 := hq2.put_at (p := k * 7 + 3) (by simp [HL]) (by omega) (.int .i64 xs[k].beacons)
      have hq4 := hq3.put_at (p := k * 7 + 4) (by simp [HL]) (by omega) (.int .i64 xs[k].shovels)
      have hq5 := hq4.put_at (p := k * 7 + 5) (by simp [HL]) (by omega) (.int .i64 xs[k].probes)
      have hq6 := hq5.put_at (p := k * 7 + 6) (by simp [HL]) (by omega) (.int .i64 xs[k].skill)
      go_roundw
      case rel => exact ⟨k + 1, by omega, by go_num, by rw [flat_take_step hlt]; simpa [fGroup, List.append_assoc] using hq6, ((((((((hb.trans (hb2.mono hb.size)).setCell (Nat.le_refl _) _).setCell (Nat.le_refl _) _).setCell (Nat.le_refl _) _).setCell (Nat.le_refl _) _).setCell (Nat.le_refl _) _).setCell (Nat.le_refl _) _).setCell (Nat.le_refl _) _)⟩
      case measure => simp [intOf]; omega
    · have hk' : k = xs.length := by omega
      subst hk'
      rw [List.take_length] at hf
      go_wp2
      go_ret
      exact ⟨_, rfl, Sl.of_own rfl (hf.done (flat_len _ 7 _ (fun _ _ => rfl))) hx.oks, hb⟩

set_option maxRecDepth 100000 in
set_option maxHeartbeats 1000000 in
theorem eqGroupS_any (v v' : Value) (xs : List DGroup) (fp fp' : List Nat) (w : World) (hx : Sl fGroup.cod w v xs fp) (hy : Sl fGroup.cod w v' xs fp') :
    Calls Try.prog 10 #[v, v'] w fun e w' => YesR w e w' := by
  obtain ⟨A, cap, rfl, hlen, hcap⟩ := hx.form
  obtain ⟨A', cap', rfl, hlen', hcap'⟩ := hy.form
  go_enter Try.func10, Try.ntmps10
  go_wp2
  go_loopw [5] (fun i wr => ∃ k : Nat, k ≤ xs.length ∧ i = .int .i64 k ∧ Below w.heap.size w wr) (fun i _ => xs.length - (intOf i).toNat)
  case atStart => exact ⟨0, Nat.zero_le _, rfl, Below.refl _ _⟩
  case round =>
    obtain ⟨k, hk, rfl, hb⟩ := hrel
    by_cases hlt : k < xs.length
    · obtain ⟨b, off, rfl, _, hok, hc, _⟩ := (hx.below' hb).at_ hlt
      obtain ⟨b', off', rfl, _, hok', hd, _⟩ := (hy.below' hb).at_ hlt
      have hc0 : wr.cell? ⟨b, off + k * 7, none⟩ = some (.string xs[k].id) := by have := hc 0 (by decide); exact this
      have hc1 : wr.cell? ⟨b, off + k * 7 + 1, none⟩ = some (.int .i64 xs[k].people) := by have := hc 1 (by decide); exact this
      have hc2 : wr.cell? ⟨b, off + k * 7 + 2, none⟩ = some (.int .i64 xs[k].guides) := by have := hc 2 (by decide); exact this
      have hc3 : wr.cell? ⟨b, off + k * 7 + 3, none⟩ = some (.int .i64 xs[k].beacons) := by have := hc 3 (by decide); exact this
      have hc4 : wr.cell? ⟨b, off + k * 7 + 4, none⟩ = some (.int .i64 xs[k].shovels) := by have := hc 4 (by decide); exact this
      have hc5 : wr.cell? ⟨b, off + k * 7 + 5, none⟩ = some (.int .i64 xs[k].probes) := by have := hc 5 (by decide); exact this
      have hc6 : wr.cell? ⟨b, off + k * 7 + 6, none⟩ = some (.int .i64 xs[k].skill) := by have := hc 6 (by decide); exact this
      have hd0 : wr.cell? ⟨b', off' + k * 7, none⟩ = some (.string xs[k].id) := by have := hd 0 (by decide); exact this
      have hd1 : wr.cell? ⟨b', off' + k * 7 + 1, none⟩ = some (.int .i64 xs[k].people) := by have := hd 1 (by decide); exact this
      have hd2 : wr.cell? ⟨b', off' + k * 7 + 2, none⟩ = some (.int .i64 xs[k].guides) := by have := hd 2 (by decide); exact this
      have hd3 : wr.cell? ⟨b', off' + k * 7 + 3, none⟩ = some (.int .i64 xs[k].beacons) := by have := hd 3 (by decide); exact this
      have hd4 : wr.cell? ⟨b', off' + k * 7 + 4, none⟩ = some (.int .i64 xs[k].shovels) := by have := hd 4 (by decide); exact this
      have hd5 : wr.cell? ⟨b', off' + k * 7 + 5, none⟩ = some (.int .i64 xs[k].probes) := by have := hd 5 (by decide); exact this
      have hd6 : wr.cell? ⟨b', off' + k * 7 + 6, none⟩ = some (.int .i64 xs[k].skill) := by have := hd 6 (by decide); exact this
      have gc0 := cell_regrown hc0
      have gc1 := cell_regrown hc1
      have gc2 := cell_regrown hc2
      have gc3 := cell_regrown hc3
      have gc4 := cell_regrown hc4
      have gc5 := cell_regrown hc5
      have gc6 := cell_regrown hc6
      have gd0 := cell_regrown hd0
      have gd1 := cell_regrown hd1
      have gd2 := cell_regrown hd2
      have gd3 := cell_regrown hd3
      have gd4 := cell_regrown hd4
      have gd5 := cell_regrown hd5
      have gd6 := cell_regrown hd6
      clear hc hd hc0 hd0 hc1 hd1 hc2 hd2 hc3 hd3 hc4 hd4 hc5 hd5 hc6 hd6
      have cq : ∀ d os, Calls Try.prog 35 #[.agg #[.string xs[k].id, .int .i64 xs[k].people, .int .i64 xs[k].guides, .int .i64 xs[k].beacons, .int .i64 xs[k].shovels, .int .i64 xs[k].probes, .int .i64 xs[k].skill], .agg #[.string xs[k].id, .int .i64 xs[k].people, .int .i64 xs[k].guides, .int .i64 xs[k].beacons, .int .i64 xs[k].shovels, .int .i64 xs[k].probes, .int .i64 xs[k].skill]] (Go.Sort.grow (redrawn wr d) os) fun e w'' => e = .returned (.bool true) ∧ ∃ p : Regrown, w'' = Go.Sort.grow (redrawn wr p.d) p.os := fun d os => Calls.regrown_of (eqGroup_any xs[k] _)
      go_wp2
      refine wp_region_quiet_below (by kernel_rfl) (by kernel_rfl) ?_
      repeat (quiet_step (exact cq _ _))
      refine wpQuiet_nil ?_
      intro _ hw'
      obtain ⟨⟨dq, osq⟩, hw''⟩ := hw'
      subst hw''
      have hbq := below_regrown wr dq osq
      clear gc0 gd0 cq
      generalize Go.Sort.grow (redrawn wr dq) osq = wq at *
      go_wp2
      go_roundw
      case rel => exact ⟨k + 1, by omega, by go_num, hb.trans (hbq.mono hb.size)⟩
      case measure => simp [intOf]; omega
    · go_wp2
      go_ret
      exact ⟨rfl, hb⟩

def mkGroup (k : Int) : DGroup := ⟨mt (k), k + 1, k + 1 + 1, k + 1 + 1 + 1, k + 1 + 1 + 1 + 1, k + 1 + 1 + 1 + 1 + 1, k + 1 + 1 + 1 + 1 + 1 + 1⟩
def marksGroup (k : Int) (n : Nat) : List DGroup := (List.range n).map fun (i : Nat) => mkGroup (k + 7 * (i : Int))

theorem marksGroup_get (k0 : Int) (n i : Nat) (h : i < (marksGroup k0 n).length) : (marksGroup k0 n)[i] = mkGroup (k0 + 7 * (i : Int)) := by
  simp [marksGroup]
theorem marksGroup_len (k0 : Int) (n : Nat) : (marksGroup k0 n).length = n := by simp [marksGroup]

set_option maxRecDepth 100000 in
set_option maxHeartbeats 2000000 in
theorem markGroupS_any (v : Value) (xs : List DGroup) (fp : List Nat) (k0 : Int) (w : World) (hx : Sl fGroup.cod w v xs fp) (h0 : 0 ≤ k0) (h1 : k0 + 7 * (xs.length : Int) ≤ 1000000000000) :
    Calls Try.prog 11 #[v, .int .i64 k0] w fun e w' => MarkR fGroup.cod fp w (k0 + 7 * (xs.length : Int)) v (marksGroup k0 xs.length) e w' := by
  obtain ⟨A, cap, rfl, hlen, hcap⟩ := hx.form
  by_cases hne : xs.length = 0
  · have : xs = [] := List.eq_nil_of_length_eq_zero hne
    subst this
    go_enter Try.func11, Try.ntmps11
    go_wp2
    go_loop [1, 5] (fun n i => i = .int .i64 0 ∧ n = .int .i64 k0) (fun _ _ => 0)
    case atStart => exact ⟨rfl, rfl⟩
    case round =>
      obtain ⟨rfl, rfl⟩ := hrel
      go_wp2
      go_ret
      exact ⟨ret_int (by simp), hx, .refl _ _⟩
  · obtain ⟨b, off, rfl, rfl, hbs, hcs0⟩ := hx.cells (by omega)
    go_enter Try.func11, Try.ntmps11
    go_wp2
    go_loopw [1, 5] (fun n i wr => ∃ k : Nat, k ≤ xs.length ∧ i = .int .i64 k ∧ ∃ q : Int, n = .int .i64 q ∧ 0 ≤ q ∧ Hid (q = k0 + 7 * (k : Int)) ∧ Cells wr b off (((List.range k).map fun (i : Nat) => mkGroup (k0 + 7 * (i : Int))).flatMap fGroup.enc ++ (xs.drop k).flatMap fGroup.enc) ∧ Only [b] w wr) (fun _ i _ => xs.length - (intOf i).toNat)
    case atStart => exact ⟨0, Nat.zero_le _, rfl, k0, rfl, h0, by show _ = _; simp, by simpa using hcs0, .refl _ _⟩
    case round =>
      obtain ⟨k, hk, rfl, q, rfl, hq0, HQ, hcs, ho⟩ := hrel
      by_cases hlt : k < xs.length
      · have hq1 : q + 7 ≤ 1000000000000 := by have := HQ.out; omega
        have HC : Cells wr b off (((List.range k).map fun (i : Nat) => mkGroup (k0 + 7 * (i : Int))).flatMap fGroup.enc ++ ((.string xs[k].id : Value) :: (.int .i64 xs[k].people : Value) :: (.int .i64 xs[k].guides : Value) :: (.int .i64 xs[k].beacons : Value) :: (.int .i64 xs[k].shovels : Value) :: (.int .i64 xs[k].probes : Value) :: (.int .i64 xs[k].skill : Value) :: (xs.drop (k + 1)).flatMap fGroup.enc)) := by
          have := hcs
          rw [List.drop_eq_getElem_cons hlt, List.flatMap_cons] at this
          exact this
        generalize HP : ((List.range k).map fun (i : Nat) => mkGroup (k0 + 7 * (i : Int))).flatMap fGroup.enc = pre at *
        have HL : pre.length = k * 7 := by rw [← HP, flat_len fGroup.enc 7 _ (fun _ _ => rfl)]; simp
        generalize HR : (xs.drop (k + 1)).flatMap fGroup.enc = post at *
        have HPH := Lib.hid HP
        clear HP hcs
        have HRH := Lib.hid HR
        clear HR
        have HLH := Lib.hid HL
        clear HL
        go_wp2_with fail
        refine (markText_any _ _ (by omega)).mono ?_
        rintro e w0 ⟨rfl, hbm⟩
        have HD0 := HC.keep (hbm.block b (by have := ho.size; simp at this ⊢; omega))
        have hoo := ho.trans (.of_below hbm)
        clear ho hbm HC
        have ho := hoo
        clear hoo
        have hu0 := HD0.at_mid (m := k * 7) (j := 0) (p := off + k * 7) HLH.out (by omega) (by simp) rfl
        have hz0 := HD0.free_mid (m := k * 7) (j := 0) (p := off + k * 7) HLH.out (by omega) (by simp)
        have hu1 := HD0.at_mid (m := k * 7) (j := 1) (p := off + k * 7 + 1) HLH.out (by omega) (by simp) rfl
        have hz1 := HD0.free_mid (m := k * 7) (j := 1) (p := off + k * 7 + 1) HLH.out (by omega) (by simp)
        have hu2 := HD0.at_mid (m := k * 7) (j := 2) (p := off + k * 7 + 2) HLH.out (by omega) (by simp) rfl
        have hz2 := HD0.free_mid (m := k * 7) (j := 2) (p := off + k * 7 + 2) HLH.out (by omega) (by simp)
        have hu3 := HD0.at_mid (m := k * 7) (j := 3) (p := off + k * 7 + 3) HLH.out (by omega) (by simp) rfl
        have hz3 := HD0.free_mid (m := k * 7) (j := 3) (p := off + k * 7 + 3) HLH.out (by omega) (by simp)
        have hu4 := HD0.at_mid (m := k * 7) (j := 4) (p := off + k * 7 + 4) HLH.out (by omega) (by simp) rfl
        have hz4 := HD0.free_mid (m := k * 7) (j := 4) (p := off + k * 7 + 4) HLH.out (by omega) (by simp)
        have hu5 := HD0.at_mid (m := k * 7) (j := 5) (p := off + k * 7 + 5) HLH.out (by omega) (by simp) rfl
        have hz5 := HD0.free_mid (m := k * 7) (j := 5) (p := off + k * 7 + 5) HLH.out (by omega) (by simp)
        have hu6 := HD0.at_mid (m := k * 7) (j := 6) (p := off + k * 7 + 6) HLH.out (by omega) (by simp) rfl
        have hz6 := HD0.free_mid (m := k * 7) (j := 6) (p := off + k * 7 + 6) HLH.out (by omega) (by simp)
        go_wp2
        have HC0 := HD0.put (m := k * 7) (j := 0) (p := off + k * 7) HLH.out (by omega) (by simp) (.string (mt (q)))
        have ho_ := ho.set (off + k * 7) (.string (mt (q)))
        clear hu0 hz0 ho
        have ho := ho_
        clear ho_
        clear HD0
        have HC1 := HC0.put (m := k * 7) (j := 1) (p := off + k * 7 + 1) HLH.out (by omega) (by simp) (.int .i64 (q + 1))
        have ho_ := ho.set (off + k * 7 + 1) (.int .i64 (q + 1))
        clear hu1 hz1 ho
        have ho := ho_
        clear ho_
        clear HC0
        have HC2 := HC1.put (m := k * 7) (j := 2) (p := off + k * 7 + 2) HLH.out (by omega) (by simp) (.int .i64 (q + 1 + 1))
        have ho_ := ho.set (off + k * 7 + 2) (.int .i64 (q + 1 + 1))
        clear hu2 hz2 ho
        have ho := ho_
        clear ho_
        clear HC1
        have HC3 := HC2.put (m := k * 7) (j := 3) (p := off + k * 7 + 3) HLH.out (by omega) (by simp) (.int .i64 (q + 1 + 1 + 1))
        have ho_ := ho.set (off + k * 7 + 3) (.int .i64 (q + 1 + 1 + 1))
        clear hu3 hz3 ho
        have ho := ho_
        clear ho_
        clear HC2
        have HC4 := HC3.put (m := k * 7) (j := 4) (p := off + k * 7 + 4) HLH.out (by omega) (by simp) (.int .i64 (q + 1 + 1 + 1 + 1))
        have ho_ := ho.set (off + k * 7 + 4) (.int .i64 (q + 1 + 1 + 1 + 1))
        clear hu4 hz4 ho
        have ho := ho_
        clear ho_
        clear HC3
        have HC5 := HC4.put (m := k * 7) (j := 5) (p := off + k * 7 + 5) HLH.out (by omega) (by simp) (.int .i64 (q + 1 + 1 + 1 + 1 + 1))
        have ho_ := ho.set (off + k * 7 + 5) (.int .i64 (q + 1 + 1 + 1 + 1 + 1))
        clear hu5 hz5 ho
        have ho := ho_
        clear ho_
        clear HC4
        have HC6 := HC5.put (m := k * 7) (j := 6) (p := off + k * 7 + 6) HLH.out (by omega) (by simp) (.int .i64 (q + 1 + 1 + 1 + 1 + 1 + 1))
        have ho_ := ho.set (off + k * 7 + 6) (.int .i64 (q + 1 + 1 + 1 + 1 + 1 + 1))
        clear hu6 hz6 ho
        have ho := ho_
        clear ho_
        clear HC5
        go_roundw
        case rel => exact ⟨k + 1, by omega, by go_num, q + 7, by go_num, by omega, by have := HQ.out; show _ = _; omega, marks_step (f := fun (i : Nat) => mkGroup (k0 + 7 * (i : Int))) HPH.out HRH.out (by rw [← HQ.out] <;> rfl) HC6, ho⟩
        case measure => simp [intOf]; omega
      · have hk' : k = xs.length := by omega
        subst hk'
        rw [List.drop_length, List.flatMap_nil, List.append_nil] at hcs
        go_wp2
        go_ret
        have hsz := ho.size
        have hm := Sl.of_cells (E := fGroup) (cap := cap) (xs := marksGroup k0 xs.length) (by rw [marksGroup_len]; exact hlen) hcap (by omega) hcs (by intro x hx; simp [marksGroup] at hx; obtain ⟨i, hi, rfl⟩ := hx; exact ⟨mt_ok _ (by omega), (by simp only [fInt, mkGroup]; omega), (by simp only [fInt, mkGroup]; omega), (by simp only [fInt, mkGroup]; omega), (by simp only [fInt, mkGroup]; omega), (by simp only [fInt, mkGroup]; omega), (by simp only [fInt, mkGroup]; omega)⟩) (by rw [marksGroup_len]; omega)
        rw [marksGroup_len] at hm
        exact ⟨ret_int HQ.out, hm, ho⟩


end Go.Proofs.Ytjfaafoldllppaa
