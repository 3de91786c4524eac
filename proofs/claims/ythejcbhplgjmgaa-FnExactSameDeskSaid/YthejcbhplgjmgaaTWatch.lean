/- Watch: the data, its cells; the given helpers over it. Written by wip/gentype.py. -/
import Derived.Test.YthejcbhplgjmgaaMark
namespace Go.Proofs.Ythejcbhplgjmgaa
open Go.RowKit
set_option linter.unusedVariables false

structure DWatch where
  person : ByteArray
  start : Int
  hours : Int
  onCall : Bool
  deriving DecidableEq

def fWatch : Flat DWatch where
  n := 4
  enc := fun x => [.string x.person, .int .i64 x.start, .int .i64 x.hours, .bool x.onCall]
  ok := fun x => fStr.ok x.person ∧ fInt.ok x.start ∧ fInt.ok x.hours ∧ fBool.ok x.onCall
  pos := by omega
  len := fun _ => rfl
  one := by intro x v hv; simp at hv; rcases hv with rfl | rfl | rfl | rfl <;> rfl

def totWatch (x : DWatch) : Nat := x.person.size
def totWatchS (xs : List DWatch) : Nat := xs.length + (xs.map totWatch).sum

set_option maxRecDepth 100000 in
set_option maxHeartbeats 1000000 in
theorem szWatch_any (x : DWatch) (left : Int) (w : World) (hx : fWatch.ok x) (h0 : 0 ≤ left) (h1 : left ≤ 1048576) :
    Calls Try.prog 140 #[.agg #[.string x.person, .int .i64 x.start, .int .i64 x.hours, .bool x.onCall], .int .i64 left] w fun e w' => SzR left (totWatch x) w e w' := by
  have hsz0 : x.person.size ≤ 9223372036854775807 := hx.1
  by_cases c0 : left - x.person.size < 0
  · go_enter Try.func140, Try.ntmps140
    go_wp2
    go_ret
    exact .no (by repeat (first | exact Below.refl _ _ | assumption | refine Below.alloc ?_ (by first | omega | (simp <;> omega)) _ | refine Below.setCell ?_ (by first | (show _ ≤ _; omega) | (simp <;> omega)) _ | refine Below.drew ?_ | refine below_drewN ?_ _))
  · skip
    go_enter Try.func140, Try.ntmps140
    go_wp2
    go_ret
    exact .yes (by omega) (by unfold totWatch; omega) (by repeat (first | exact Below.refl _ _ | assumption | refine Below.alloc ?_ (by first | omega | (simp <;> omega)) _ | refine Below.setCell ?_ (by first | (show _ ≤ _; omega) | (simp <;> omega)) _ | refine Below.drew ?_ | refine below_drewN ?_ _))

set_option maxRecDepth 100000 in
set_option maxHeartbeats 1000000 in
theorem szWatchS_any (v : Value) (xs : List DWatch) (fp : List Nat) (left : Int) (w : World) (hx : Sl fWatch.cod w v xs fp) (h0 : 0 ≤ left) (h1 : left ≤ 1048576) :
    Calls Try.prog 57 #[v, .int .i64 left] w fun e w' => SzR left (totWatchS xs) w e w' := by
  obtain ⟨A, cap, rfl, hlen, hcap⟩ := hx.form
  by_cases hl : left - (xs.length : Int) < 0
  · go_enter Try.func57, Try.ntmps57
    go_wp2
    go_ret
    exact .no (Below.refl _ _)
  · go_enter Try.func57, Try.ntmps57
    go_wp2
    go_loopw [1, 5] (fun l i wr => ∃ k : Nat, k ≤ xs.length ∧ i = .int .i64 k ∧ Below w.heap.size w wr ∧ ∃ r : Int, l = .int .i64 r ∧ 0 ≤ r ∧ r + (xs.length + ((xs.take k).map totWatch).sum : Nat) = left) (fun _ i _ => xs.length - (intOf i).toNat)
    case atStart => exact ⟨0, Nat.zero_le _, rfl, Below.refl _ _, _, rfl, by omega, by simp⟩
    case round =>
      obtain ⟨k, hk, rfl, hb, r, rfl, hr0, hr⟩ := hrel
      have HR := Lib.hid hr
      clear hr
      have hr1 : r ≤ 1048576 := by have := HR.out; omega
      by_cases hlt : k < xs.length
      · obtain ⟨b, off, rfl, _, hok, hc, _⟩ := (hx.below' hb).at_ hlt
        have hc0 : wr.cell? ⟨b, off + k * 4, none⟩ = some (.string xs[k].person) := by have := hc 0 (by decide); exact this
        have hc1 : wr.cell? ⟨b, off + k * 4 + 1, none⟩ = some (.int .i64 xs[k].start) := by have := hc 1 (by decide); exact this
        have hc2 : wr.cell? ⟨b, off + k * 4 + 2, none⟩ = some (.int .i64 xs[k].hours) := by have := hc 2 (by decide); exact this
        have hc3 : wr.cell? ⟨b, off + k * 4 + 3, none⟩ = some (.bool xs[k].onCall) := by have := hc 3 (by decide); exact this
        clear hc
        go_wp2_with fail
        refine (szWatch_any xs[k] r _ hok hr0 hr1).mono ?_
        rintro e w2 ⟨r2, rfl, hr2, hb2⟩
        have HR2 := Lib.hid hr2
        clear hr2
        by_cases hneg : r2 < 0
        · go_wp2
          go_ret
          exact .no (hb.trans (hb2.mono hb.size))
        · go_wp2
          go_roundw
          case rel => exact ⟨k + 1, by omega, by go_num, hb.trans (hb2.mono hb.size), _, rfl, by omega, by have := HR.out; have hst := sum_take_step_ totWatch xs k hlt; rcases HR2.out with h | ⟨_, h⟩ <;> omega⟩
          case measure => simp [intOf]; omega
      · go_wp2
        go_ret
        exact .yes hr0 (by have := HR.out; rw [List.take_of_length_le (by omega)] at this; exact this) hb

set_option maxRecDepth 100000 in
set_option maxHeartbeats 1000000 in
theorem toWatch_any (x : DWatch) (w : World) :
    Calls Try.prog 150 #[.agg #[.string x.person, .int .i64 x.start, .int .i64 x.hours, .bool x.onCall]] w fun e w' => e = .returned (.agg #[.string x.person, .int .i64 x.start, .int .i64 x.hours, .bool x.onCall]) ∧ Below w.heap.size w w' := by
  go_enter Try.func150, Try.ntmps150
  go_wp2
  exact bodyPost_ret (v := .agg #[.string x.person, .int .i64 x.start, .int .i64 x.hours, .bool x.onCall]) (by simp [results, Try.results150, go_sem]) rfl ⟨rfl, (by repeat (first | exact Below.refl _ _ | assumption | refine Below.alloc ?_ (by first | omega | (simp <;> omega)) _ | refine Below.setCell ?_ (by first | (show _ ≤ _; omega) | (simp <;> omega)) _ | refine Below.drew ?_ | refine below_drewN ?_ _))⟩
set_option maxRecDepth 100000 in
set_option maxHeartbeats 1000000 in
theorem eqWatch_any (x : DWatch) (w : World) :
    Calls Try.prog 162 #[.agg #[.string x.person, .int .i64 x.start, .int .i64 x.hours, .bool x.onCall], .agg #[.string x.person, .int .i64 x.start, .int .i64 x.hours, .bool x.onCall]] w fun e w' => e = .returned (.bool true) ∧ Below w.heap.size w w' := by
  go_enter Try.func162, Try.ntmps162
  go_wp2
  go_ret
  exact ⟨rfl, (by repeat (first | exact Below.refl _ _ | assumption | refine Below.alloc ?_ (by first | omega | (simp <;> omega)) _ | refine Below.setCell ?_ (by first | (show _ ≤ _; omega) | (simp <;> omega)) _ | refine Below.drew ?_ | refine below_drewN ?_ _))⟩

theorem infoWatch : (Try.prog.info? 129).map (fun i => (i.zero, i.size, i.bytes)) = some (some (.agg #[.string ⟨#[]⟩, .int .i64 0, .int .i64 0, .bool false]), 4, 40) := by kernel_rfl
set_option maxRecDepth 100000 in
set_option maxHeartbeats 1000000 in
theorem toWatchS_any (v : Value) (xs : List DWatch) (fp : List Nat) (w : World) (hx : Sl fWatch.cod w v xs fp) (h1 : xs.length ≤ 1048576) :
    Calls Try.prog 71 #[v] w fun e w' => NewR fWatch.cod w xs e w' := by
  obtain ⟨A, cap, rfl, hlen, hcap⟩ := hx.form
  obtain ⟨i0, hi, hz0, hz1, hz2⟩ := info_parts infoWatch
  have hmk := fun W => run_make_rowN (P := Try.prog) 48 129 i0 _ Try.underlying48 hi hz0 .i64 .i64 xs.length xs.length (Nat.le_refl _) (by rw [hz2]; omega) (by omega) W
  rw [hz1] at hmk
  go_enter Try.func71, Try.ntmps71
  go_wp2
  go_loopw [4] (fun i wr => ∃ k : Nat, k ≤ xs.length ∧ i = .int .i64 k ∧ Fill wr w.heap.size w.heap.size 129 4 xs.length ((xs.take k).flatMap fWatch.enc) ∧ Below w.heap.size w wr) (fun i _ => xs.length - (intOf i).toNat)
  case atStart => exact ⟨0, Nat.zero_le _, rfl, Fill.start w _ _ _ _ (by omega), (Below.refl _ _).alloc (Nat.le_refl _) _⟩
  case round =>
    obtain ⟨k, hk, rfl, hf, hb⟩ := hrel
    by_cases hlt : k < xs.length
    · obtain ⟨b, off, rfl, _, hok, hc, _⟩ := (hx.below' hb).at_ hlt
      have hc0 : wr.cell? ⟨b, off + k * 4, none⟩ = some (.string xs[k].person) := by have := hc 0 (by decide); exact this
      have hc1 : wr.cell? ⟨b, off + k * 4 + 1, none⟩ = some (.int .i64 xs[k].start) := by have := hc 1 (by decide); exact this
      have hc2 : wr.cell? ⟨b, off + k * 4 + 2, none⟩ = some (.int .i64 xs[k].hours) := by have := hc 2 (by decide); exact this
      have hc3 : wr.cell? ⟨b, off + k * 4 + 3, none⟩ = some (.bool xs[k].onCall) := by have := hc 3 (by decide); exact this
      clear hc
      go_wp2_with fail
      refine (toWatch_any xs[k] _).mono ?_
      rintro e w2 ⟨rfl, hb2⟩
      have hgl := hf.lt
      have hf2 := hf.below hb2 hgl
      clear hf hc0 hc1 hc2 hc3
      obtain ⟨u0, hu0⟩ := hf2.cell (j := k * 4) (by omega)
      have hz0 := hf2.frozen (k * 4)
      obtain ⟨u1, hu1⟩ := hf2.cell (j := k * 4 + 1) (by omega)
      have hz1 := hf2.frozen (k * 4 + 1)
      obtain ⟨u2, hu2⟩ := hf2.cell (j := k * 4 + 2) (by omega)
      have hz2 := hf2.frozen (k * 4 + 2)
      obtain ⟨u3, hu3⟩ := hf2.cell (j := k * 4 + 3) (by omega)
      have hz3 := hf2.frozen (k * 4 + 3)
      go_wp2
      have HL : ((xs.take k).flatMap fWatch.enc).length = k * 4 := flat_take_len (E := fWatch) hk
      have hq0 := hf2.put_at (p := k * 4) (by simp [HL]) (by omega) (.string xs[k].person)
      have hq1 := hq0.put_at (p := k * 4 + 1) (by simp [HL]) (by omega) (.int .i64 xs[k].start)
      have hq2 := hq1.put_at (p := k * 4 + 2) (by simp [HL]) (by omega) (.int .i64 xs[k].hours)
      have hq3 := hq2.put_at (p := k * 4 + 3) (by simp [HL]) (by omega) (.bool xs[k].onCall)
      go_roundw
      case rel => exact ⟨k + 1, by omega, by go_num, by rw [flat_take_step hlt]; simpa [fWatch, List.append_assoc] using hq3, (((((hb.trans (hb2.mono hb.size)).setCell (Nat.le_refl _) _).setCell (Nat.le_refl _) _).setCell (Nat.le_refl _) _).setCell (Nat.le_refl _) _)⟩
      case measure => simp [intOf]; omega
    · have hk' : k = xs.length := by omega
      subst hk'
      rw [List.take_length] at hf
      go_wp2
      go_ret
      exact ⟨_, rfl, Sl.of_own rfl (hf.done (flat_len _ 4 _ (fun _ _ => rfl))) hx.oks, hb⟩

set_option maxRecDepth 100000 in
set_option maxHeartbeats 1000000 in
theorem eqWatchS_any (v v' : Value) (xs : List DWatch) (fp fp' : List Nat) (w : World) (hx : Sl fWatch.cod w v xs fp) (hy : Sl fWatch.cod w v' xs fp') :
    Calls Try.prog 94 #[v, v'] w fun e w' => YesR w e w' := by
  obtain ⟨A, cap, rfl, hlen, hcap⟩ := hx.form
  obtain ⟨A', cap', rfl, hlen', hcap'⟩ := hy.form
  go_enter Try.func94, Try.ntmps94
  go_wp2
  go_loopw [5] (fun i wr => ∃ k : Nat, k ≤ xs.length ∧ i = .int .i64 k ∧ Below w.heap.size w wr) (fun i _ => xs.length - (intOf i).toNat)
  case atStart => exact ⟨0, Nat.zero_le _, rfl, Below.refl _ _⟩
  case round =>
    obtain ⟨k, hk, rfl, hb⟩ := hrel
    by_cases hlt : k < xs.length
    · obtain ⟨b, off, rfl, _, hok, hc, _⟩ := (hx.below' hb).at_ hlt
      obtain ⟨b', off', rfl, _, hok', hd, _⟩ := (hy.below' hb).at_ hlt
      have hc0 : wr.cell? ⟨b, off + k * 4, none⟩ = some (.string xs[k].person) := by have := hc 0 (by decide); exact this
      have hc1 : wr.cell? ⟨b, off + k * 4 + 1, none⟩ = some (.int .i64 xs[k].start) := by have := hc 1 (by decide); exact this
      have hc2 : wr.cell? ⟨b, off + k * 4 + 2, none⟩ = some (.int .i64 xs[k].hours) := by have := hc 2 (by decide); exact this
      have hc3 : wr.cell? ⟨b, off + k * 4 + 3, none⟩ = some (.bool xs[k].onCall) := by have := hc 3 (by decide); exact this
      have hd0 : wr.cell? ⟨b', off' + k * 4, none⟩ = some (.string xs[k].person) := by have := hd 0 (by decide); exact this
      have hd1 : wr.cell? ⟨b', off' + k * 4 + 1, none⟩ = some (.int .i64 xs[k].start) := by have := hd 1 (by decide); exact this
      have hd2 : wr.cell? ⟨b', off' + k * 4 + 2, none⟩ = some (.int .i64 xs[k].hours) := by have := hd 2 (by decide); exact this
      have hd3 : wr.cell? ⟨b', off' + k * 4 + 3, none⟩ = some (.bool xs[k].onCall) := by have := hd 3 (by decide); exact this
      have gc0 := cell_regrown hc0
      have gc1 := cell_regrown hc1
      have gc2 := cell_regrown hc2
      have gc3 := cell_regrown hc3
      have gd0 := cell_regrown hd0
      have gd1 := cell_regrown hd1
      have gd2 := cell_regrown hd2
      have gd3 := cell_regrown hd3
      clear hc hd hc0 hd0 hc1 hd1 hc2 hd2 hc3 hd3
      have cq : ∀ d os, Calls Try.prog 162 #[.agg #[.string xs[k].person, .int .i64 xs[k].start, .int .i64 xs[k].hours, .bool xs[k].onCall], .agg #[.string xs[k].person, .int .i64 xs[k].start, .int .i64 xs[k].hours, .bool xs[k].onCall]] (Go.Sort.grow (redrawn wr d) os) fun e w'' => e = .returned (.bool true) ∧ ∃ p : Regrown, w'' = Go.Sort.grow (redrawn wr p.d) p.os := fun d os => Calls.regrown_of (eqWatch_any xs[k] _)
      go_wp2
      refine wp_region_quiet_below (by kernel_rfl) (by kernel_rfl) ?_
      repeat (quiet_step (exact cq _ _))
      refine wpQuiet_nil ?_
      intro _ hw'
      obtain ⟨⟨dq, osq⟩, hw''⟩ := hw'
      subst hw''
      have hbq := below_regrown wr dq osq
      clear gc0 gd0 cq
      generalize Go.Sort.grow (redrawn wr dq) osq = wq at *
      go_wp2
      go_roundw
      case rel => exact ⟨k + 1, by omega, by go_num, hb.trans (hbq.mono hb.size)⟩
      case measure => simp [intOf]; omega
    · go_wp2
      go_ret
      exact ⟨rfl, hb⟩

def mkWatch (k : Int) : DWatch := ⟨mt (k), k + 1, k + 1 + 1, ((k + 1 + 1 + 1) % 3 == 0)⟩
def marksWatch (k : Int) (n : Nat) : List DWatch := (List.range n).map fun (i : Nat) => mkWatch (k + 4 * (i : Int))

theorem marksWatch_get (k0 : Int) (n i : Nat) (h : i < (marksWatch k0 n).length) : (marksWatch k0 n)[i] = mkWatch (k0 + 4 * (i : Int)) := by
  simp [marksWatch]
theorem marksWatch_len (k0 : Int) (n : Nat) : (marksWatch k0 n).length = n := by simp [marksWatch]



end Go.Proofs.Ythejcbhplgjmgaa
