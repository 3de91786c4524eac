/- Parts of the proof: TIncident, Coll. -/
import Derived.Test.YtldigalncjhkeaaGreatDoorG01
namespace Go.Proofs.YtldigalncjhkeaaGreatDoor
open Go.RowKit
set_option linter.unusedVariables false

structure DIncident where
  day : Int
  place : ByteArray
  cause : ByteArray
  level : Int
  caught : Int
  buried : Int
  deriving DecidableEq

def fIncident : Flat DIncident where
  n := 6
  enc := fun x => [.int .i64 x.day, .string x.place, .string x.cause, .int .i64 x.level, .int .i64 x.caught, .int .i64 x.buried]
  ok := fun x => fInt.ok x.day ∧ fStr.ok x.place ∧ fStr.ok x.cause ∧ fInt.ok x.level ∧ fInt.ok x.caught ∧ fInt.ok x.buried
  pos := by omega
  len := fun _ => rfl
  one := by intro x v hv; simp at hv; rcases hv with rfl | rfl | rfl | rfl | rfl | rfl <;> rfl

def totIncident (x : DIncident) : Nat := x.place.size + x.cause.size
def totIncidentS (xs : List DIncident) : Nat := xs.length + (xs.map totIncident).sum

set_option maxRecDepth 100000 in
set_option maxHeartbeats 1000000 in
theorem szIncident_any (x : DIncident) (left : Int) (w : World) (hx : fIncident.ok x) (h0 : 0 ≤ left) (h1 : left ≤ 1048576) :
    Calls Tryz.prog 71 #[.agg #[.int .i64 x.day, .string x.place, .string x.cause, .int .i64 x.level, .int .i64 x.caught, .int .i64 x.buried], .int .i64 left] w fun e w' => SzR left (totIncident x) w e w' := by
  have hsz1 : x.place.size ≤ 9223372036854775807 := hx.2.1
  have hsz2 : x.cause.size ≤ 9223372036854775807 := hx.2.2.1
  by_cases c1 : left - x.place.size < 0
  · go_enter Tryz.func71, Tryz.ntmps71
    go_wp2
    go_ret
    exact .no (by repeat (first | exact Below.refl _ _ | assumption | refine Below.alloc ?_ (by first | omega | (simp <;> omega)) _ | refine Below.setCell ?_ (by first | (show _ ≤ _; omega) | (simp <;> omega)) _ | refine Below.drew ?_ | refine below_drewN ?_ _))
  · skip
    by_cases c2 : left - x.place.size - x.cause.size < 0
    · go_enter Tryz.func71, Tryz.ntmps71
      go_wp2
      go_ret
      exact .no (by repeat (first | exact Below.refl _ _ | assumption | refine Below.alloc ?_ (by first | omega | (simp <;> omega)) _ | refine Below.setCell ?_ (by first | (show _ ≤ _; omega) | (simp <;> omega)) _ | refine Below.drew ?_ | refine below_drewN ?_ _))
    · skip
      go_enter Tryz.func71, Tryz.ntmps71
      go_wp2
      go_ret
      exact .yes (by omega) (by unfold totIncident; omega) (by repeat (first | exact Below.refl _ _ | assumption | refine Below.alloc ?_ (by first | omega | (simp <;> omega)) _ | refine Below.setCell ?_ (by first | (show _ ≤ _; omega) | (simp <;> omega)) _ | refine Below.drew ?_ | refine below_drewN ?_ _))

set_option maxRecDepth 100000 in
set_option maxHeartbeats 1000000 in
theorem szIncidentS_any (v : Value) (xs : List DIncident) (fp : List Nat) (left : Int) (w : World) (hx : Sl fIncident.cod w v xs fp) (h0 : 0 ≤ left) (h1 : left ≤ 1048576) :
    Calls Tryz.prog 24 #[v, .int .i64 left] w fun e w' => SzR left (totIncidentS xs) w e w' := by
  obtain ⟨A, cap, rfl, hlen, hcap⟩ := hx.form
  by_cases hl : left - (xs.length : Int) < 0
  · go_enter Tryz.func24, Tryz.ntmps24
    go_wp2
    go_ret
    exact .no (Below.refl _ _)
  · go_enter Tryz.func24, Tryz.ntmps24
    go_wp2
    go_loopw [1, 5] (fun l i wr => ∃ k : Nat, k ≤ xs.length ∧ i = .int .i64 k ∧ Below w.heap.size w wr ∧ ∃ r : Int, l = .int .i64 r ∧ 0 ≤ r ∧ r + (xs.length + ((xs.take k).map totIncident).sum : Nat) = left) (fun _ i _ => xs.length - (intOf i).toNat)
    case atStart => exact ⟨0, Nat.zero_le _, rfl, Below.refl _ _, _, rfl, by omega, by simp⟩
    case round =>
      obtain ⟨k, hk, rfl, hb, r, rfl, hr0, hr⟩ := hrel
      have HR := Lib.hid hr
      clear hr
      have hr1 : r ≤ 1048576 := by have := HR.out; omega
      by_cases hlt : k < xs.length
      · obtain ⟨b, off, rfl, _, hok, hc, _⟩ := (hx.below' hb).at_ hlt
        have hc0 : wr.cell? ⟨b, off + k * 6, none⟩ = some (.int .i64 xs[k].day) := by have := hc 0 (by decide); exact this
        have hc1 : wr.cell? ⟨b, off + k * 6 + 1, none⟩ = some (.string xs[k].place) := by have := hc 1 (by decide); exact this
        have hc2 : wr.cell? ⟨b, off + k * 6 + 2, none⟩ = some (.string xs[k].cause) := by have := hc 2 (by decide); exact this
        have hc3 : wr.cell? ⟨b, off + k * 6 + 3, none⟩ = some (.int .i64 xs[k].level) := by have := hc 3 (by decide); exact this
        have hc4 : wr.cell? ⟨b, off + k * 6 + 4, none⟩ = some (.int .i64 xs[k].caught) := by have := hc 4 (by decide); exact this
        have hc5 : wr.cell? ⟨b, off + k * 6 + 5, none⟩ = some (.int .i64 xs[k].buried) := by have := hc 5 (by decide); exact this
        clear hc
        go_wp2_with fail
        refine (szIncident_any xs[k] r _ hok hr0 hr1).mono ?_
        rintro e w2 ⟨r2, rfl, hr2, hb2⟩
        have HR2 := Lib.hid hr2
        clear hr2
        by_cases hneg : r2 < 0
        · go_wp2
          go_ret
          exact .no (hb.trans (hb2.mono hb.size))
        · go_wp2
          go_roundw
          case rel => exact ⟨k + 1, by omega, by go_num, hb.trans (hb2.mono hb.size), _, rfl, by omega, by have := HR.out; have hst := sum_take_step_ totIncident xs k hlt; rcases HR2.out with h | ⟨_, h⟩ <;> omega⟩
          case measure => simp [intOf]; omega
      · go_wp2
        go_ret
        exact .yes hr0 (by have := HR.out; rw [List.take_of_length_le (by omega)] at this; exact this) hb

set_option maxRecDepth 100000 in
set_option maxHeartbeats 1000000 in
theorem toIncident_any (x : DIncident) (w : World) :
    Calls Tryz.prog 93 #[.agg #[.int .i64 x.day, .string x.place, .string x.cause, .int .i64 x.level, .int .i64 x.caught, .int .i64 x.buried]] w fun e w' => e = .returned (.agg #[.int .i64 x.day, .string x.place, .string x.cause, .int .i64 x.level, .int .i64 x.caught, .int .i64 x.buried]) ∧ Below w.heap.size w w' := by
  go_enter Tryz.func93, Tryz.ntmps93
  go_wp2
  exact bodyPost_ret (v := .agg #[.int .i64 x.day, .string x.place, .string x.cause, .int .i64 x.level, .int .i64 x.caught, .int .i64 x.buried]) (by simp [results, Tryz.results93, go_sem]) rfl ⟨rfl, (by repeat (first | exact Below.refl _ _ | assumption | refine Below.alloc ?_ (by first | omega | (simp <;> omega)) _ | refine Below.setCell ?_ (by first | (show _ ≤ _; omega) | (simp <;> omega)) _ | refine Below.drew ?_ | refine below_drewN ?_ _))⟩
set_option maxRecDepth 100000 in
set_option maxHeartbeats 1000000 in
theorem eqIncident_any (x : DIncident) (w : World) :
    Calls Tryz.prog 116 #[.agg #[.int .i64 x.day, .string x.place, .string x.cause, .int .i64 x.level, .int .i64 x.caught, .int .i64 x.buried], .agg #[.int .i64 x.day, .string x.place, .string x.cause, .int .i64 x.level, .int .i64 x.caught, .int .i64 x.buried]] w fun e w' => e = .returned (.bool true) ∧ Below w.heap.size w w' := by
  go_enter Tryz.func116, Tryz.ntmps116
  go_wp2
  go_ret
  exact ⟨rfl, (by repeat (first | exact Below.refl _ _ | assumption | refine Below.alloc ?_ (by first | omega | (simp <;> omega)) _ | refine Below.setCell ?_ (by first | (show _ ≤ _; omega) | (simp <;> omega)) _ | refine Below.drew ?_ | refine below_drewN ?_ _))⟩

theorem infoIncident : (Tryz.prog.info? 173).map (fun i => (i.zero, i.size, i.bytes)) = some (some (.agg #[.int .i64 0, .string ⟨#[]⟩, .string ⟨#[]⟩, .int .i64 0, .int .i64 0, .int .i64 0]), 6, 64) := by kernel_rfl
set_option maxRecDepth 100000 in
set_option maxHeartbeats 1000000 in
theorem toIncidentS_any (v : Value) (xs : List DIncident) (fp : List Nat) (w : World) (hx : Sl fIncident.cod w v xs fp) (h1 : xs.length ≤ 1048576) :
    Calls Tryz.prog 38 #[v] w fun e w' => NewR fIncident.cod w xs e w' := by
  obtain ⟨A, cap, rfl, hlen, hcap⟩ := hx.form
  obtain ⟨i0, hi, hz0, hz1, hz2⟩ := info_parts infoIncident
  have hmk := fun W => run_make_rowN (P := Tryz.prog) 51 173 i0 _ Tryz.underlying51 hi hz0 .i64 .i64 xs.length xs.length (Nat.le_refl _) (by rw [hz2]; omega) (by omega) W
  rw [hz1] at hmk
  go_enter Tryz.func38, Tryz.ntmps38
  go_wp2
  go_loopw [4] (fun i wr => ∃ k : Nat, k ≤ xs.length ∧ i = .int .i64 k ∧ Fill wr w.heap.size w.heap.size 173 6 xs.length ((xs.take k).flatMap fIncident.enc) ∧ Below w.heap.size w wr) (fun i _ => xs.length - (intOf i).toNat)
  case atStart => exact ⟨0, Nat.zero_le _, rfl, Fill.start w _ _ _ _ (by omega), (Below.refl _ _).alloc (Nat.le_refl _) _⟩
  case round =>
    obtain ⟨k, hk, rfl, hf, hb⟩ := hrel
    by_cases hlt : k < xs.length
    · obtain ⟨b, off, rfl, _, hok, hc, _⟩ := (hx.below' hb).at_ hlt
      have hc0 : wr.cell? ⟨b, off + k * 6, none⟩ = some (.int .i64 xs[k].day) := by have := hc 0 (by decide); exact this
      have hc1 : wr.cell? ⟨b, off + k * 6 + 1, none⟩ = some (.string xs[k].place) := by have := hc 1 (by decide); exact this
      have hc2 : wr.cell? ⟨b, off + k * 6 + 2, none⟩ = some (.string xs[k].cause) := by have := hc 2 (by decide); exact this
      have hc3 : wr.cell? ⟨b, off + k * 6 + 3, none⟩ = some (.int .i64 xs[k].level) := by have := hc 3 (by decide); exact this
      have hc4 : wr.cell? ⟨b, off + k * 6 + 4, none⟩ = some (.int .i64 xs[k].caught) := by have := hc 4 (by decide); exact this
      have hc5 : wr.cell? ⟨b, off + k * 6 + 5, none⟩ = some (.int .i64 xs[k].buried) := by have := hc 5 (by decide); exact this
      clear hc
      go_wp2_with fail
      refine (toIncident_any xs[k] _).mono ?_
      rintro e w2 ⟨rfl, hb2⟩
      have hgl := hf.lt
      have hf2 := hf.below hb2 hgl
      clear hf hc0 hc1 hc2 hc3 hc4 hc5
      obtain ⟨u0, hu0⟩ := hf2.cell (j := k * 6) (by omega)
      have hz0 := hf2.frozen (k * 6)
      obtain ⟨u1, hu1⟩ := hf2.cell (j := k * 6 + 1) (by omega)
      have hz1 := hf2.frozen (k * 6 + 1)
      obtain ⟨u2, hu2⟩ := hf2.cell (j := k * 6 + 2) (by omega)
      have hz2 := hf2.frozen (k * 6 + 2)
      obtain ⟨u3, hu3⟩ := hf2.cell (j := k * 6 + 3) (by omega)
      have hz3 := hf2.frozen (k * 6 + 3)
      obtain ⟨u4, hu4⟩ := hf2.cell (j := k * 6 + 4) (by omega)
      have hz4 := hf2.frozen (k * 6 + 4)
      obtain ⟨u5, hu5⟩ := hf2.cell (j := k * 6 + 5) (by omega)
      have hz5 := hf2.frozen (k * 6 + 5)
      go_wp2
      have HL : ((xs.take k).flatMap fIncident.enc).length = k * 6 := flat_take_len (E := fIncident) hk
      have hq0 := hf2.put_at (p := k * 6) (by simp [HL]) (by omega) (.int .i64 xs[k].day)
      have hq1 := hq0.put_at (p := k * 6 + 1) (by simp [HL]) (by omega) (.string xs[k].place)
      have hq2 := hq1.put_at (p := k * 6 + 2) (by simp [HL]) (by omega) (.string xs[k].cause)
      have hq3 := hq2.put_at (p := k * 6 + 3) (by simp [HL]) (by omega) (.int .i64 xs[k].level)
      have hq4 := hq3.put_at (p := k * 6 + 4) (by simp [HL]) (by omega) (.int .i64 xs[k].caught)
      have hq5 := hq4.put_at (p := k * 6 + 5) (by simp [HL]) (by omega) (.int .i64 xs[k].buried)
      go_roundw
      case rel => exact ⟨k + 1, by omega, by go_num, by rw [flat_take_step hlt]; simpa [fIncident, List.append_assoc] using hq5, (((((((hb.trans (hb2.mono hb.size)).setCell (Nat.le_refl _) _).setCell (Nat.le_refl _) _).setCell (Nat.le_refl _) _).setCell (Nat.le_refl _) _).setCell (Nat.le_refl _) _).setCell (Nat.le_refl _) _)⟩
      case measure => simp [intOf]; omega
    · have hk' : k = xs.length := by omega
      subst hk'
      rw [List.take_length] at hf
      go_wp2
      go_ret
      exact ⟨_, rfl, Sl.of_own rfl (hf.done (flat_len _ 6 _ (fun _ _ => rfl))) hx.oks, hb⟩

set_option maxRecDepth 100000 in
set_option maxHeartbeats 1000000 in
theorem eqIncidentS_any (v v' : Value) (xs : List DIncident) (fp fp' : List Nat) (w : World) (hx : Sl fIncident.cod w v xs fp) (hy : Sl fIncident.cod w v' xs fp') :
    Calls Tryz.prog 52 #[v, v'] w fun e w' => YesR w e w' := by
  obtain ⟨A, cap, rfl, hlen, hcap⟩ := hx.form
  obtain ⟨A', cap', rfl, hlen', hcap'⟩ := hy.form
  go_enter Tryz.func52, Tryz.ntmps52
  go_wp2
  go_loopw [5] (fun i wr => ∃ k : Nat, k ≤ xs.length ∧ i = .int .i64 k ∧ Below w.heap.size w wr) (fun i _ => xs.length - (intOf i).toNat)
  case atStart => exact ⟨0, Nat.zero_le _, rfl, Below.refl _ _⟩
  case round =>
    obtain ⟨k, hk, rfl, hb⟩ := hrel
    by_cases hlt : k < xs.length
    · obtain ⟨b, off, rfl, _, hok, hc, _⟩ := (hx.below' hb).at_ hlt
      obtain ⟨b', off', rfl, _, hok', hd, _⟩ := (hy.below' hb).at_ hlt
      have hc0 : wr.cell? ⟨b, off + k * 6, none⟩ = some (.int .i64 xs[k].day) := by have := hc 0 (by decide); exact this
      have hc1 : wr.cell? ⟨b, off + k * 6 + 1, none⟩ = some (.string xs[k].place) := by have := hc 1 (by decide); exact this
      have hc2 : wr.cell? ⟨b, off + k * 6 + 2, none⟩ = some (.string xs[k].cause) := by have := hc 2 (by decide); exact this
      have hc3 : wr.cell? ⟨b, off + k * 6 + 3, none⟩ = some (.int .i64 xs[k].level) := by have := hc 3 (by decide); exact this
      have hc4 : wr.cell? ⟨b, off + k * 6 + 4, none⟩ = some (.int .i64 xs[k].caught) := by have := hc 4 (by decide); exact this
      have hc5 : wr.cell? ⟨b, off + k * 6 + 5, none⟩ = some (.int .i64 xs[k].buried) := by have := hc 5 (by decide); exact this
      have hd0 : wr.cell? ⟨b', off' + k * 6, none⟩ = some (.int .i64 xs[k].day) := by have := hd 0 (by decide); exact this
      have hd1 : wr.cell? ⟨b', off' + k * 6 + 1, none⟩ = some (.string xs[k].place) := by have := hd 1 (by decide); exact this
      have hd2 : wr.cell? ⟨b', off' + k * 6 + 2, none⟩ = some (.string xs[k].cause) := by have := hd 2 (by decide); exact this
      have hd3 : wr.cell? ⟨b', off' + k * 6 + 3, none⟩ = some (.int .i64 xs[k].level) := by have := hd 3 (by decide); exact this
      have hd4 : wr.cell? ⟨b', off' + k * 6 + 4, none⟩ = some (.int .i64 xs[k].caught) := by have := hd 4 (by decide); exact this
      have hd5 : wr.cell? ⟨b', off' + k * 6 + 5, none⟩ = some (.int .i64 xs[k].buried) := by have := hd 5 (by decide); exact this
      have gc0 := cell_regrown hc0
      have gc1 := cell_regrown hc1
      have gc2 := cell_regrown hc2
      have gc3 := cell_regrown hc3
      have gc4 := cell_regrown hc4
      have gc5 := cell_regrown hc5
      have gd0 := cell_regrown hd0
      have gd1 := cell_regrown hd1
      have gd2 := cell_regrown hd2
      have gd3 := cell_regrown hd3
      have gd4 := cell_regrown hd4
      have gd5 := cell_regrown hd5
      clear hc hd hc0 hd0 hc1 hd1 hc2 hd2 hc3 hd3 hc4 hd4 hc5 hd5
      have cq : ∀ d os, Calls Tryz.prog 116 #[.agg #[.int .i64 xs[k].day, .string xs[k].place, .string xs[k].cause, .int .i64 xs[k].level, .int .i64 xs[k].caught, .int .i64 xs[k].buried], .agg #[.int .i64 xs[k].day, .string xs[k].place, .string xs[k].cause, .int .i64 xs[k].level, .int .i64 xs[k].caught, .int .i64 xs[k].buried]] (Go.Sort.grow (redrawn wr d) os) fun e w'' => e = .returned (.bool true) ∧ ∃ p : Regrown, w'' = Go.Sort.grow (redrawn wr p.d) p.os := fun d os => Calls.regrown_of (eqIncident_any xs[k] _)
      go_wp2
      refine wp_region_quiet_below (by kernel_rfl) (by kernel_rfl) ?_
      repeat (quiet_step (exact cq _ _))
      refine wpQuiet_nil ?_
      intro _ hw'
      obtain ⟨⟨dq, osq⟩, hw''⟩ := hw'
      subst hw''
      have hbq := below_regrown wr dq osq
      clear gc0 gd0 cq
      generalize Go.Sort.grow (redrawn wr dq) osq = wq at *
      go_wp2
      go_roundw
      case rel => exact ⟨k + 1, by omega, by go_num, hb.trans (hbq.mono hb.size)⟩
      case measure => simp [intOf]; omega
    · go_wp2
      go_ret
      exact ⟨rfl, hb⟩

def mkIncident (k : Int) : DIncident := ⟨k, mt (k + 1), mt (k + 1 + 1), k + 1 + 1 + 1, k + 1 + 1 + 1 + 1, k + 1 + 1 + 1 + 1 + 1⟩
def marksIncident (k : Int) (n : Nat) : List DIncident := (List.range n).map fun (i : Nat) => mkIncident (k + 6 * (i : Int))

theorem marksIncident_get (k0 : Int) (n i : Nat) (h : i < (marksIncident k0 n).length) : (marksIncident k0 n)[i] = mkIncident (k0 + 6 * (i : Int)) := by
  simp [marksIncident]
theorem marksIncident_len (k0 : Int) (n : Nat) : (marksIncident k0 n).length = n := by simp [marksIncident]

set_option maxRecDepth 100000 in
set_option maxHeartbeats 2000000 in
theorem markIncidentS_any (v : Value) (xs : List DIncident) (fp : List Nat) (k0 : Int) (w : World) (hx : Sl fIncident.cod w v xs fp) (h0 : 0 ≤ k0) (h1 : k0 + 6 * (xs.length : Int) ≤ 1000000000000) :
    Calls Tryz.prog 64 #[v, .int .i64 k0] w fun e w' => MarkR fIncident.cod fp w (k0 + 6 * (xs.length : Int)) v (marksIncident k0 xs.length) e w' := by
  obtain ⟨A, cap, rfl, hlen, hcap⟩ := hx.form
  by_cases hne : xs.length = 0
  · have : xs = [] := List.eq_nil_of_length_eq_zero hne
    subst this
    go_enter Tryz.func64, Tryz.ntmps64
    go_wp2
    go_loop [1, 5] (fun n i => i = .int .i64 0 ∧ n = .int .i64 k0) (fun _ _ => 0)
    case atStart => exact ⟨rfl, rfl⟩
    case round =>
      obtain ⟨rfl, rfl⟩ := hrel
      go_wp2
      go_ret
      exact ⟨ret_int (by simp), hx, .refl _ _⟩
  · obtain ⟨b, off, rfl, rfl, hbs, hcs0⟩ := hx.cells (by omega)
    go_enter Tryz.func64, Tryz.ntmps64
    go_wp2
    go_loopw [1, 5] (fun n i wr => ∃ k : Nat, k ≤ xs.length ∧ i = .int .i64 k ∧ ∃ q : Int, n = .int .i64 q ∧ 0 ≤ q ∧ Hid (q = k0 + 6 * (k : Int)) ∧ Cells wr b off (((List.range k).map fun (i : Nat) => mkIncident (k0 + 6 * (i : Int))).flatMap fIncident.enc ++ (xs.drop k).flatMap fIncident.enc) ∧ Only [b] w wr) (fun _ i _ => xs.length - (intOf i).toNat)
    case atStart => exact ⟨0, Nat.zero_le _, rfl, k0, rfl, h0, by show _ = _; simp, by simpa using hcs0, .refl _ _⟩
    case round =>
      obtain ⟨k, hk, rfl, q, rfl, hq0, HQ, hcs, ho⟩ := hrel
      by_cases hlt : k < xs.length
      · have hq1 : q + 6 ≤ 1000000000000 := by have := HQ.out; omega
        have HC : Cells wr b off (((List.range k).map fun (i : Nat) => mkIncident (k0 + 6 * (i : Int))).flatMap fIncident.enc ++ ((.int .i64 xs[k].day : Value) :: (.string xs[k].place : Value) :: (.string xs[k].cause : Value) :: (.int .i64 xs[k].level : Value) :: (.int .i64 xs[k].caught : Value) :: (.int .i64 xs[k].buried : Value) :: (xs.drop (k + 1)).flatMap fIncident.enc)) := by
          have := hcs
          rw [List.drop_eq_getElem_cons hlt, List.flatMap_cons] at this
          exact this
        generalize HP : ((List.range k).map fun (i : Nat) => mkIncident (k0 + 6 * (i : Int))).flatMap fIncident.enc = pre at *
        have HL : pre.length = k * 6 := by rw [← HP, flat_len fIncident.enc 6 _ (fun _ _ => rfl)]; simp
        generalize HR : (xs.drop (k + 1)).flatMap fIncident.enc = post at *
        have HPH := Lib.hid HP
        clear HP hcs
        have HRH := Lib.hid HR
        clear HR
        have HLH := Lib.hid HL
        clear HL
        have hu0 := HC.at_mid (m := k * 6) (j := 0) (p := off + k * 6) HLH.out (by omega) (by simp) rfl
        have hz0 := HC.free_mid (m := k * 6) (j := 0) (p := off + k * 6) HLH.out (by omega) (by simp)
        go_wp2_with fail
        have HC0 := HC.put (m := k * 6) (j := 0) (p := off + k * 6) HLH.out (by omega) (by simp) (.int .i64 (q))
        have ho_ := ho.set (off + k * 6) (.int .i64 (q))
        clear hu0 hz0 ho
        have ho := ho_
        clear ho_
        clear HC
        refine (markText_any _ _ (by omega)).mono ?_
        rintro e w0 ⟨rfl, hbm⟩
        have HD0 := HC0.keep (hbm.block b (by have := ho.size; simp at this ⊢; omega))
        have hoo := ho.trans (.of_below hbm)
        clear ho hbm HC0
        have ho := hoo
        clear hoo
        have hu1 := HD0.at_mid (m := k * 6) (j := 1) (p := off + k * 6 + 1) HLH.out (by omega) (by simp) rfl
        have hz1 := HD0.free_mid (m := k * 6) (j := 1) (p := off + k * 6 + 1) HLH.out (by omega) (by simp)
        go_wp2_with fail
        have HC1 := HD0.put (m := k * 6) (j := 1) (p := off + k * 6 + 1) HLH.out (by omega) (by simp) (.string (mt (q + 1)))
        have ho_ := ho.set (off + k * 6 + 1) (.string (mt (q + 1)))
        clear hu1 hz1 ho
        have ho := ho_
        clear ho_
        clear HD0
        refine (markText_any _ _ (by omega)).mono ?_
        rintro e w1 ⟨rfl, hbm⟩
        have HD1 := HC1.keep (hbm.block b (by have := ho.size; simp at this ⊢; omega))
        have hoo := ho.trans (.of_below hbm)
        clear ho hbm HC1
        have ho := hoo
        clear hoo
        have hu2 := HD1.at_mid (m := k * 6) (j := 2) (p := off + k * 6 + 2) HLH.out (by omega) (by simp) rfl
        have hz2 := HD1.free_mid (m := k * 6) (j := 2) (p := off + k * 6 + 2) HLH.out (by omega) (by simp)
        have hu3 := HD1.at_mid (m := k * 6) (j := 3) (p := off + k * 6 + 3) HLH.out (by omega) (by simp) rfl
        have hz3 := HD1.free_mid (m := k * 6) (j := 3) (p := off + k * 6 + 3) HLH.out (by omega) (by simp)
        have hu4 := HD1.at_mid (m := k * 6) (j := 4) (p := off + k * 6 + 4) HLH.out (by omega) (by simp) rfl
        have hz4 := HD1.free_mid (m := k * 6) (j := 4) (p := off + k * 6 + 4) HLH.out (by omega) (by simp)
        have hu5 := HD1.at_mid (m := k * 6) (j := 5) (p := off + k * 6 + 5) HLH.out (by omega) (by simp) rfl
        have hz5 := HD1.free_mid (m := k * 6) (j := 5) (p := off + k * 6 + 5) HLH.out (by omega) (by simp)
        go_wp2
        have HC2 := HD1.put (m := k * 6) (j := 2) (p := off + k * 6 + 2) HLH.out (by omega) (by simp) (.string (mt (q + 1 + 1)))
        have ho_ := ho.set (off + k * 6 + 2) (.string (mt (q + 1 + 1)))
        clear hu2 hz2 ho
        have ho := ho_
        clear ho_
        clear HD1
        have HC3 := HC2.put (m := k * 6) (j := 3) (p := off + k * 6 + 3) HLH.out (by omega) (by simp) (.int .i64 (q + 1 + 1 + 1))
        have ho_ := ho.set (off + k * 6 + 3) (.int .i64 (q + 1 + 1 + 1))
        clear hu3 hz3 ho
        have ho := ho_
        clear ho_
        clear HC2
        have HC4 := HC3.put (m := k * 6) (j := 4) (p := off + k * 6 + 4) HLH.out (by omega) (by simp) (.int .i64 (q + 1 + 1 + 1 + 1))
        have ho_ := ho.set (off + k * 6 + 4) (.int .i64 (q + 1 + 1 + 1 + 1))
        clear hu4 hz4 ho
        have ho := ho_
        clear ho_
        clear HC3
        have HC5 := HC4.put (m := k * 6) (j := 5) (p := off + k * 6 + 5) HLH.out (by omega) (by simp) (.int .i64 (q + 1 + 1 + 1 + 1 + 1))
        have ho_ := ho.set (off + k * 6 + 5) (.int .i64 (q + 1 + 1 + 1 + 1 + 1))
        clear hu5 hz5 ho
        have ho := ho_
        clear ho_
        clear HC4
        go_roundw
        case rel => exact ⟨k + 1, by omega, by go_num, q + 6, by go_num, by omega, by have := HQ.out; show _ = _; omega, marks_step (f := fun (i : Nat) => mkIncident (k0 + 6 * (i : Int))) HPH.out HRH.out (by rw [← HQ.out] <;> rfl) HC5, ho⟩
        case measure => simp [intOf]; omega
      · have hk' : k = xs.length := by omega
        subst hk'
        rw [List.drop_length, List.flatMap_nil, List.append_nil] at hcs
        go_wp2
        go_ret
        have hsz := ho.size
        have hm := Sl.of_cells (E := fIncident) (cap := cap) (xs := marksIncident k0 xs.length) (by rw [marksIncident_len]; exact hlen) hcap (by omega) hcs (by intro x hx; simp [marksIncident] at hx; obtain ⟨i, hi, rfl⟩ := hx; exact ⟨(by simp only [fInt, mkIncident]; omega), mt_ok _ (by omega), mt_ok _ (by omega), (by simp only [fInt, mkIncident]; omega), (by simp only [fInt, mkIncident]; omega), (by simp only [fInt, mkIncident]; omega)⟩) (by rw [marksIncident_len]; omega)
        rw [marksIncident_len] at hm
        exact ⟨ret_int HQ.out, hm, ho⟩


end Go.Proofs.YtldigalncjhkeaaGreatDoor

namespace Go.Proofs.YtldigalncjhkeaaGreatDoor
open Go.RowKit

/-- A row that has just been laid. -/
theorem Sl.lit2 {α : Type} {E : Flat α} (w : World) (xs : List α) (T : TypeId) (cs : Array Value) (hcs : cs = (xs.flatMap E.enc).toArray) (hok : ∀ x ∈ xs, E.ok x) (hne : 0 < xs.length) (hm : xs.length ≤ 9223372036854775807) :
    Sl E.cod (w.alloc (.cells cs T)) (.slice (some ⟨w.heap.size, 0, none⟩) xs.length xs.length) xs [w.heap.size] := by
  subst hcs
  refine Sl.of_cells (Nat.le_refl _) hm (by simp) (fun j hj => ⟨?_, ?_⟩) hok hne
  · rw [World.cell?_alloc_at _ _ _ _ rfl]; simp
  · rw [World.frozen?_alloc_at _ _ _ _ rfl]
/-- v is a row of the call's own that holds L. -/
def Own {α : Type} (E : Flat α) (w : World) (base : Nat) (e : TypeId) (v : Value) (L : List α) : Prop := w.ownsRow base e E.n v L.length (L.flatMap E.enc)
section
variable {α : Type} {E : Flat α} {w w' : World} {base : Nat} {e : TypeId} {v : Value} {L : List α}
theorem Own.nil (E : Flat α) (w : World) (base : Nat) (e : TypeId) : Own E w base e (.slice none 0 0) [] := World.ownsRow_nil w base e E.n
theorem Own.lit0 (E : Flat α) (w : World) (e : TypeId) : Own E (w.alloc (.cells #[] e)) w.heap.size e (.slice (some ⟨w.heap.size, 0, none⟩) 0 0) [] :=
  World.ownsRow_lit (e := e) (size := E.n) w #[] 0 (Nat.le_refl w.heap.size) (by decide) (by simp)
theorem Own.lit0m (E : Flat α) {w : World} {base : Nat} (hb : base ≤ w.heap.size) {e : TypeId} : Own E (w.alloc (.cells #[] e)) base e (.slice (some ⟨w.heap.size, 0, none⟩) 0 0) [] :=
  World.ownsRow_lit (e := e) (size := E.n) w #[] 0 hb (by decide) (by simp)
theorem Own.below (h : Own E w base e v L) (hb : Below w.heap.size w w') : Own E w' base e v L := by
  obtain ⟨h1, h2⟩ := h
  refine ⟨h1, ?_⟩
  rcases h2 with h2 | ⟨g, cap, cur, hv, hg, hh, r⟩
  · exact .inl h2
  · have hgl : g < w.heap.size := by
      rcases Nat.lt_or_ge g w.heap.size with hlt | hge
      · exact hlt
      · rw [Array.getElem?_eq_none hge] at hh; cases hh
    exact .inr ⟨g, cap, cur, hv, hg, by rw [hb.block _ hgl]; exact hh, r⟩
theorem Own.drewN (h : Own E w base e v L) (n : Nat) : Own E (w.drewN n) base e v L := h
theorem Own.form (h : Own E w base e v L) : ∃ A cap, v = .slice A L.length cap := by
  obtain ⟨h1, h2⟩ := h
  rcases h2 with ⟨hv, hz⟩ | ⟨g, cap, cur, hv, _⟩
  · exact ⟨none, 0, by rw [hv, hz]⟩
  · exact ⟨_, cap, hv⟩
/-- What it reads as, for the caller. -/
theorem Own.new (h : Own E w' w.heap.size e v L) (hb : Below w.heap.size w w') (hok : ∀ x ∈ L, E.ok x) : New E.cod w v L w' :=
  ⟨Sl.of_own (n := L.length) rfl h hok, hb⟩
/-- One more. -/
theorem Own.push (x : α) {n : Nat} (hn : n = L.length + 1) (h : w.ownsRow base e E.n v n (L.flatMap E.enc ++ E.enc x)) : Own E w base e v (L ++ [x]) := by
  subst hn
  show w.ownsRow base e E.n v (L ++ [x]).length ((L ++ [x]).flatMap E.enc)
  rw [List.flatMap_append, List.length_append]
  simpa using h
end
/-- The same where the walk writes the address of the new block in its own way. -/
theorem wpList_append_oneA {P : Program} {w : World} {ops : Array Oper} {rest : List Oper} {o : Oper} {a : Act} {Q : Exit → Act → World → Prop} (ad : Nat) (had : ad = w.heap.size) (hgd : o.guard = none) (s x : Operand) (t : TypeId)
    (ho : o.op = .call { callee := .builtin .append, args := #[s, x], argTypes := #[t, t] })
    (base : Nat) (e : TypeId) (i : TypeInfo) (z : Value) (size bytes : Nat) (ht : P.underlying t = some (.slice e)) (hi : P.info? e = some i) (hz : i.zero = some z)
    (hsize : i.size = size) (hby : i.bytes = bytes) (hzs : z.cells.size = size) (hsz : 0 < size)
    (v : Value) (n : Nat) (xs : List Value) (hs : a.eval s = v) (hown : w.ownsRow base e size v n xs) (us : List Value) (hul : us.length = size) (h1 : ∀ u ∈ us, u.oneCell' = true)
    (hx : a.eval x = .slice (some ⟨ad, 0, none⟩) 1 1) (hn : n ≤ 1000000000) (hb : bytes ≤ 1000) (hbase : base ≤ w.heap.size)
    (h : ∀ v' w', w'.ownsRow base e size v' (n + 1) (xs ++ us) → Below base w w' → w.grownBy w' v.ownBlock → w.heap.size < w'.heap.size → wpList P ops Q rest (a.put o.dst v') w') : wpList P ops Q (o :: rest) a (w.alloc (.cells us.toArray e)) := by
  subst had
  exact wpList_append_one hgd s x t ho base e i z size bytes ht hi hz hsize hby hzs hsz v n xs hs hown us hul h1 hx hn hb hbase h
/-- Two results: a new slice and a code. -/
def NewR2 {α : Type} (E : Cod α) (w : World) (xs : List α) (c : Int) (e : Ending) (w' : World) : Prop := ∃ v, e = .returned (.tuple #[v, .int .i64 c]) ∧ New E w v xs w'
theorem New.nil {α : Type} {E : Cod α} {w w' : World} (h : Below w.heap.size w w') : New E w (.slice none 0 0) ([] : List α) w' :=
  ⟨⟨[], ⟨none, 0, rfl, by simp, by simp [maxLen], .inl ⟨rfl, rfl⟩⟩, by simp, by simp⟩, h⟩
theorem New.later {α : Type} {E : Cod α} {w w0 w' : World} {v : Value} {xs : List α} (h : New E w0 v xs w') (hb : Below w.heap.size w w0) : New E w v xs w' := by
  obtain ⟨⟨fp, h1, h2, h3⟩, h4⟩ := h
  exact ⟨⟨fp, h1, fun b hb' => Nat.le_trans hb.size (h2 b hb'), h3⟩, hb.trans (h4.mono hb.size)⟩
/-- What has been kept of the first k. -/
def keptL {α β : Type} (p : α → Bool) (f : α → β) (xs : List α) (k : Nat) : List β := ((xs.take k).filter p).map f
theorem keptL_zero {α β : Type} (p : α → Bool) (f : α → β) (xs : List α) : keptL p f xs 0 = [] := rfl
theorem keptL_yes {α β : Type} {p : α → Bool} {f : α → β} {xs : List α} {k : Nat} (hk : k < xs.length) (h : p xs[k] = true) : keptL p f xs (k + 1) = keptL p f xs k ++ [f xs[k]] := by
  unfold keptL
  rw [List.take_succ_eq_append_getElem hk, List.filter_append, List.map_append]
  simp [h]
theorem keptL_no {α β : Type} {p : α → Bool} {f : α → β} {xs : List α} {k : Nat} (hk : k < xs.length) (h : p xs[k] = false) : keptL p f xs (k + 1) = keptL p f xs k := by
  unfold keptL
  rw [List.take_succ_eq_append_getElem hk, List.filter_append, List.map_append]
  simp [h]
theorem keptL_full {α β : Type} {p : α → Bool} {f : α → β} {xs : List α} {k : Nat} (hk : xs.length ≤ k) : keptL p f xs k = (xs.filter p).map f := by
  unfold keptL; rw [List.take_of_length_le hk]
theorem keptL_len {α β : Type} {p : α → Bool} {f : α → β} {xs : List α} {k : Nat} : (keptL p f xs k).length ≤ k := by
  unfold keptL; rw [List.length_map]
  exact Nat.le_trans (List.length_filter_le _ _) (List.length_take_le _ _)
end Go.Proofs.YtldigalncjhkeaaGreatDoor
