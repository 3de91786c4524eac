
/- Gate: the data, its cells; the given helpers over it. Written by wip/gentype.py. -/
import Derived.Test.YtpebibegdeioeaaMark
namespace Go.Proofs.Ytpebibegdeioeaa
open Go.RowKit
set_option linter.unusedVariables false

structure DGate where
  id : ByteArray
  shut : Int
  open_ : Int
  hold : Int
  shuts : Bool
  calm : Int
  deriving DecidableEq

def fGate : Flat DGate where
  n := 6
  enc := fun x => [.string x.id, .int .i64 x.shut, .int .i64 x.open_, .int .i64 x.hold, .bool x.shuts, .int .i64 x.calm]
  ok := fun x => fStr.ok x.id ∧ fInt.ok x.shut ∧ fInt.ok x.open_ ∧ fInt.ok x.hold ∧ fBool.ok x.shuts ∧ fInt.ok x.calm
  pos := by omega
  len := fun _ => rfl
  one := by intro x v hv; simp at hv; rcases hv with rfl | rfl | rfl | rfl | rfl | rfl <;> rfl

def totGate (x : DGate) : Nat := x.id.size
def totGateS (xs : List DGate) : Nat := xs.length + (xs.map totGate).sum

set_option maxRecDepth 100000 in
set_option maxHeartbeats 1000000 in
theorem szGate_any (x : DGate) (left : Int) (w : World) (hx : fGate.ok x) (h0 : 0 ≤ left) (h1 : left ≤ 1048576) :
    Calls Try.prog 35 #[.agg #[.string x.id, .int .i64 x.shut, .int .i64 x.open_, .int .i64 x.hold, .bool x.shuts, .int .i64 x.calm], .int .i64 left] w fun e w' => SzR left (totGate x) w e w' := by
  have hsz0 : x.id.size ≤ 9223372036854775807 := hx.1
  by_cases c0 : left - x.id.size < 0
  · go_enter Try.func35, Try.ntmps35
    go_wp2
    go_ret
    exact .no (by repeat (first | exact Below.refl _ _ | assumption | refine Below.alloc ?_ (by first | omega | (simp <;> omega)) _ | refine Below.setCell ?_ (by first | (show _ ≤ _; omega) | (simp <;> omega)) _ | refine Below.drew ?_ | refine below_drewN ?_ _))
  · skip
    go_enter Try.func35, Try.ntmps35
    go_wp2
    go_ret
    exact .yes (by omega) (by unfold totGate; omega) (by repeat (first | exact Below.refl _ _ | assumption | refine Below.alloc ?_ (by first | omega | (simp <;> omega)) _ | refine Below.setCell ?_ (by first | (show _ ≤ _; omega) | (simp <;> omega)) _ | refine Below.drew ?_ | refine below_drewN ?_ _))

set_option maxRecDepth 100000 in
set_option maxHeartbeats 1000000 in
theorem szGateS_any (v : Value) (xs : List DGate) (fp : List Nat) (left : Int) (w : World) (hx : Sl fGate.cod w v xs fp) (h0 : 0 ≤ left) (h1 : left ≤ 1048576) :
    Calls Try.prog 13 #[v, .int .i64 left] w fun e w' => SzR left (totGateS xs) w e w' := by
  obtain ⟨A, cap, rfl, hlen, hcap⟩ := hx.form
  by_cases hl : left - (xs.length : Int) < 0
  · go_enter Try.func13, Try.ntmps13
    go_wp2
    go_ret
    exact .no (Below.refl _ _)
  · go_enter Try.func13, Try.ntmps13
    go_wp2
    go_loopw [1, 5] (fun l i wr => ∃ k : Nat, k ≤ xs.length ∧ i = .int .i64 k ∧ Below w.heap.size w wr ∧ ∃ r : Int, l = .int .i64 r ∧ 0 ≤ r ∧ r + (xs.length + ((xs.take k).map totGate).sum : Nat) = left) (fun _ i _ => xs.length - (intOf i).toNat)
    case atStart => exact ⟨0, Nat.zero_le _, rfl, Below.refl _ _, _, rfl, by omega, by simp⟩
    case round =>
      obtain ⟨k, hk, rfl, hb, r, rfl, hr0, hr⟩ := hrel
      have HR := Lib.hid hr
      clear hr
      have hr1 : r ≤ 1048576 := by have := HR.out; omega
      by_cases hlt : k < xs.length
      · obtain ⟨b, off, rfl, _, hok, hc, _⟩ := (hx.below' hb).at_ hlt
        have hc0 : wr.cell? ⟨b, off + k * 6, none⟩ = some (.string xs[k].id) := by have := hc 0 (by decide); exact this
        have hc1 : wr.cell? ⟨b, off + k * 6 + 1, none⟩ = some (.int .i64 xs[k].shut) := by have := hc 1 (by decide); exact this
        have hc2 : wr.cell? ⟨b, off + k * 6 + 2, none⟩ = some (.int .i64 xs[k].open_) := by have := hc 2 (by decide); exact this
        have hc3 : wr.cell? ⟨b, off + k * 6 + 3, none⟩ = some (.int .i64 xs[k].hold) := by have := hc 3 (by decide); exact this
        have hc4 : wr.cell? ⟨b, off + k * 6 + 4, none⟩ = some (.bool xs[k].shuts) := by have := hc 4 (by decide); exact this
        have hc5 : wr.cell? ⟨b, off + k * 6 + 5, none⟩ = some (.int .i64 xs[k].calm) := by have := hc 5 (by decide); exact this
        clear hc
        go_wp2_with fail
        refine (szGate_any xs[k] r _ hok hr0 hr1).mono ?_
        rintro e w2 ⟨r2, rfl, hr2, hb2⟩
        have HR2 := Lib.hid hr2
        clear hr2
        by_cases hneg : r2 < 0
        · go_wp2
          go_ret
          exact .no (hb.trans (hb2.mono hb.size))
        · go_wp2
          go_roundw
          case rel => exact ⟨k + 1, by omega, by go_num, hb.trans (hb2.mono hb.size), _, rfl, by omega, by have := HR.out; have hst := sum_take_step_ totGate xs k hlt; rcases HR2.out with h | ⟨_, h⟩ <;> omega⟩
          case measure => simp [intOf]; omega
      · go_wp2
        go_ret
        exact .yes hr0 (by have := HR.out; rw [List.take_of_length_le (by omega)] at this; exact this) hb

set_option maxRecDepth 100000 in
set_option maxHeartbeats 1000000 in
theorem toGate_any (x : DGate) (w : World) :
    Calls Try.prog 43 #[.agg #[.string x.id, .int .i64 x.shut, .int .i64 x.open_, .int .i64 x.hold, .bool x.shuts, .int .i64 x.calm]] w fun e w' => e = .returned (.agg #[.string x.id, .int .i64 x.shut, .int .i64 x.open_, .int .i64 x.hold, .bool x.shuts, .int .i64 x.calm]) ∧ Below w.heap.size w w' := by
  go_enter Try.func43, Try.ntmps43
  go_wp2
  exact bodyPost_ret (v := .agg #[.string x.id, .int .i64 x.shut, .int .i64 x.open_, .int .i64 x.hold, .bool x.shuts, .int .i64 x.calm]) (by simp [results, Try.results43, go_sem]) rfl ⟨rfl, (by repeat (first | exact Below.refl _ _ | assumption | refine Below.alloc ?_ (by first | omega | (simp <;> omega)) _ | refine Below.setCell ?_ (by first | (show _ ≤ _; omega) | (simp <;> omega)) _ | refine Below.drew ?_ | refine below_drewN ?_ _))⟩
set_option maxRecDepth 100000 in
set_option maxHeartbeats 1000000 in
theorem eqGate_any (x : DGate) (w : World) :
    Calls Try.prog 56 #[.agg #[.string x.id, .int .i64 x.shut, .int .i64 x.open_, .int .i64 x.hold, .bool x.shuts, .int .i64 x.calm], .agg #[.string x.id, .int .i64 x.shut, .int .i64 x.open_, .int .i64 x.hold, .bool x.shuts, .int .i64 x.calm]] w fun e w' => e = .returned (.bool true) ∧ Below w.heap.size w w' := by
  go_enter Try.func56, Try.ntmps56
  go_wp2
  go_ret
  exact ⟨rfl, (by repeat (first | exact Below.refl _ _ | assumption | refine Below.alloc ?_ (by first | omega | (simp <;> omega)) _ | refine Below.setCell ?_ (by first | (show _ ≤ _; omega) | (simp <;> omega)) _ | refine Below.drew ?_ | refine below_drewN ?_ _))⟩

theorem infoGate : (Try.prog.info? 88).map (fun i => (i.zero, i.size, i.bytes)) = some (some (.agg #[.string ⟨#[]⟩, .int .i64 0, .int .i64 0, .int .i64 0, .bool false, .int .i64 0]), 6, 56) := by kernel_rfl
set_option maxRecDepth 100000 in
set_option maxHeartbeats 1000000 in
theorem toGateS_any (v : Value) (xs : List DGate) (fp : List Nat) (w : World) (hx : Sl fGate.cod w v xs fp) (h1 : xs.length ≤ 1048576) :
    Calls Try.prog 20 #[v] w fun e w' => NewR fGate.cod w xs e w' := by
  obtain ⟨A, cap, rfl, hlen, hcap⟩ := hx.form
  obtain ⟨i0, hi, hz0, hz1, hz2⟩ := info_parts infoGate
  have hmk := fun W => run_make_rowN (P := Try.prog) 36 88 i0 _ Try.underlying36 hi hz0 .i64 .i64 xs.length xs.length (Nat.le_refl _) (by rw [hz2]; omega) (by omega) W
  rw [hz1] at hmk
  go_enter Try.func20, Try.ntmps20
  go_wp2
  go_loopw [4] (fun i wr => ∃ k : Nat, k ≤ xs.length ∧ i = .int .i64 k ∧ Fill wr w.heap.size w.heap.size 88 6 xs.length ((xs.take k).flatMap fGate.enc) ∧ Below w.heap.size w wr) (fun i _ => xs.length - (intOf i).toNat)
  case atStart => exact ⟨0, Nat.zero_le _, rfl, Fill.start w _ _ _ _ (by omega), (Below.refl _ _).alloc (Nat.le_refl _) _⟩
  case round =>
    obtain ⟨k, hk, rfl, hf, hb⟩ := hrel
    by_cases hlt : k < xs.length
    · obtain ⟨b, off, rfl, _, hok, hc, _⟩ := (hx.below' hb).at_ hlt
      have hc0 : wr.cell? ⟨b, off + k * 6, none⟩ = some (.string xs[k].id) := by have := hc 0 (by decide); exact this
      have hc1 : wr.cell? ⟨b, off + k * 6 + 1, none⟩ = some (.int .i64 xs[k].shut) := by have := hc 1 (by decide); exact this
      have hc2 : wr.cell? ⟨b, off + k * 6 + 2, none⟩ = some (.int .i64 xs[k].open_) := by have := hc 2 (by decide); exact this
      have hc3 : wr.cell? ⟨b, off + k * 6 + 3, none⟩ = some (.int .i64 xs[k].hold) := by have := hc 3 (by decide); exact this
      have hc4 : wr.cell? ⟨b, off + k * 6 + 4, none⟩ = some (.bool xs[k].shuts) := by have := hc 4 (by decide); exact this
      have hc5 : wr.cell? ⟨b, off + k * 6 + 5, none⟩ = some (.int .i64 xs[k].calm) := by have := hc 5 (by decide); exact this
      clear hc
      go_wp2_with fail
      refine (toGate_any xs[k] _).mono ?_
      rintro e w2 ⟨rfl, hb2⟩
      have hgl := hf.lt
      have hf2 := hf.below hb2 hgl
      clear hf hc0 hc1 hc2 hc3 hc4 hc5
      obtain ⟨u0, hu0⟩ := hf2.cell (j := k * 6) (by omega)
      have hz0 := hf2.frozen (k * 6)
      obtain ⟨u1, hu1⟩ := hf2.cell (j := k * 6 + 1) (by omega)
      have hz1 := hf2.frozen (k * 6 + 1)
      obtain ⟨u2, hu2⟩ := hf2.cell (j := k * 6 + 2) (by omega)
      have hz2 := hf2.frozen (k * 6 + 2)
      obtain ⟨u3, hu3⟩ := hf2.cell (j := k * 6 + 3) (by omega)
      have hz3 := hf2.frozen (k * 6 + 3)
      obtain ⟨u4, hu4⟩ := hf2.cell (j := k * 6 + 4) (by omega)
      have hz4 := hf2.frozen (k * 6 + 4)
      obtain ⟨u5, hu5⟩ := hf2.cell (j := k * 6 + 5) (by omega)
      have hz5 := hf2.frozen (k * 6 + 5)
      go_wp2
      have HL : ((xs.take k).flatMap fGate.enc).length = k * 6 := flat_take_len (E := fGate) hk
      have hq0 := hf2.put_at (p := k * 6) (by simp [HL]) (by omega) (.string xs[k].id)
      have hq1 := hq0.put_at (p := k * 6 + 1) (by simp [HL]) (by omega) (.int .i64 xs[k].shut)
      have hq2 := hq1.put_at (p := k * 6 + 2) (by simp [HL]) (by omega) (.int .i64 xs[k].open_)
      have hq3 := hq2.put_at (p := k * 6 + 3) (by simp [HL]) (by omega) (.int .i64 xs[k].hold)
      have hq4 := hq3.put_at (p := k * 6 + 4) (by simp [HL]) (by omega) (.bool xs[k].shuts)
      have hq5 := hq4.put_at (p := k * 6 + 5) (by simp [HL]) (by omega) (.int .i64 xs[k].calm)
      go_roundw
      case rel => exact ⟨k + 1, by omega, by go_num, by rw [flat_take_step hlt]; simpa [fGate, List.append_assoc] using hq5, (((((((hb.trans (hb2.mono hb.size)).setCell (Nat.le_refl _) _).setCell (Nat.le_refl _) _).setCell (Nat.le_refl _) _).setCell (Nat.le_refl _) _).setCell (Nat.le_refl _) _).setCell (Nat.le_refl _) _)⟩
      case measure => simp [intOf]; omega
    · have hk' : k = xs.length := by omega
      subst hk'
      rw [List.take_length] at hf
      go_wp2
      go_ret
      exact ⟨_, rfl, Sl.of_own rfl (hf.done (flat_len _ 6 _ (fun _ _ => rfl))) hx.oks, hb⟩

set_option maxRecDepth 100000 in
set_option maxHeartbeats 1000000 in
theorem eqGateS_any (v v' : Value) (xs : List DGate) (fp fp' : List Nat) (w : World) (hx : Sl fGate.cod w v xs fp) (hy : Sl fGate.cod w v' xs fp') :
    Calls Try.prog 32 #[v, v'] w fun e w' => YesR w e w' := by
  obtain ⟨A, cap, rfl, hlen, hcap⟩ := hx.form
  obtain ⟨A', cap', rfl, hlen', hcap'⟩ := hy.form
  go_enter Try.func32, Try.ntmps32
  go_wp2
  go_loopw [5] (fun i wr => ∃ k : Nat, k ≤ xs.length ∧ i = .int .i64 k ∧ Below w.heap.size w wr) (fun i _ => xs.length - (intOf i).toNat)
  case atStart => exact ⟨0, Nat.zero_le _, rfl, Below.refl _ _⟩
  case round =>
    obtain ⟨k, hk, rfl, hb⟩ := hrel
    by_cases hlt : k < xs.length
    · obtain ⟨b, off, rfl, _, hok, hc, _⟩ := (hx.below' hb).at_ hlt
      obtain ⟨b', off', rfl, _, hok', hd, _⟩ := (hy.below' hb).at_ hlt
      have hc0 : wr.cell? ⟨b, off + k * 6, none⟩ = some (.string xs[k].id) := by have := hc 0 (by decide); exact this
      have hc1 : wr.cell? ⟨b, off + k * 6 + 1, none⟩ = some (.int .i64 xs[k].shut) := by have := hc 1 (by decide); exact this
      have hc2 : wr.cell? ⟨b, off + k * 6 + 2, none⟩ = some (.int .i64 xs[k].open_) := by have := hc 2 (by decide); exact this
      have hc3 : wr.cell? ⟨b, off + k * 6 + 3, none⟩ = some (.int .i64 xs[k].hold) := by have := hc 3 (by decide); exact this
      have hc4 : wr.cell? ⟨b, off + k * 6 + 4, none⟩ = some (.bool xs[k].shuts) := by have := hc 4 (by decide); exact this
      have hc5 : wr.cell? ⟨b, off + k * 6 + 5, none⟩ = some (.int .i64 xs[k].calm) := by have := hc 5 (by decide); exact this
      have hd0 : wr.cell? ⟨b', off' + k * 6, none⟩ = some (.string xs[k].id) := by have := hd 0 (by decide); exact this
      have hd1 : wr.cell? ⟨b', off' + k * 6 + 1, none⟩ = some (.int .i64 xs[k].shut) := by have := hd 1 (by decide); exact this
      have hd2 : wr.cell? ⟨b', off' + k * 6 + 2, none⟩ = some (.int .i64 xs[k].open_) := by have := hd 2 (by decide); exact this
      have hd3 : wr.cell? ⟨b', off' + k * 6 + 3, none⟩ = some (.int .i64 xs[k].hold) := by have := hd 3 (by decide); exact this
      have hd4 : wr.cell? ⟨b', off' + k * 6 + 4, none⟩ = some (.bool xs[k].shuts) := by have := hd 4 (by decide); exact this
      have hd5 : wr.cell? ⟨b', off' + k * 6 + 5, none⟩ = some (.int .i64 xs[k].calm) := by have := hd 5 (by decide); exact this
      have gc0 := cell_regrown hc0
      have gc1 := cell_regrown hc1
      have gc2 := cell_regrown hc2
      have gc3 := cell_regrown hc3
      have gc4 := cell_regrown hc4
      have gc5 := cell_regrown hc5
      have gd0 := cell_regrown hd0
      have gd1 := cell_regrown hd1
      have gd2 := cell_regrown hd2
      have gd3 := cell_regrown hd3
      have gd4 := cell_regrown hd4
      have gd5 := cell_regrown hd5
      clear hc hd hc0 hd0 hc1 hd1 hc2 hd2 hc3 hd3 hc4 hd4 hc5 hd5
      have cq : ∀ d os, Calls Try.prog 56 #[.agg #[.string xs[k].id, .int .i64 xs[k].shut, .int .i64 xs[k].open_, .int .i64 xs[k].hold, .bool xs[k].shuts, .int .i64 xs[k].calm], .agg #[.string xs[k].id, .int .i64 xs[k].shut, .int .i64 xs[k].open_, .int .i64 xs[k].hold, .bool xs[k].shuts, .int .i64 xs[k].calm]] (Go.Sort.grow (redrawn wr d) os) fun e w'' => e = .returned (.bool true) ∧ ∃ p : Regrown, w'' = Go.Sort.grow (redrawn wr p.d) p.os := fun d os => Calls.regrown_of (eqGate_any xs[k] _)
      go_wp2
      refine wp_region_quiet_below (by kernel_rfl) (by kernel_rfl) ?_
      repeat (quiet_step (exact cq _ _))
      refine wpQuiet_nil ?_
      intro _ hw'
      obtain ⟨⟨dq, osq⟩, hw''⟩ := hw'
      subst hw''
      have hbq := below_regrown wr dq osq
      clear gc0 gd0 cq
      generalize Go.Sort.grow (redrawn wr dq) osq = wq at *
      go_wp2
      go_roundw
      case rel => exact ⟨k + 1, by omega, by go_num, hb.trans (hbq.mono hb.size)⟩
      case measure => simp [intOf]; omega
    · go_wp2
      go_ret
      exact ⟨rfl, hb⟩

def mkGate (k : Int) : DGate := ⟨mt (k), k + 1, k + 1 + 1, k + 1 + 1 + 1, ((k + 1 + 1 + 1 + 1) % 3 == 0), k + 1 + 1 + 1 + 1 + 1⟩
def marksGate (k : Int) (n : Nat) : List DGate := (List.range n).map fun (i : Nat) => mkGate (k + 6 * (i : Int))

theorem marksGate_get (k0 : Int) (n i : Nat) (h : i < (marksGate k0 n).length) : (marksGate k0 n)[i] = mkGate (k0 + 6 * (i : Int)) := by
  simp [marksGate]
theorem marksGate_len (k0 : Int) (n : Nat) : (marksGate k0 n).length = n := by simp [marksGate]



end Go.Proofs.Ytpebibegdeioeaa
