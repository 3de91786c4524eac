/- Observed: the data, its cells; the given helpers over it. Written by wip/gentype.py. -/
import Derived.Test.YthejcbhplgjmgaaMark
namespace Go.Proofs.Ythejcbhplgjmgaa
open Go.RowKit
set_option linter.unusedVariables false

structure DObserved where
  hour : Int
  snow : Int
  degrees : Int
  wind : Int
  deriving DecidableEq

def fObserved : Flat DObserved where
  n := 4
  enc := fun x => [.int .i64 x.hour, .int .i64 x.snow, .int .i64 x.degrees, .int .i64 x.wind]
  ok := fun x => fInt.ok x.hour ∧ fInt.ok x.snow ∧ fInt.ok x.degrees ∧ fInt.ok x.wind
  pos := by omega
  len := fun _ => rfl
  one := by intro x v hv; simp at hv; rcases hv with rfl | rfl | rfl | rfl <;> rfl

def totObservedS (xs : List DObserved) : Nat := xs.length

set_option maxRecDepth 100000 in
set_option maxHeartbeats 400000 in
theorem szObservedS_any (v : Value) (xs : List DObserved) (fp : List Nat) (left : Int) (w : World) (hx : Sl fObserved.cod w v xs fp) (h0 : 0 ≤ left) (h1 : left ≤ 1048576) :
    Calls Try.prog 48 #[v, .int .i64 left] w fun e w' => SzR left (totObservedS xs) w e w' := by
  obtain ⟨A, cap, rfl, hlen, hcap⟩ := hx.form
  by_cases hl : left - (xs.length : Int) < 0
  · go_enter Try.func48, Try.ntmps48
    go_wp2
    go_ret
    exact .no (Below.refl _ _)
  · go_enter Try.func48, Try.ntmps48
    go_wp2
    go_ret
    exact .yes (by omega) (by unfold totObservedS; omega) (Below.refl _ _)

set_option maxRecDepth 100000 in
set_option maxHeartbeats 1000000 in
theorem toObserved_any (x : DObserved) (w : World) :
    Calls Try.prog 143 #[.agg #[.int .i64 x.hour, .int .i64 x.snow, .int .i64 x.degrees, .int .i64 x.wind]] w fun e w' => e = .returned (.agg #[.int .i64 x.hour, .int .i64 x.snow, .int .i64 x.degrees, .int .i64 x.wind]) ∧ Below w.heap.size w w' := by
  go_enter Try.func143, Try.ntmps143
  go_wp2
  exact bodyPost_ret (v := .agg #[.int .i64 x.hour, .int .i64 x.snow, .int .i64 x.degrees, .int .i64 x.wind]) (by simp [results, Try.results143, go_sem]) rfl ⟨rfl, (by repeat (first | exact Below.refl _ _ | assumption | refine Below.alloc ?_ (by first | omega | (simp <;> omega)) _ | refine Below.setCell ?_ (by first | (show _ ≤ _; omega) | (simp <;> omega)) _ | refine Below.drew ?_ | refine below_drewN ?_ _))⟩
set_option maxRecDepth 100000 in
set_option maxHeartbeats 1000000 in
theorem eqObserved_any (x : DObserved) (w : World) :
    Calls Try.prog 155 #[.agg #[.int .i64 x.hour, .int .i64 x.snow, .int .i64 x.degrees, .int .i64 x.wind], .agg #[.int .i64 x.hour, .int .i64 x.snow, .int .i64 x.degrees, .int .i64 x.wind]] w fun e w' => e = .returned (.bool true) ∧ Below w.heap.size w w' := by
  go_enter Try.func155, Try.ntmps155
  go_wp2
  go_ret
  exact ⟨rfl, (by repeat (first | exact Below.refl _ _ | assumption | refine Below.alloc ?_ (by first | omega | (simp <;> omega)) _ | refine Below.setCell ?_ (by first | (show _ ≤ _; omega) | (simp <;> omega)) _ | refine Below.drew ?_ | refine below_drewN ?_ _))⟩

theorem infoObserved : (Try.prog.info? 117).map (fun i => (i.zero, i.size, i.bytes)) = some (some (.agg #[.int .i64 0, .int .i64 0, .int .i64 0, .int .i64 0]), 4, 32) := by kernel_rfl
set_option maxRecDepth 100000 in
set_option maxHeartbeats 1000000 in
theorem toObservedS_any (v : Value) (xs : List DObserved) (fp : List Nat) (w : World) (hx : Sl fObserved.cod w v xs fp) (h1 : xs.length ≤ 1048576) :
    Calls Try.prog 62 #[v] w fun e w' => NewR fObserved.cod w xs e w' := by
  obtain ⟨A, cap, rfl, hlen, hcap⟩ := hx.form
  obtain ⟨i0, hi, hz0, hz1, hz2⟩ := info_parts infoObserved
  have hmk := fun W => run_make_rowN (P := Try.prog) 39 117 i0 _ Try.underlying39 hi hz0 .i64 .i64 xs.length xs.length (Nat.le_refl _) (by rw [hz2]; omega) (by omega) W
  rw [hz1] at hmk
  go_enter Try.func62, Try.ntmps62
  go_wp2
  go_loopw [4] (fun i wr => ∃ k : Nat, k ≤ xs.length ∧ i = .int .i64 k ∧ Fill wr w.heap.size w.heap.size 117 4 xs.length ((xs.take k).flatMap fObserved.enc) ∧ Below w.heap.size w wr) (fun i _ => xs.length - (intOf i).toNat)
  case atStart => exact ⟨0, Nat.zero_le _, rfl, Fill.start w _ _ _ _ (by omega), (Below.refl _ _).alloc (Nat.le_refl _) _⟩
  case round =>
    obtain ⟨k, hk, rfl, hf, hb⟩ := hrel
    by_cases hlt : k < xs.length
    · obtain ⟨b, off, rfl, _, hok, hc, _⟩ := (hx.below' hb).at_ hlt
      have hc0 : wr.cell? ⟨b, off + k * 4, none⟩ = some (.int .i64 xs[k].hour) := by have := hc 0 (by decide); exact this
      have hc1 : wr.cell? ⟨b, off + k * 4 + 1, none⟩ = some (.int .i64 xs[k].snow) := by have := hc 1 (by decide); exact this
      have hc2 : wr.cell? ⟨b, off + k * 4 + 2, none⟩ = some (.int .i64 xs[k].degrees) := by have := hc 2 (by decide); exact this
      have hc3 : wr.cell? ⟨b, off + k * 4 + 3, none⟩ = some (.int .i64 xs[k].wind) := by have := hc 3 (by decide); exact this
      clear hc
      go_wp2_with fail
      refine (toObserved_any xs[k] _).mono ?_
      rintro e w2 ⟨rfl, hb2⟩
      have hgl := hf.lt
      have hf2 := hf.below hb2 hgl
      clear hf hc0 hc1 hc2 hc3
      obtain ⟨u0, hu0⟩ := hf2.cell (j := k * 4) (by omega)
      have hz0 := hf2.frozen (k * 4)
      obtain ⟨u1, hu1⟩ := hf2.cell (j := k * 4 + 1) (by omega)
      have hz1 := hf2.frozen (k * 4 + 1)
      obtain ⟨u2, hu2⟩ := hf2.cell (j := k * 4 + 2) (by omega)
      have hz2 := hf2.frozen (k * 4 + 2)
      obtain ⟨u3, hu3⟩ := hf2.cell (j := k * 4 + 3) (by omega)
      have hz3 := hf2.frozen (k * 4 + 3)
      go_wp2
      have HL : ((xs.take k).flatMap fObserved.enc).length = k * 4 := flat_take_len (E := fObserved) hk
      have hq0 := hf2.put_at (p := k * 4) (by simp [HL]) (by omega) (.int .i64 xs[k].hour)
      have hq1 := hq0.put_at (p := k * 4 + 1) (by simp [HL]) (by omega) (.int .i64 xs[k].snow)
      have hq2 := hq1.put_at (p := k * 4 + 2) (by simp [HL]) (by omega) (.int .i64 xs[k].degrees)
      have hq3 := hq2.put_at (p := k * 4 + 3) (by simp [HL]) (by omega) (.int .i64 xs[k].wind)
      go_roundw
      case rel => exact ⟨k + 1, by omega, by go_num, by rw [flat_take_step hlt]; simpa [fObserved, List.append_assoc] using hq3, (((((hb.trans (hb2.mono hb.size)).setCell (Nat.le_refl _) _).setCell (Nat.le_refl _) _).setCell (Nat.le_refl _) _).setCell (Nat.le_refl _) _)⟩
      case measure => simp [intOf]; omega
    · have hk' : k = xs.length := by omega
      subst hk'
      rw [List.take_length] at hf
      go_wp2
      go_ret
      exact ⟨_, rfl, Sl.of_own rfl (hf.done (flat_len _ 4 _ (fun _ _ => rfl))) hx.oks, hb⟩

set_option maxRecDepth 100000 in
set_option maxHeartbeats 1000000 in
theorem eqObservedS_any (v v' : Value) (xs : List DObserved) (fp fp' : List Nat) (w : World) (hx : Sl fObserved.cod w v xs fp) (hy : Sl fObserved.cod w v' xs fp') :
    Calls Try.prog 85 #[v, v'] w fun e w' => YesR w e w' := by
  obtain ⟨A, cap, rfl, hlen, hcap⟩ := hx.form
  obtain ⟨A', cap', rfl, hlen', hcap'⟩ := hy.form
  go_enter Try.func85, Try.ntmps85
  go_wp2
  go_loopw [5] (fun i wr => ∃ k : Nat, k ≤ xs.length ∧ i = .int .i64 k ∧ Below w.heap.size w wr) (fun i _ => xs.length - (intOf i).toNat)
  case atStart => exact ⟨0, Nat.zero_le _, rfl, Below.refl _ _⟩
  case round =>
    obtain ⟨k, hk, rfl, hb⟩ := hrel
    by_cases hlt : k < xs.length
    · obtain ⟨b, off, rfl, _, hok, hc, _⟩ := (hx.below' hb).at_ hlt
      obtain ⟨b', off', rfl, _, hok', hd, _⟩ := (hy.below' hb).at_ hlt
      have hc0 : wr.cell? ⟨b, off + k * 4, none⟩ = some (.int .i64 xs[k].hour) := by have := hc 0 (by decide); exact this
      have hc1 : wr.cell? ⟨b, off + k * 4 + 1, none⟩ = some (.int .i64 xs[k].snow) := by have := hc 1 (by decide); exact this
      have hc2 : wr.cell? ⟨b, off + k * 4 + 2, none⟩ = some (.int .i64 xs[k].degrees) := by have := hc 2 (by decide); exact this
      have hc3 : wr.cell? ⟨b, off + k * 4 + 3, none⟩ = some (.int .i64 xs[k].wind) := by have := hc 3 (by decide); exact this
      have hd0 : wr.cell? ⟨b', off' + k * 4, none⟩ = some (.int .i64 xs[k].hour) := by have := hd 0 (by decide); exact this
      have hd1 : wr.cell? ⟨b', off' + k * 4 + 1, none⟩ = some (.int .i64 xs[k].snow) := by have := hd 1 (by decide); exact this
      have hd2 : wr.cell? ⟨b', off' + k * 4 + 2, none⟩ = some (.int .i64 xs[k].degrees) := by have := hd 2 (by decide); exact this
      have hd3 : wr.cell? ⟨b', off' + k * 4 + 3, none⟩ = some (.int .i64 xs[k].wind) := by have := hd 3 (by decide); exact this
      have gc0 := cell_regrown hc0
      have gc1 := cell_regrown hc1
      have gc2 := cell_regrown hc2
      have gc3 := cell_regrown hc3
      have gd0 := cell_regrown hd0
      have gd1 := cell_regrown hd1
      have gd2 := cell_regrown hd2
      have gd3 := cell_regrown hd3
      clear hc hd hc0 hd0 hc1 hd1 hc2 hd2 hc3 hd3
      have cq : ∀ d os, Calls Try.prog 155 #[.agg #[.int .i64 xs[k].hour, .int .i64 xs[k].snow, .int .i64 xs[k].degrees, .int .i64 xs[k].wind], .agg #[.int .i64 xs[k].hour, .int .i64 xs[k].snow, .int .i64 xs[k].degrees, .int .i64 xs[k].wind]] (Go.Sort.grow (redrawn wr d) os) fun e w'' => e = .returned (.bool true) ∧ ∃ p : Regrown, w'' = Go.Sort.grow (redrawn wr p.d) p.os := fun d os => Calls.regrown_of (eqObserved_any xs[k] _)
      go_wp2
      refine wp_region_quiet_below (by kernel_rfl) (by kernel_rfl) ?_
      repeat (quiet_step (exact cq _ _))
      refine wpQuiet_nil ?_
      intro _ hw'
      obtain ⟨⟨dq, osq⟩, hw''⟩ := hw'
      subst hw''
      have hbq := below_regrown wr dq osq
      clear gc0 gd0 cq
      generalize Go.Sort.grow (redrawn wr dq) osq = wq at *
      go_wp2
      go_roundw
      case rel => exact ⟨k + 1, by omega, by go_num, hb.trans (hbq.mono hb.size)⟩
      case measure => simp [intOf]; omega
    · go_wp2
      go_ret
      exact ⟨rfl, hb⟩

def mkObserved (k : Int) : DObserved := ⟨k, k + 1, k + 1 + 1, k + 1 + 1 + 1⟩
def marksObserved (k : Int) (n : Nat) : List DObserved := (List.range n).map fun (i : Nat) => mkObserved (k + 4 * (i : Int))

theorem marksObserved_get (k0 : Int) (n i : Nat) (h : i < (marksObserved k0 n).length) : (marksObserved k0 n)[i] = mkObserved (k0 + 4 * (i : Int)) := by
  simp [marksObserved]
theorem marksObserved_len (k0 : Int) (n : Nat) : (marksObserved k0 n).length = n := by simp [marksObserved]



end Go.Proofs.Ythejcbhplgjmgaa
