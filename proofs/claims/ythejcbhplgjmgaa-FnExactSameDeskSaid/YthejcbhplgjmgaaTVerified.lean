/- Verified: the data, its cells; the given helpers over it. Written by wip/gentype.py. -/
import Derived.Test.YthejcbhplgjmgaaMark
namespace Go.Proofs.Ythejcbhplgjmgaa
open Go.RowKit
set_option linter.unusedVariables false

structure DVerified where
  day : Int
  told : Int
  seen : Int
  deriving DecidableEq

def fVerified : Flat DVerified where
  n := 3
  enc := fun x => [.int .i64 x.day, .int .i64 x.told, .int .i64 x.seen]
  ok := fun x => fInt.ok x.day ∧ fInt.ok x.told ∧ fInt.ok x.seen
  pos := by omega
  len := fun _ => rfl
  one := by intro x v hv; simp at hv; rcases hv with rfl | rfl | rfl <;> rfl

def totVerifiedS (xs : List DVerified) : Nat := xs.length

set_option maxRecDepth 100000 in
set_option maxHeartbeats 400000 in
theorem szVerifiedS_any (v : Value) (xs : List DVerified) (fp : List Nat) (left : Int) (w : World) (hx : Sl fVerified.cod w v xs fp) (h0 : 0 ≤ left) (h1 : left ≤ 1048576) :
    Calls Try.prog 55 #[v, .int .i64 left] w fun e w' => SzR left (totVerifiedS xs) w e w' := by
  obtain ⟨A, cap, rfl, hlen, hcap⟩ := hx.form
  by_cases hl : left - (xs.length : Int) < 0
  · go_enter Try.func55, Try.ntmps55
    go_wp2
    go_ret
    exact .no (Below.refl _ _)
  · go_enter Try.func55, Try.ntmps55
    go_wp2
    go_ret
    exact .yes (by omega) (by unfold totVerifiedS; omega) (Below.refl _ _)

set_option maxRecDepth 100000 in
set_option maxHeartbeats 1000000 in
theorem toVerified_any (x : DVerified) (w : World) :
    Calls Try.prog 148 #[.agg #[.int .i64 x.day, .int .i64 x.told, .int .i64 x.seen]] w fun e w' => e = .returned (.agg #[.int .i64 x.day, .int .i64 x.told, .int .i64 x.seen]) ∧ Below w.heap.size w w' := by
  go_enter Try.func148, Try.ntmps148
  go_wp2
  exact bodyPost_ret (v := .agg #[.int .i64 x.day, .int .i64 x.told, .int .i64 x.seen]) (by simp [results, Try.results148, go_sem]) rfl ⟨rfl, (by repeat (first | exact Below.refl _ _ | assumption | refine Below.alloc ?_ (by first | omega | (simp <;> omega)) _ | refine Below.setCell ?_ (by first | (show _ ≤ _; omega) | (simp <;> omega)) _ | refine Below.drew ?_ | refine below_drewN ?_ _))⟩
set_option maxRecDepth 100000 in
set_option maxHeartbeats 1000000 in
theorem eqVerified_any (x : DVerified) (w : World) :
    Calls Try.prog 160 #[.agg #[.int .i64 x.day, .int .i64 x.told, .int .i64 x.seen], .agg #[.int .i64 x.day, .int .i64 x.told, .int .i64 x.seen]] w fun e w' => e = .returned (.bool true) ∧ Below w.heap.size w w' := by
  go_enter Try.func160, Try.ntmps160
  go_wp2
  go_ret
  exact ⟨rfl, (by repeat (first | exact Below.refl _ _ | assumption | refine Below.alloc ?_ (by first | omega | (simp <;> omega)) _ | refine Below.setCell ?_ (by first | (show _ ≤ _; omega) | (simp <;> omega)) _ | refine Below.drew ?_ | refine below_drewN ?_ _))⟩

theorem infoVerified : (Try.prog.info? 125).map (fun i => (i.zero, i.size, i.bytes)) = some (some (.agg #[.int .i64 0, .int .i64 0, .int .i64 0]), 3, 24) := by kernel_rfl
set_option maxRecDepth 100000 in
set_option maxHeartbeats 1000000 in
theorem toVerifiedS_any (v : Value) (xs : List DVerified) (fp : List Nat) (w : World) (hx : Sl fVerified.cod w v xs fp) (h1 : xs.length ≤ 1048576) :
    Calls Try.prog 69 #[v] w fun e w' => NewR fVerified.cod w xs e w' := by
  obtain ⟨A, cap, rfl, hlen, hcap⟩ := hx.form
  obtain ⟨i0, hi, hz0, hz1, hz2⟩ := info_parts infoVerified
  have hmk := fun W => run_make_rowN (P := Try.prog) 45 125 i0 _ Try.underlying45 hi hz0 .i64 .i64 xs.length xs.length (Nat.le_refl _) (by rw [hz2]; omega) (by omega) W
  rw [hz1] at hmk
  go_enter Try.func69, Try.ntmps69
  go_wp2
  go_loopw [4] (fun i wr => ∃ k : Nat, k ≤ xs.length ∧ i = .int .i64 k ∧ Fill wr w.heap.size w.heap.size 125 3 xs.length ((xs.take k).flatMap fVerified.enc) ∧ Below w.heap.size w wr) (fun i _ => xs.length - (intOf i).toNat)
  case atStart => exact ⟨0, Nat.zero_le _, rfl, Fill.start w _ _ _ _ (by omega), (Below.refl _ _).alloc (Nat.le_refl _) _⟩
  case round =>
    obtain ⟨k, hk, rfl, hf, hb⟩ := hrel
    by_cases hlt : k < xs.length
    · obtain ⟨b, off, rfl, _, hok, hc, _⟩ := (hx.below' hb).at_ hlt
      have hc0 : wr.cell? ⟨b, off + k * 3, none⟩ = some (.int .i64 xs[k].day) := by have := hc 0 (by decide); exact this
      have hc1 : wr.cell? ⟨b, off + k * 3 + 1, none⟩ = some (.int .i64 xs[k].told) := by have := hc 1 (by decide); exact this
      have hc2 : wr.cell? ⟨b, off + k * 3 + 2, none⟩ = some (.int .i64 xs[k].seen) := by have := hc 2 (by decide); exact this
      clear hc
      go_wp2_with fail
      refine (toVerified_any xs[k] _).mono ?_
      rintro e w2 ⟨rfl, hb2⟩
      have hgl := hf.lt
      have hf2 := hf.below hb2 hgl
      clear hf hc0 hc1 hc2
      obtain ⟨u0, hu0⟩ := hf2.cell (j := k * 3) (by omega)
      have hz0 := hf2.frozen (k * 3)
      obtain ⟨u1, hu1⟩ := hf2.cell (j := k * 3 + 1) (by omega)
      have hz1 := hf2.frozen (k * 3 + 1)
      obtain ⟨u2, hu2⟩ := hf2.cell (j := k * 3 + 2) (by omega)
      have hz2 := hf2.frozen (k * 3 + 2)
      go_wp2
      have HL : ((xs.take k).flatMap fVerified.enc).length = k * 3 := flat_take_len (E := fVerified) hk
      have hq0 := hf2.put_at (p := k * 3) (by simp [HL]) (by omega) (.int .i64 xs[k].day)
      have hq1 := hq0.put_at (p := k * 3 + 1) (by simp [HL]) (by omega) (.int .i64 xs[k].told)
      have hq2 := hq1.put_at (p := k * 3 + 2) (by simp [HL]) (by omega) (.int .i64 xs[k].seen)
      go_roundw
      case rel => exact ⟨k + 1, by omega, by go_num, by rw [flat_take_step hlt]; simpa [fVerified, List.append_assoc] using hq2, ((((hb.trans (hb2.mono hb.size)).setCell (Nat.le_refl _) _).setCell (Nat.le_refl _) _).setCell (Nat.le_refl _) _)⟩
      case measure => simp [intOf]; omega
    · have hk' : k = xs.length := by omega
      subst hk'
      rw [List.take_length] at hf
      go_wp2
      go_ret
      exact ⟨_, rfl, Sl.of_own rfl (hf.done (flat_len _ 3 _ (fun _ _ => rfl))) hx.oks, hb⟩

set_option maxRecDepth 100000 in
set_option maxHeartbeats 1000000 in
theorem eqVerifiedS_any (v v' : Value) (xs : List DVerified) (fp fp' : List Nat) (w : World) (hx : Sl fVerified.cod w v xs fp) (hy : Sl fVerified.cod w v' xs fp') :
    Calls Try.prog 92 #[v, v'] w fun e w' => YesR w e w' := by
  obtain ⟨A, cap, rfl, hlen, hcap⟩ := hx.form
  obtain ⟨A', cap', rfl, hlen', hcap'⟩ := hy.form
  go_enter Try.func92, Try.ntmps92
  go_wp2
  go_loopw [5] (fun i wr => ∃ k : Nat, k ≤ xs.length ∧ i = .int .i64 k ∧ Below w.heap.size w wr) (fun i _ => xs.length - (intOf i).toNat)
  case atStart => exact ⟨0, Nat.zero_le _, rfl, Below.refl _ _⟩
  case round =>
    obtain ⟨k, hk, rfl, hb⟩ := hrel
    by_cases hlt : k < xs.length
    · obtain ⟨b, off, rfl, _, hok, hc, _⟩ := (hx.below' hb).at_ hlt
      obtain ⟨b', off', rfl, _, hok', hd, _⟩ := (hy.below' hb).at_ hlt
      have hc0 : wr.cell? ⟨b, off + k * 3, none⟩ = some (.int .i64 xs[k].day) := by have := hc 0 (by decide); exact this
      have hc1 : wr.cell? ⟨b, off + k * 3 + 1, none⟩ = some (.int .i64 xs[k].told) := by have := hc 1 (by decide); exact this
      have hc2 : wr.cell? ⟨b, off + k * 3 + 2, none⟩ = some (.int .i64 xs[k].seen) := by have := hc 2 (by decide); exact this
      have hd0 : wr.cell? ⟨b', off' + k * 3, none⟩ = some (.int .i64 xs[k].day) := by have := hd 0 (by decide); exact this
      have hd1 : wr.cell? ⟨b', off' + k * 3 + 1, none⟩ = some (.int .i64 xs[k].told) := by have := hd 1 (by decide); exact this
      have hd2 : wr.cell? ⟨b', off' + k * 3 + 2, none⟩ = some (.int .i64 xs[k].seen) := by have := hd 2 (by decide); exact this
      have gc0 := cell_regrown hc0
      have gc1 := cell_regrown hc1
      have gc2 := cell_regrown hc2
      have gd0 := cell_regrown hd0
      have gd1 := cell_regrown hd1
      have gd2 := cell_regrown hd2
      clear hc hd hc0 hd0 hc1 hd1 hc2 hd2
      have cq : ∀ d os, Calls Try.prog 160 #[.agg #[.int .i64 xs[k].day, .int .i64 xs[k].told, .int .i64 xs[k].seen], .agg #[.int .i64 xs[k].day, .int .i64 xs[k].told, .int .i64 xs[k].seen]] (Go.Sort.grow (redrawn wr d) os) fun e w'' => e = .returned (.bool true) ∧ ∃ p : Regrown, w'' = Go.Sort.grow (redrawn wr p.d) p.os := fun d os => Calls.regrown_of (eqVerified_any xs[k] _)
      go_wp2
      refine wp_region_quiet_below (by kernel_rfl) (by kernel_rfl) ?_
      repeat (quiet_step (exact cq _ _))
      refine wpQuiet_nil ?_
      intro _ hw'
      obtain ⟨⟨dq, osq⟩, hw''⟩ := hw'
      subst hw''
      have hbq := below_regrown wr dq osq
      clear gc0 gd0 cq
      generalize Go.Sort.grow (redrawn wr dq) osq = wq at *
      go_wp2
      go_roundw
      case rel => exact ⟨k + 1, by omega, by go_num, hb.trans (hbq.mono hb.size)⟩
      case measure => simp [intOf]; omega
    · go_wp2
      go_ret
      exact ⟨rfl, hb⟩

def mkVerified (k : Int) : DVerified := ⟨k, k + 1, k + 1 + 1⟩
def marksVerified (k : Int) (n : Nat) : List DVerified := (List.range n).map fun (i : Nat) => mkVerified (k + 3 * (i : Int))

theorem marksVerified_get (k0 : Int) (n i : Nat) (h : i < (marksVerified k0 n).length) : (marksVerified k0 n)[i] = mkVerified (k0 + 3 * (i : Int)) := by
  simp [marksVerified]
theorem marksVerified_len (k0 : Int) (n : Nat) : (marksVerified k0 n).length = n := by simp [marksVerified]



end Go.Proofs.Ythejcbhplgjmgaa
