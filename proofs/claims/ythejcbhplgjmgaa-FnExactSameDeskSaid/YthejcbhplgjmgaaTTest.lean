/- Test: the data, its cells; the given helpers over it. Written by wip/gentype.py. -/
import Derived.Test.YthejcbhplgjmgaaMark
namespace Go.Proofs.Ythejcbhplgjmgaa
open Go.RowKit
set_option linter.unusedVariables false

structure DTest where
  kind : Int
  score : Int
  quality : Int
  depth : Int
  hour : Int
  deriving DecidableEq

def fTest : Flat DTest where
  n := 5
  enc := fun x => [.int .i64 x.kind, .int .i64 x.score, .int .i64 x.quality, .int .i64 x.depth, .int .i64 x.hour]
  ok := fun x => fInt.ok x.kind ∧ fInt.ok x.score ∧ fInt.ok x.quality ∧ fInt.ok x.depth ∧ fInt.ok x.hour
  pos := by omega
  len := fun _ => rfl
  one := by intro x v hv; simp at hv; rcases hv with rfl | rfl | rfl | rfl | rfl <;> rfl

def totTestS (xs : List DTest) : Nat := xs.length

set_option maxRecDepth 100000 in
set_option maxHeartbeats 400000 in
theorem szTestS_any (v : Value) (xs : List DTest) (fp : List Nat) (left : Int) (w : World) (hx : Sl fTest.cod w v xs fp) (h0 : 0 ≤ left) (h1 : left ≤ 1048576) :
    Calls Try.prog 50 #[v, .int .i64 left] w fun e w' => SzR left (totTestS xs) w e w' := by
  obtain ⟨A, cap, rfl, hlen, hcap⟩ := hx.form
  by_cases hl : left - (xs.length : Int) < 0
  · go_enter Try.func50, Try.ntmps50
    go_wp2
    go_ret
    exact .no (Below.refl _ _)
  · go_enter Try.func50, Try.ntmps50
    go_wp2
    go_ret
    exact .yes (by omega) (by unfold totTestS; omega) (Below.refl _ _)

set_option maxRecDepth 100000 in
set_option maxHeartbeats 1000000 in
theorem toTest_any (x : DTest) (w : World) :
    Calls Try.prog 144 #[.agg #[.int .i64 x.kind, .int .i64 x.score, .int .i64 x.quality, .int .i64 x.depth, .int .i64 x.hour]] w fun e w' => e = .returned (.agg #[.int .i64 x.kind, .int .i64 x.score, .int .i64 x.quality, .int .i64 x.depth, .int .i64 x.hour]) ∧ Below w.heap.size w w' := by
  go_enter Try.func144, Try.ntmps144
  go_wp2
  exact bodyPost_ret (v := .agg #[.int .i64 x.kind, .int .i64 x.score, .int .i64 x.quality, .int .i64 x.depth, .int .i64 x.hour]) (by simp [results, Try.results144, go_sem]) rfl ⟨rfl, (by repeat (first | exact Below.refl _ _ | assumption | refine Below.alloc ?_ (by first | omega | (simp <;> omega)) _ | refine Below.setCell ?_ (by first | (show _ ≤ _; omega) | (simp <;> omega)) _ | refine Below.drew ?_ | refine below_drewN ?_ _))⟩
set_option maxRecDepth 100000 in
set_option maxHeartbeats 1000000 in
theorem eqTest_any (x : DTest) (w : World) :
    Calls Try.prog 156 #[.agg #[.int .i64 x.kind, .int .i64 x.score, .int .i64 x.quality, .int .i64 x.depth, .int .i64 x.hour], .agg #[.int .i64 x.kind, .int .i64 x.score, .int .i64 x.quality, .int .i64 x.depth, .int .i64 x.hour]] w fun e w' => e = .returned (.bool true) ∧ Below w.heap.size w w' := by
  go_enter Try.func156, Try.ntmps156
  go_wp2
  go_ret
  exact ⟨rfl, (by repeat (first | exact Below.refl _ _ | assumption | refine Below.alloc ?_ (by first | omega | (simp <;> omega)) _ | refine Below.setCell ?_ (by first | (show _ ≤ _; omega) | (simp <;> omega)) _ | refine Below.drew ?_ | refine below_drewN ?_ _))⟩

theorem infoTest : (Try.prog.info? 119).map (fun i => (i.zero, i.size, i.bytes)) = some (some (.agg #[.int .i64 0, .int .i64 0, .int .i64 0, .int .i64 0, .int .i64 0]), 5, 40) := by kernel_rfl
set_option maxRecDepth 100000 in
set_option maxHeartbeats 1000000 in
theorem toTestS_any (v : Value) (xs : List DTest) (fp : List Nat) (w : World) (hx : Sl fTest.cod w v xs fp) (h1 : xs.length ≤ 1048576) :
    Calls Try.prog 64 #[v] w fun e w' => NewR fTest.cod w xs e w' := by
  obtain ⟨A, cap, rfl, hlen, hcap⟩ := hx.form
  obtain ⟨i0, hi, hz0, hz1, hz2⟩ := info_parts infoTest
  have hmk := fun W => run_make_rowN (P := Try.prog) 41 119 i0 _ Try.underlying41 hi hz0 .i64 .i64 xs.length xs.length (Nat.le_refl _) (by rw [hz2]; omega) (by omega) W
  rw [hz1] at hmk
  go_enter Try.func64, Try.ntmps64
  go_wp2
  go_loopw [4] (fun i wr => ∃ k : Nat, k ≤ xs.length ∧ i = .int .i64 k ∧ Fill wr w.heap.size w.heap.size 119 5 xs.length ((xs.take k).flatMap fTest.enc) ∧ Below w.heap.size w wr) (fun i _ => xs.length - (intOf i).toNat)
  case atStart => exact ⟨0, Nat.zero_le _, rfl, Fill.start w _ _ _ _ (by omega), (Below.refl _ _).alloc (Nat.le_refl _) _⟩
  case round =>
    obtain ⟨k, hk, rfl, hf, hb⟩ := hrel
    by_cases hlt : k < xs.length
    · obtain ⟨b, off, rfl, _, hok, hc, _⟩ := (hx.below' hb).at_ hlt
      have hc0 : wr.cell? ⟨b, off + k * 5, none⟩ = some (.int .i64 xs[k].kind) := by have := hc 0 (by decide); exact this
      have hc1 : wr.cell? ⟨b, off + k * 5 + 1, none⟩ = some (.int .i64 xs[k].score) := by have := hc 1 (by decide); exact this
      have hc2 : wr.cell? ⟨b, off + k * 5 + 2, none⟩ = some (.int .i64 xs[k].quality) := by have := hc 2 (by decide); exact this
      have hc3 : wr.cell? ⟨b, off + k * 5 + 3, none⟩ = some (.int .i64 xs[k].depth) := by have := hc 3 (by decide); exact this
      have hc4 : wr.cell? ⟨b, off + k * 5 + 4, none⟩ = some (.int .i64 xs[k].hour) := by have := hc 4 (by decide); exact this
      clear hc
      go_wp2_with fail
      refine (toTest_any xs[k] _).mono ?_
      rintro e w2 ⟨rfl, hb2⟩
      have hgl := hf.lt
      have hf2 := hf.below hb2 hgl
      clear hf hc0 hc1 hc2 hc3 hc4
      obtain ⟨u0, hu0⟩ := hf2.cell (j := k * 5) (by omega)
      have hz0 := hf2.frozen (k * 5)
      obtain ⟨u1, hu1⟩ := hf2.cell (j := k * 5 + 1) (by omega)
      have hz1 := hf2.frozen (k * 5 + 1)
      obtain ⟨u2, hu2⟩ := hf2.cell (j := k * 5 + 2) (by omega)
      have hz2 := hf2.frozen (k * 5 + 2)
      obtain ⟨u3, hu3⟩ := hf2.cell (j := k * 5 + 3) (by omega)
      have hz3 := hf2.frozen (k * 5 + 3)
      obtain ⟨u4, hu4⟩ := hf2.cell (j := k * 5 + 4) (by omega)
      have hz4 := hf2.frozen (k * 5 + 4)
      go_wp2
      have HL : ((xs.take k).flatMap fTest.enc).length = k * 5 := flat_take_len (E := fTest) hk
      have hq0 := hf2.put_at (p := k * 5) (by simp [HL]) (by omega) (.int .i64 xs[k].kind)
      have hq1 := hq0.put_at (p := k * 5 + 1) (by simp [HL]) (by omega) (.int .i64 xs[k].score)
      have hq2 := hq1.put_at (p := k * 5 + 2) (by simp [HL]) (by omega) (.int .i64 xs[k].quality)
      have hq3 := hq2.put_at (p := k * 5 + 3) (by simp [HL]) (by omega) (.int .i64 xs[k].depth)
      have hq4 := hq3.put_at (p := k * 5 + 4) (by simp [HL]) (by omega) (.int .i64 xs[k].hour)
      go_roundw
      case rel => exact ⟨k + 1, by omega, by go_num, by rw [flat_take_step hlt]; simpa [fTest, List.append_assoc] using hq4, ((((((hb.trans (hb2.mono hb.size)).setCell (Nat.le_refl _) _).setCell (Nat.le_refl _) _).setCell (Nat.le_refl _) _).setCell (Nat.le_refl _) _).setCell (Nat.le_refl _) _)⟩
      case measure => simp [intOf]; omega
    · have hk' : k = xs.length := by omega
      subst hk'
      rw [List.take_length] at hf
      go_wp2
      go_ret
      exact ⟨_, rfl, Sl.of_own rfl (hf.done (flat_len _ 5 _ (fun _ _ => rfl))) hx.oks, hb⟩

set_option maxRecDepth 100000 in
set_option maxHeartbeats 1000000 in
theorem eqTestS_any (v v' : Value) (xs : List DTest) (fp fp' : List Nat) (w : World) (hx : Sl fTest.cod w v xs fp) (hy : Sl fTest.cod w v' xs fp') :
    Calls Try.prog 87 #[v, v'] w fun e w' => YesR w e w' := by
  obtain ⟨A, cap, rfl, hlen, hcap⟩ := hx.form
  obtain ⟨A', cap', rfl, hlen', hcap'⟩ := hy.form
  go_enter Try.func87, Try.ntmps87
  go_wp2
  go_loopw [5] (fun i wr => ∃ k : Nat, k ≤ xs.length ∧ i = .int .i64 k ∧ Below w.heap.size w wr) (fun i _ => xs.length - (intOf i).toNat)
  case atStart => exact ⟨0, Nat.zero_le _, rfl, Below.refl _ _⟩
  case round =>
    obtain ⟨k, hk, rfl, hb⟩ := hrel
    by_cases hlt : k < xs.length
    · obtain ⟨b, off, rfl, _, hok, hc, _⟩ := (hx.below' hb).at_ hlt
      obtain ⟨b', off', rfl, _, hok', hd, _⟩ := (hy.below' hb).at_ hlt
      have hc0 : wr.cell? ⟨b, off + k * 5, none⟩ = some (.int .i64 xs[k].kind) := by have := hc 0 (by decide); exact this
      have hc1 : wr.cell? ⟨b, off + k * 5 + 1, none⟩ = some (.int .i64 xs[k].score) := by have := hc 1 (by decide); exact this
      have hc2 : wr.cell? ⟨b, off + k * 5 + 2, none⟩ = some (.int .i64 xs[k].quality) := by have := hc 2 (by decide); exact this
      have hc3 : wr.cell? ⟨b, off + k * 5 + 3, none⟩ = some (.int .i64 xs[k].depth) := by have := hc 3 (by decide); exact this
      have hc4 : wr.cell? ⟨b, off + k * 5 + 4, none⟩ = some (.int .i64 xs[k].hour) := by have := hc 4 (by decide); exact this
      have hd0 : wr.cell? ⟨b', off' + k * 5, none⟩ = some (.int .i64 xs[k].kind) := by have := hd 0 (by decide); exact this
      have hd1 : wr.cell? ⟨b', off' + k * 5 + 1, none⟩ = some (.int .i64 xs[k].score) := by have := hd 1 (by decide); exact this
      have hd2 : wr.cell? ⟨b', off' + k * 5 + 2, none⟩ = some (.int .i64 xs[k].quality) := by have := hd 2 (by decide); exact this
      have hd3 : wr.cell? ⟨b', off' + k * 5 + 3, none⟩ = some (.int .i64 xs[k].depth) := by have := hd 3 (by decide); exact this
      have hd4 : wr.cell? ⟨b', off' + k * 5 + 4, none⟩ = some (.int .i64 xs[k].hour) := by have := hd 4 (by decide); exact this
      have gc0 := cell_regrown hc0
      have gc1 := cell_regrown hc1
      have gc2 := cell_regrown hc2
      have gc3 := cell_regrown hc3
      have gc4 := cell_regrown hc4
      have gd0 := cell_regrown hd0
      have gd1 := cell_regrown hd1
      have gd2 := cell_regrown hd2
      have gd3 := cell_regrown hd3
      have gd4 := cell_regrown hd4
      clear hc hd hc0 hd0 hc1 hd1 hc2 hd2 hc3 hd3 hc4 hd4
      have cq : ∀ d os, Calls Try.prog 156 #[.agg #[.int .i64 xs[k].kind, .int .i64 xs[k].score, .int .i64 xs[k].quality, .int .i64 xs[k].depth, .int .i64 xs[k].hour], .agg #[.int .i64 xs[k].kind, .int .i64 xs[k].score, .int .i64 xs[k].quality, .int .i64 xs[k].depth, .int .i64 xs[k].hour]] (Go.Sort.grow (redrawn wr d) os) fun e w'' => e = .returned (.bool true) ∧ ∃ p : Regrown, w'' = Go.Sort.grow (redrawn wr p.d) p.os := fun d os => Calls.regrown_of (eqTest_any xs[k] _)
      go_wp2
      refine wp_region_quiet_below (by kernel_rfl) (by kernel_rfl) ?_
      repeat (quiet_step (exact cq _ _))
      refine wpQuiet_nil ?_
      intro _ hw'
      obtain ⟨⟨dq, osq⟩, hw''⟩ := hw'
      subst hw''
      have hbq := below_regrown wr dq osq
      clear gc0 gd0 cq
      generalize Go.Sort.grow (redrawn wr dq) osq = wq at *
      go_wp2
      go_roundw
      case rel => exact ⟨k + 1, by omega, by go_num, hb.trans (hbq.mono hb.size)⟩
      case measure => simp [intOf]; omega
    · go_wp2
      go_ret
      exact ⟨rfl, hb⟩

def mkTest (k : Int) : DTest := ⟨k, k + 1, k + 1 + 1, k + 1 + 1 + 1, k + 1 + 1 + 1 + 1⟩
def marksTest (k : Int) (n : Nat) : List DTest := (List.range n).map fun (i : Nat) => mkTest (k + 5 * (i : Int))

theorem marksTest_get (k0 : Int) (n i : Nat) (h : i < (marksTest k0 n).length) : (marksTest k0 n)[i] = mkTest (k0 + 5 * (i : Int)) := by
  simp [marksTest]
theorem marksTest_len (k0 : Int) (n : Nat) : (marksTest k0 n).length = n := by simp [marksTest]



end Go.Proofs.Ythejcbhplgjmgaa
