
/- Layer: the data, its cells; the given helpers over it. Written by wip/gentype.py. -/
import Derived.Test.YtpebibegdeioeaaMark
namespace Go.Proofs.Ytpebibegdeioeaa
open Go.RowKit
set_option linter.unusedVariables false

structure DLayer where
  form : Int
  ice : Int
  water : Int
  density : Int
  degrees : Int
  hardness : Int
  age : Int
  deriving DecidableEq

def fLayer : Flat DLayer where
  n := 7
  enc := fun x => [.int .i64 x.form, .int .i64 x.ice, .int .i64 x.water, .int .i64 x.density, .int .i64 x.degrees, .int .i64 x.hardness, .int .i64 x.age]
  ok := fun x => fInt.ok x.form ∧ fInt.ok x.ice ∧ fInt.ok x.water ∧ fInt.ok x.density ∧ fInt.ok x.degrees ∧ fInt.ok x.hardness ∧ fInt.ok x.age
  pos := by omega
  len := fun _ => rfl
  one := by intro x v hv; simp at hv; rcases hv with rfl | rfl | rfl | rfl | rfl | rfl | rfl <;> rfl

def totLayerS (xs : List DLayer) : Nat := xs.length

set_option maxRecDepth 100000 in
set_option maxHeartbeats 400000 in
theorem szLayerS_any (v : Value) (xs : List DLayer) (fp : List Nat) (left : Int) (w : World) (hx : Sl fLayer.cod w v xs fp) (h0 : 0 ≤ left) (h1 : left ≤ 1048576) :
    Calls Try.prog 11 #[v, .int .i64 left] w fun e w' => SzR left (totLayerS xs) w e w' := by
  obtain ⟨A, cap, rfl, hlen, hcap⟩ := hx.form
  by_cases hl : left - (xs.length : Int) < 0
  · go_enter Try.func11, Try.ntmps11
    go_wp2
    go_ret
    exact .no (Below.refl _ _)
  · go_enter Try.func11, Try.ntmps11
    go_wp2
    go_ret
    exact .yes (by omega) (by unfold totLayerS; omega) (Below.refl _ _)

set_option maxRecDepth 100000 in
set_option maxHeartbeats 1000000 in
theorem toLayer_any (x : DLayer) (w : World) :
    Calls Try.prog 41 #[.agg #[.int .i64 x.form, .int .i64 x.ice, .int .i64 x.water, .int .i64 x.density, .int .i64 x.degrees, .int .i64 x.hardness, .int .i64 x.age]] w fun e w' => e = .returned (.agg #[.int .i64 x.form, .int .i64 x.ice, .int .i64 x.water, .int .i64 x.density, .int .i64 x.degrees, .int .i64 x.hardness, .int .i64 x.age]) ∧ Below w.heap.size w w' := by
  go_enter Try.func41, Try.ntmps41
  go_wp2
  exact bodyPost_ret (v := .agg #[.int .i64 x.form, .int .i64 x.ice, .int .i64 x.water, .int .i64 x.density, .int .i64 x.degrees, .int .i64 x.hardness, .int .i64 x.age]) (by simp [results, Try.results41, go_sem]) rfl ⟨rfl, (by repeat (first | exact Below.refl _ _ | assumption | refine Below.alloc ?_ (by first | omega | (simp <;> omega)) _ | refine Below.setCell ?_ (by first | (show _ ≤ _; omega) | (simp <;> omega)) _ | refine Below.drew ?_ | refine below_drewN ?_ _))⟩
set_option maxRecDepth 100000 in
set_option maxHeartbeats 1000000 in
theorem eqLayer_any (x : DLayer) (w : World) :
    Calls Try.prog 54 #[.agg #[.int .i64 x.form, .int .i64 x.ice, .int .i64 x.water, .int .i64 x.density, .int .i64 x.degrees, .int .i64 x.hardness, .int .i64 x.age], .agg #[.int .i64 x.form, .int .i64 x.ice, .int .i64 x.water, .int .i64 x.density, .int .i64 x.degrees, .int .i64 x.hardness, .int .i64 x.age]] w fun e w' => e = .returned (.bool true) ∧ Below w.heap.size w w' := by
  go_enter Try.func54, Try.ntmps54
  go_wp2
  go_ret
  exact ⟨rfl, (by repeat (first | exact Below.refl _ _ | assumption | refine Below.alloc ?_ (by first | omega | (simp <;> omega)) _ | refine Below.setCell ?_ (by first | (show _ ≤ _; omega) | (simp <;> omega)) _ | refine Below.drew ?_ | refine below_drewN ?_ _))⟩

theorem infoLayer : (Try.prog.info? 83).map (fun i => (i.zero, i.size, i.bytes)) = some (some (.agg #[.int .i64 0, .int .i64 0, .int .i64 0, .int .i64 0, .int .i64 0, .int .i64 0, .int .i64 0]), 7, 56) := by kernel_rfl
set_option maxRecDepth 100000 in
set_option maxHeartbeats 1000000 in
theorem toLayerS_any (v : Value) (xs : List DLayer) (fp : List Nat) (w : World) (hx : Sl fLayer.cod w v xs fp) (h1 : xs.length ≤ 1048576) :
    Calls Try.prog 18 #[v] w fun e w' => NewR fLayer.cod w xs e w' := by
  obtain ⟨A, cap, rfl, hlen, hcap⟩ := hx.form
  obtain ⟨i0, hi, hz0, hz1, hz2⟩ := info_parts infoLayer
  have hmk := fun W => run_make_rowN (P := Try.prog) 34 83 i0 _ Try.underlying34 hi hz0 .i64 .i64 xs.length xs.length (Nat.le_refl _) (by rw [hz2]; omega) (by omega) W
  rw [hz1] at hmk
  go_enter Try.func18, Try.ntmps18
  go_wp2
  go_loopw [4] (fun i wr => ∃ k : Nat, k ≤ xs.length ∧ i = .int .i64 k ∧ Fill wr w.heap.size w.heap.size 83 7 xs.length ((xs.take k).flatMap fLayer.enc) ∧ Below w.heap.size w wr) (fun i _ => xs.length - (intOf i).toNat)
  case atStart => exact ⟨0, Nat.zero_le _, rfl, Fill.start w _ _ _ _ (by omega), (Below.refl _ _).alloc (Nat.le_refl _) _⟩
  case round =>
    obtain ⟨k, hk, rfl, hf, hb⟩ := hrel
    by_cases hlt : k < xs.length
    · obtain ⟨b, off, rfl, _, hok, hc, _⟩ := (hx.below' hb).at_ hlt
      have hc0 : wr.cell? ⟨b, off + k * 7, none⟩ = some (.int .i64 xs[k].form) := by have := hc 0 (by decide); exact this
      have hc1 : wr.cell? ⟨b, off + k * 7 + 1, none⟩ = some (.int .i64 xs[k].ice) := by have := hc 1 (by decide); exact this
      have hc2 : wr.cell? ⟨b, off + k * 7 + 2, none⟩ = some (.int .i64 xs[k].water) := by have := hc 2 (by decide); exact this
      have hc3 : wr.cell? ⟨b, off + k * 7 + 3, none⟩ = some (.int .i64 xs[k].density) := by have := hc 3 (by decide); exact this
      have hc4 : wr.cell? ⟨b, off + k * 7 + 4, none⟩ = some (.int .i64 xs[k].degrees) := by have := hc 4 (by decide); exact this
      have hc5 : wr.cell? ⟨b, off + k * 7 + 5, none⟩ = some (.int .i64 xs[k].hardness) := by have := hc 5 (by decide); exact this
      have hc6 : wr.cell? ⟨b, off + k * 7 + 6, none⟩ = some (.int .i64 xs[k].age) := by have := hc 6 (by decide); exact this
      clear hc
      go_wp2_with fail
      refine (toLayer_any xs[k] _).mono ?_
      rintro e w2 ⟨rfl, hb2⟩
      have hgl := hf.lt
      have hf2 := hf.below hb2 hgl
      clear hf hc0 hc1 hc2 hc3 hc4 hc5 hc6
      obtain ⟨u0, hu0⟩ := hf2.cell (j := k * 7) (by omega)
      have hz0 := hf2.frozen (k * 7)
      obtain ⟨u1, hu1⟩ := hf2.cell (j := k * 7 + 1) (by omega)
      have hz1 := hf2.frozen (k * 7 + 1)
      obtain ⟨u2, hu2⟩ := hf2.cell (j := k * 7 + 2) (by omega)
      have hz2 := hf2.frozen (k * 7 + 2)
      obtain ⟨u3, hu3⟩ := hf2.cell (j := k * 7 + 3) (by omega)
      have hz3 := hf2.frozen (k * 7 + 3)
      obtain ⟨u4, hu4⟩ := hf2.cell (j := k * 7 + 4) (by omega)
      have hz4 := hf2.frozen (k * 7 + 4)
      obtain ⟨u5, hu5⟩ := hf2.cell (j := k * 7 + 5) (by omega)
      have hz5 := hf2.frozen (k * 7 + 5)
      obtain ⟨u6, hu6⟩ := hf2.cell (j := k * 7 + 6) (by omega)
      have hz6 := hf2.frozen (k * 7 + 6)
      go_wp2
      have HL : ((xs.take k).flatMap fLayer.enc).length = k * 7 := flat_take_len (E := fLayer) hk
      have hq0 := hf2.put_at (p := k * 7) (by simp [HL]) (by omega) (.int .i64 xs[k].form)
      have hq1 := hq0.put_at (p := k * 7 + 1) (by simp [HL]) (by omega) (.int .i64 xs[k].ice)
      have hq2 := hq1.put_at (p := k * 7 + 2) (by simp [HL]) (by omega) (.int .i64 xs[k].water)
      have hq3 := hq2.put_at (p := k * 7 + 3) (by simp [HL]) (by omega) (.int .i64 xs[k].density)
      have hq4 := hq3.put_at (p := k * 7 + 4) (by simp [HL]) (by omega) (.int .i64 xs[k].degrees)
      have hq5 := hq4.put_at (p := k * 7 + 5) (by simp [HL]) (by omega) (.int .i64 xs[k].hardness)
      have hq6 := hq5.put_at (p := k * 7 + 6) (by simp [HL]) (by omega) (.int .i64 xs[k].age)
      go_roundw
      case rel => exact ⟨k + 1, by omega, by go_num, by rw [flat_take_step hlt]; simpa [fLayer, List.append_assoc] using hq6, ((((((((hb.trans (hb2.mono hb.size)).setCell (Nat.le_refl _) _).setCell (Nat.le_refl _) _).setCell (Nat.le_refl _) _).setCell (Nat.le_refl _) _).setCell (Nat.le_refl _) _).setCell (Nat.le_refl _) _).setCell (Nat.le_refl _) _)⟩
      case measure => simp [intOf]; omega
    · have hk' : k = xs.length := by omega
      subst hk'
      rw [List.take_length] at hf
      go_wp2
      go_ret
      exact ⟨_, rfl, Sl.of_own rfl (hf.done (flat_len _ 7 _ (fun _ _ => rfl))) hx.oks, hb⟩

set_option maxRecDepth 100000 in
set_option maxHeartbeats 1000000 in
theorem eqLayerS_any (v v' : Value) (xs : List DLayer) (fp fp' : List Nat) (w : World) (hx : Sl fLayer.cod w v xs fp) (hy : Sl fLayer.cod w v' xs fp') :
    Calls Try.prog 30 #[v, v'] w fun e w' => YesR w e w' := by
  obtain ⟨A, cap, rfl, hlen, hcap⟩ := hx.form
  obtain ⟨A', cap', rfl, hlen', hcap'⟩ := hy.form
  go_enter Try.func30, Try.ntmps30
  go_wp2
  go_loopw [5] (fun i wr => ∃ k : Nat, k ≤ xs.length ∧ i = .int .i64 k ∧ Below w.heap.size w wr) (fun i _ => xs.length - (intOf i).toNat)
  case atStart => exact ⟨0, Nat.zero_le _, rfl, Below.refl _ _⟩
  case round =>
    obtain ⟨k, hk, rfl, hb⟩ := hrel
    by_cases hlt : k < xs.length
    · obtain ⟨b, off, rfl, _, hok, hc, _⟩ := (hx.below' hb).at_ hlt
      obtain ⟨b', off', rfl, _, hok', hd, _⟩ := (hy.below' hb).at_ hlt
      have hc0 : wr.cell? ⟨b, off + k * 7, none⟩ = some (.int .i64 xs[k].form) := by have := hc 0 (by decide); exact this
      have hc1 : wr.cell? ⟨b, off + k * 7 + 1, none⟩ = some (.int .i64 xs[k].ice) := by have := hc 1 (by decide); exact this
      have hc2 : wr.cell? ⟨b, off + k * 7 + 2, none⟩ = some (.int .i64 xs[k].water) := by have := hc 2 (by decide); exact this
      have hc3 : wr.cell? ⟨b, off + k * 7 + 3, none⟩ = some (.int .i64 xs[k].density) := by have := hc 3 (by decide); exact this
      have hc4 : wr.cell? ⟨b, off + k * 7 + 4, none⟩ = some (.int .i64 xs[k].degrees) := by have := hc 4 (by decide); exact this
      have hc5 : wr.cell? ⟨b, off + k * 7 + 5, none⟩ = some (.int .i64 xs[k].hardness) := by have := hc 5 (by decide); exact this
      have hc6 : wr.cell? ⟨b, off + k * 7 + 6, none⟩ = some (.int .i64 xs[k].age) := by have := hc 6 (by decide); exact this
      have hd0 : wr.cell? ⟨b', off' + k * 7, none⟩ = some (.int .i64 xs[k].form) := by have := hd 0 (by decide); exact this
      have hd1 : wr.cell? ⟨b', off' + k * 7 + 1, none⟩ = some (.int .i64 xs[k].ice) := by have := hd 1 (by decide); exact this
      have hd2 : wr.cell? ⟨b', off' + k * 7 + 2, none⟩ = some (.int .i64 xs[k].water) := by have := hd 2 (by decide); exact this
      have hd3 : wr.cell? ⟨b', off' + k * 7 + 3, none⟩ = some (.int .i64 xs[k].density) := by have := hd 3 (by decide); exact this
      have hd4 : wr.cell? ⟨b', off' + k * 7 + 4, none⟩ = some (.int .i64 xs[k].degrees) := by have := hd 4 (by decide); exact this
      have hd5 : wr.cell? ⟨b', off' + k * 7 + 5, none⟩ = some (.int .i64 xs[k].hardness) := by have := hd 5 (by decide); exact this
      have hd6 : wr.cell? ⟨b', off' + k * 7 + 6, none⟩ = some (.int .i64 xs[k].age) := by have := hd 6 (by decide); exact this
      have gc0 := cell_regrown hc0
      have gc1 := cell_regrown hc1
      have gc2 := cell_regrown hc2
      have gc3 := cell_regrown hc3
      have gc4 := cell_regrown hc4
      have gc5 := cell_regrown hc5
      have gc6 := cell_regrown hc6
      have gd0 := cell_regrown hd0
      have gd1 := cell_regrown hd1
      have gd2 := cell_regrown hd2
      have gd3 := cell_regrown hd3
      have gd4 := cell_regrown hd4
      have gd5 := cell_regrown hd5
      have gd6 := cell_regrown hd6
      clear hc hd hc0 hd0 hc1 hd1 hc2 hd2 hc3 hd3 hc4 hd4 hc5 hd5 hc6 hd6
      have cq : ∀ d os, Calls Try.prog 54 #[.agg #[.int .i64 xs[k].form, .int .i64 xs[k].ice, .int .i64 xs[k].water, .int .i64 xs[k].density, .int .i64 xs[k].degrees, .int .i64 xs[k].hardness, .int .i64 xs[k].age], .agg #[.int .i64 xs[k].form, .int .i64 xs[k].ice, .int .i64 xs[k].water, .int .i64 xs[k].density, .int .i64 xs[k].degrees, .int .i64 xs[k].hardness, .int .i64 xs[k].age]] (Go.Sort.grow (redrawn wr d) os) fun e w'' => e = .returned (.bool true) ∧ ∃ p : Regrown, w'' = Go.Sort.grow (redrawn wr p.d) p.os := fun d os => Calls.regrown_of (eqLayer_any xs[k] _)
      go_wp2
      refine wp_region_quiet_below (by kernel_rfl) (by kernel_rfl) ?_
      repeat (quiet_step (exact cq _ _))
      refine wpQuiet_nil ?_
      intro _ hw'
      obtain ⟨⟨dq, osq⟩, hw''⟩ := hw'
      subst hw''
      have hbq := below_regrown wr dq osq
      clear gc0 gd0 cq
      generalize Go.Sort.grow (redrawn wr dq) osq = wq at *
      go_wp2
      go_roundw
      case rel => exact ⟨k + 1, by omega, by go_num, hb.trans (hbq.mono hb.size)⟩
      case measure => simp [intOf]; omega
    · go_wp2
      go_ret
      exact ⟨rfl, hb⟩

def mkLayer (k : Int) : DLayer := ⟨k, k + 1, k + 1 + 1, k + 1 + 1 + 1, k + 1 + 1 + 1 + 1, k + 1 + 1 + 1 + 1 + 1, k + 1 + 1 + 1 + 1 + 1 + 1⟩
def marksLayer (k : Int) (n : Nat) : List DLayer := (List.range n).map fun (i : Nat) => mkLayer (k + 7 * (i : Int))

theorem marksLayer_get (k0 : Int) (n i : Nat) (h : i < (marksLayer k0 n).length) : (marksLayer k0 n)[i] = mkLayer (k0 + 7 * (i : Int)) := by
  simp [marksLayer]
theorem marksLayer_len (k0 : Int) (n : Nat) : (marksLayer k0 n).length = n := by simp [marksLayer]



end Go.Proofs.Ytpebibegdeioeaa
