/- Stand: the data, its cells; the given helpers over it. Written by wip/gentype.py. -/
import Derived.Test.YthejcbhplgjmgaaMark
namespace Go.Proofs.Ythejcbhplgjmgaa
open Go.RowKit
set_option linter.unusedVariables false

structure DStand where
  id : ByteArray
  trees : Int
  height : Int
  cover : Int
  gap : Int
  deriving DecidableEq

def fStand : Flat DStand where
  n := 5
  enc := fun x => [.string x.id, .int .i64 x.trees, .int .i64 x.height, .int .i64 x.cover, .int .i64 x.gap]
  ok := fun x => fStr.ok x.id ∧ fInt.ok x.trees ∧ fInt.ok x.height ∧ fInt.ok x.cover ∧ fInt.ok x.gap
  pos := by omega
  len := fun _ => rfl
  one := by intro x v hv; simp at hv; rcases hv with rfl | rfl | rfl | rfl | rfl <;> rfl

def totStand (x : DStand) : Nat := x.id.size
def totStandS (xs : List DStand) : Nat := xs.length + (xs.map totStand).sum

set_option maxRecDepth 100000 in
set_option maxHeartbeats 1000000 in
theorem szStand_any (x : DStand) (left : Int) (w : World) (hx : fStand.ok x) (h0 : 0 ≤ left) (h1 : left ≤ 1048576) :
    Calls Try.prog 137 #[.agg #[.string x.id, .int .i64 x.trees, .int .i64 x.height, .int .i64 x.cover, .int .i64 x.gap], .int .i64 left] w fun e w' => SzR left (totStand x) w e w' := by
  have hsz0 : x.id.size ≤ 9223372036854775807 := hx.1
  by_cases c0 : left - x.id.size < 0
  · go_enter Try.func137, Try.ntmps137
    go_wp2
    go_ret
    exact .no (by repeat (first | exact Below.refl _ _ | assumption | refine Below.alloc ?_ (by first | omega | (simp <;> omega)) _ | refine Below.setCell ?_ (by first | (show _ ≤ _; omega) | (simp <;> omega)) _ | refine Below.drew ?_ | refine below_drewN ?_ _))
  · skip
    go_enter Try.func137, Try.ntmps137
    go_wp2
    go_ret
    exact .yes (by omega) (by unfold totStand; omega) (by repeat (first | exact Below.refl _ _ | assumption | refine Below.alloc ?_ (by first | omega | (simp <;> omega)) _ | refine Below.setCell ?_ (by first | (show _ ≤ _; omega) | (simp <;> omega)) _ | refine Below.drew ?_ | refine below_drewN ?_ _))

set_option maxRecDepth 100000 in
set_option maxHeartbeats 1000000 in
theorem szStandS_any (v : Value) (xs : List DStand) (fp : List Nat) (left : Int) (w : World) (hx : Sl fStand.cod w v xs fp) (h0 : 0 ≤ left) (h1 : left ≤ 1048576) :
    Calls Try.prog 51 #[v, .int .i64 left] w fun e w' => SzR left (totStandS xs) w e w' := by
  obtain ⟨A, cap, rfl, hlen, hcap⟩ := hx.form
  by_cases hl : left - (xs.length : Int) < 0
  · go_enter Try.func51, Try.ntmps51
    go_wp2
    go_ret
    exact .no (Below.refl _ _)
  · go_enter Try.func51, Try.ntmps51
    go_wp2
    go_loopw [1, 5] (fun l i wr => ∃ k : Nat, k ≤ xs.length ∧ i = .int .i64 k ∧ Below w.heap.size w wr ∧ ∃ r : Int, l = .int .i64 r ∧ 0 ≤ r ∧ r + (xs.length + ((xs.take k).map totStand).sum : Nat) = left) (fun _ i _ => xs.length - (intOf i).toNat)
    case atStart => exact ⟨0, Nat.zero_le _, rfl, Below.refl _ _, _, rfl, by omega, by simp⟩
    case round =>
      obtain ⟨k, hk, rfl, hb, r, rfl, hr0, hr⟩ := hrel
      have HR := Lib.hid hr
      clear hr
      have hr1 : r ≤ 1048576 := by have := HR.out; omega
      by_cases hlt : k < xs.length
      · obtain ⟨b, off, rfl, _, hok, hc, _⟩ := (hx.below' hb).at_ hlt
        have hc0 : wr.cell? ⟨b, off + k * 5, none⟩ = some (.string xs[k].id) := by have := hc 0 (by decide); exact this
        have hc1 : wr.cell? ⟨b, off + k * 5 + 1, none⟩ = some (.int .i64 xs[k].trees) := by have := hc 1 (by decide); exact this
        have hc2 : wr.cell? ⟨b, off + k * 5 + 2, none⟩ = some (.int .i64 xs[k].height) := by have := hc 2 (by decide); exact this
        have hc3 : wr.cell? ⟨b, off + k * 5 + 3, none⟩ = some (.int .i64 xs[k].cover) := by have := hc 3 (by decide); exact this
        have hc4 : wr.cell? ⟨b, off + k * 5 + 4, none⟩ = some (.int .i64 xs[k].gap) := by have := hc 4 (by decide); exact this
        clear hc
        go_wp2_with fail
        refine (szStand_any xs[k] r _ hok hr0 hr1).mono ?_
        rintro e w2 ⟨r2, rfl, hr2, hb2⟩
        have HR2 := Lib.hid hr2
        clear hr2
        by_cases hneg : r2 < 0
        · go_wp2
          go_ret
          exact .no (hb.trans (hb2.mono hb.size))
        · go_wp2
          go_roundw
          case rel => exact ⟨k + 1, by omega, by go_num, hb.trans (hb2.mono hb.size), _, rfl, by omega, by have := HR.out; have hst := sum_take_step_ totStand xs k hlt; rcases HR2.out with h | ⟨_, h⟩ <;> omega⟩
          case measure => simp [intOf]; omega
      · go_wp2
        go_ret
        exact .yes hr0 (by have := HR.out; rw [List.take_of_length_le (by omega)] at this; exact this) hb

set_option maxRecDepth 100000 in
set_option maxHeartbeats 1000000 in
theorem toStand_any (x : DStand) (w : World) :
    Calls Try.prog 145 #[.agg #[.string x.id, .int .i64 x.trees, .int .i64 x.height, .int .i64 x.cover, .int .i64 x.gap]] w fun e w' => e = .returned (.agg #[.string x.id, .int .i64 x.trees, .int .i64 x.height, .int .i64 x.cover, .int .i64 x.gap]) ∧ Below w.heap.size w w' := by
  go_enter Try.func145, Try.ntmps145
  go_wp2
  exact bodyPost_ret (v := .agg #[.string x.id, .int .i64 x.trees, .int .i64 x.height, .int .i64 x.cover, .int .i64 x.gap]) (by simp [results, Try.results145, go_sem]) rfl ⟨rfl, (by repeat (first | exact Below.refl _ _ | assumption | refine Below.alloc ?_ (by first | omega | (simp <;> omega)) _ | refine Below.setCell ?_ (by first | (show _ ≤ _; omega) | (simp <;> omega)) _ | refine Below.drew ?_ | refine below_drewN ?_ _))⟩
set_option maxRecDepth 100000 in
set_option maxHeartbeats 1000000 in
theorem eqStand_any (x : DStand) (w : World) :
    Calls Try.prog 157 #[.agg #[.string x.id, .int .i64 x.trees, .int .i64 x.height, .int .i64 x.cover, .int .i64 x.gap], .agg #[.string x.id, .int .i64 x.trees, .int .i64 x.height, .int .i64 x.cover, .int .i64 x.gap]] w fun e w' => e = .returned (.bool true) ∧ Below w.heap.size w w' := by
  go_enter Try.func157, Try.ntmps157
  go_wp2
  go_ret
  exact ⟨rfl, (by repeat (first | exact Below.refl _ _ | assumption | refine Below.alloc ?_ (by first | omega | (simp <;> omega)) _ | refine Below.setCell ?_ (by first | (show _ ≤ _; omega) | (simp <;> omega)) _ | refine Below.drew ?_ | refine below_drewN ?_ _))⟩

theorem infoStand : (Try.prog.info? 121).map (fun i => (i.zero, i.size, i.bytes)) = some (some (.agg #[.string ⟨#[]⟩, .int .i64 0, .int .i64 0, .int .i64 0, .int .i64 0]), 5, 48) := by kernel_rfl
set_option maxRecDepth 100000 in
set_option maxHeartbeats 1000000 in
theorem toStandS_any (v : Value) (xs : List DStand) (fp : List Nat) (w : World) (hx : Sl fStand.cod w v xs fp) (h1 : xs.length ≤ 1048576) :
    Calls Try.prog 65 #[v] w fun e w' => NewR fStand.cod w xs e w' := by
  obtain ⟨A, cap, rfl, hlen, hcap⟩ := hx.form
  obtain ⟨i0, hi, hz0, hz1, hz2⟩ := info_parts infoStand
  have hmk := fun W => run_make_rowN (P := Try.prog) 42 121 i0 _ Try.underlying42 hi hz0 .i64 .i64 xs.length xs.length (Nat.le_refl _) (by rw [hz2]; omega) (by omega) W
  rw [hz1] at hmk
  go_enter Try.func65, Try.ntmps65
  go_wp2
  go_loopw [4] (fun i wr => ∃ k : Nat, k ≤ xs.length ∧ i = .int .i64 k ∧ Fill wr w.heap.size w.heap.size 121 5 xs.length ((xs.take k).flatMap fStand.enc) ∧ Below w.heap.size w wr) (fun i _ => xs.length - (intOf i).toNat)
  case atStart => exact ⟨0, Nat.zero_le _, rfl, Fill.start w _ _ _ _ (by omega), (Below.refl _ _).alloc (Nat.le_refl _) _⟩
  case round =>
    obtain ⟨k, hk, rfl, hf, hb⟩ := hrel
    by_cases hlt : k < xs.length
    · obtain ⟨b, off, rfl, _, hok, hc, _⟩ := (hx.below' hb).at_ hlt
      have hc0 : wr.cell? ⟨b, off + k * 5, none⟩ = some (.string xs[k].id) := by have := hc 0 (by decide); exact this
      have hc1 : wr.cell? ⟨b, off + k * 5 + 1, none⟩ = some (.int .i64 xs[k].trees) := by have := hc 1 (by decide); exact this
      have hc2 : wr.cell? ⟨b, off + k * 5 + 2, none⟩ = some (.int .i64 xs[k].height) := by have := hc 2 (by decide); exact this
      have hc3 : wr.cell? ⟨b, off + k * 5 + 3, none⟩ = some (.int .i64 xs[k].cover) := by have := hc 3 (by decide); exact this
      have hc4 : wr.cell? ⟨b, off + k * 5 + 4, none⟩ = some (.int .i64 xs[k].gap) := by have := hc 4 (by decide); exact this
      clear hc
      go_wp2_with fail
      refine (toStand_any xs[k] _).mono ?_
      rintro e w2 ⟨rfl, hb2⟩
      have hgl := hf.lt
      have hf2 := hf.below hb2 hgl
      clear hf hc0 hc1 hc2 hc3 hc4
      obtain ⟨u0, hu0⟩ := hf2.cell (j := k * 5) (by omega)
      have hz0 := hf2.frozen (k * 5)
      obtain ⟨u1, hu1⟩ := hf2.cell (j := k * 5 + 1) (by omega)
      have hz1 := hf2.frozen (k * 5 + 1)
      obtain ⟨u2, hu2⟩ := hf2.cell (j := k * 5 + 2) (by omega)
      have hz2 := hf2.frozen (k * 5 + 2)
      obtain ⟨u3, hu3⟩ := hf2.cell (j := k * 5 + 3) (by omega)
      have hz3 := hf2.frozen (k * 5 + 3)
      obtain ⟨u4, hu4⟩ := hf2.cell (j := k * 5 + 4) (by omega)
      have hz4 := hf2.frozen (k * 5 + 4)
      go_wp2
      have HL : ((xs.take k).flatMap fStand.enc).length = k * 5 := flat_take_len (E := fStand) hk
      have hq0 := hf2.put_at (p := k * 5) (by simp [HL]) (by omega) (.string xs[k].id)
      have hq1 := hq0.put_at (p := k * 5 + 1) (by simp [HL]) (by omega) (.int .i64 xs[k].trees)
      have hq2 := hq1.put_at (p := k * 5 + 2) (by simp [HL]) (by omega) (.int .i64 xs[k].height)
      have hq3 := hq2.put_at (p := k * 5 + 3) (by simp [HL]) (by omega) (.int .i64 xs[k].cover)
      have hq4 := hq3.put_at (p := k * 5 + 4) (by simp [HL]) (by omega) (.int .i64 xs[k].gap)
      go_roundw
      case rel => exact ⟨k + 1, by omega, by go_num, by rw [flat_take_step hlt]; simpa [fStand, List.append_assoc] using hq4, ((((((hb.trans (hb2.mono hb.size)).setCell (Nat.le_refl _) _).setCell (Nat.le_refl _) _).setCell (Nat.le_refl _) _).setCell (Nat.le_refl _) _).setCell (Nat.le_refl _) _)⟩
      case measure => simp [intOf]; omega
    · have hk' : k = xs.length := by omega
      subst hk'
      rw [List.take_length] at hf
      go_wp2
      go_ret
      exact ⟨_, rfl, Sl.of_own rfl (hf.done (flat_len _ 5 _ (fun _ _ => rfl))) hx.oks, hb⟩

set_option maxRecDepth 100000 in
set_option maxHeartbeats 1000000 in
theorem eqStandS_any (v v' : Value) (xs : List DStand) (fp fp' : List Nat) (w : World) (hx : Sl fStand.cod w v xs fp) (hy : Sl fStand.cod w v' xs fp') :
    Calls Try.prog 88 #[v, v'] w fun e w' => YesR w e w' := by
  obtain ⟨A, cap, rfl, hlen, hcap⟩ := hx.form
  obtain ⟨A', cap', rfl, hlen', hcap'⟩ := hy.form
  go_enter Try.func88, Try.ntmps88
  go_wp2
  go_loopw [5] (fun i wr => ∃ k : Nat, k ≤ xs.length ∧ i = .int .i64 k ∧ Below w.heap.size w wr) (fun i _ => xs.length - (intOf i).toNat)
  case atStart => exact ⟨0, Nat.zero_le _, rfl, Below.refl _ _⟩
  case round =>
    obtain ⟨k, hk, rfl, hb⟩ := hrel
    by_cases hlt : k < xs.length
    · obtain ⟨b, off, rfl, _, hok, hc, _⟩ := (hx.below' hb).at_ hlt
      obtain ⟨b', off', rfl, _, hok', hd, _⟩ := (hy.below' hb).at_ hlt
      have hc0 : wr.cell? ⟨b, off + k * 5, none⟩ = some (.string xs[k].id) := by have := hc 0 (by decide); exact this
      have hc1 : wr.cell? ⟨b, off + k * 5 + 1, none⟩ = some (.int .i64 xs[k].trees) := by have := hc 1 (by decide); exact this
      have hc2 : wr.cell? ⟨b, off + k * 5 + 2, none⟩ = some (.int .i64 xs[k].height) := by have := hc 2 (by decide); exact this
      have hc3 : wr.cell? ⟨b, off + k * 5 + 3, none⟩ = some (.int .i64 xs[k].cover) := by have := hc 3 (by decide); exact this
      have hc4 : wr.cell? ⟨b, off + k * 5 + 4, none⟩ = some (.int .i64 xs[k].gap) := by have := hc 4 (by decide); exact this
      have hd0 : wr.cell? ⟨b', off' + k * 5, none⟩ = some (.string xs[k].id) := by have := hd 0 (by decide); exact this
      have hd1 : wr.cell? ⟨b', off' + k * 5 + 1, none⟩ = some (.int .i64 xs[k].trees) := by have := hd 1 (by decide); exact this
      have hd2 : wr.cell? ⟨b', off' + k * 5 + 2, none⟩ = some (.int .i64 xs[k].height) := by have := hd 2 (by decide); exact this
      have hd3 : wr.cell? ⟨b', off' + k * 5 + 3, none⟩ = some (.int .i64 xs[k].cover) := by have := hd 3 (by decide); exact this
      have hd4 : wr.cell? ⟨b', off' + k * 5 + 4, none⟩ = some (.int .i64 xs[k].gap) := by have := hd 4 (by decide); exact this
      have gc0 := cell_regrown hc0
      have gc1 := cell_regrown hc1
      have gc2 := cell_regrown hc2
      have gc3 := cell_regrown hc3
      have gc4 := cell_regrown hc4
      have gd0 := cell_regrown hd0
      have gd1 := cell_regrown hd1
      have gd2 := cell_regrown hd2
      have gd3 := cell_regrown hd3
      have gd4 := cell_regrown hd4
      clear hc hd hc0 hd0 hc1 hd1 hc2 hd2 hc3 hd3 hc4 hd4
      have cq : ∀ d os, Calls Try.prog 157 #[.agg #[.string xs[k].id, .int .i64 xs[k].trees, .int .i64 xs[k].height, .int .i64 xs[k].cover, .int .i64 xs[k].gap], .agg #[.string xs[k].id, .int .i64 xs[k].trees, .int .i64 xs[k].height, .int .i64 xs[k].cover, .int .i64 xs[k].gap]] (Go.Sort.grow (redrawn wr d) os) fun e w'' => e = .returned (.bool true) ∧ ∃ p : Regrown, w'' = Go.Sort.grow (redrawn wr p.d) p.os := fun d os => Calls.regrown_of (eqStand_any xs[k] _)
      go_wp2
      refine wp_region_quiet_below (by kernel_rfl) (by kernel_rfl) ?_
      repeat (quiet_step (exact cq _ _))
      refine wpQuiet_nil ?_
      intro _ hw'
      obtain ⟨⟨dq, osq⟩, hw''⟩ := hw'
      subst hw''
      have hbq := below_regrown wr dq osq
      clear gc0 gd0 cq
      generalize Go.Sort.grow (redrawn wr dq) osq = wq at *
      go_wp2
      go_roundw
      case rel => exact ⟨k + 1, by omega, by go_num, hb.trans (hbq.mono hb.size)⟩
      case measure => simp [intOf]; omega
    · go_wp2
      go_ret
      exact ⟨rfl, hb⟩

def mkStand (k : Int) : DStand := ⟨mt (k), k + 1, k + 1 + 1, k + 1 + 1 + 1, k + 1 + 1 + 1 + 1⟩
def marksStand (k : Int) (n : Nat) : List DStand := (List.range n).map fun (i : Nat) => mkStand (k + 5 * (i : Int))

theorem marksStand_get (k0 : Int) (n i : Nat) (h : i < (marksStand k0 n).length) : (marksStand k0 n)[i] = mkStand (k0 + 5 * (i : Int)) := by
  simp [marksStand]
theorem marksStand_len (k0 : Int) (n : Nat) : (marksStand k0 n).length = n := by simp [marksStand]



end Go.Proofs.Ythejcbhplgjmgaa
