/- Observed: the data, its cells; the given helpers over it. Written by wip/gentype.py. -/
import Derived.Test.YtjlnjeogaokkoaaMark
namespace Go.Proofs.Ytjlnjeogaokkoaa
open Go.RowKit
set_option linter.unusedVariables false

structure DObserved where
  hour : Int
  snow : Int
  degrees : Int
  wind : Int
  deriving DecidableEq

def fObserved : Flat DObserved where
  n := 4
  enc := fun x => [.int .i64 x.hour, .int .i64 x.snow, .int .i64 x.degrees, .int .i64 x.wind]
  ok := fun x => fInt.ok x.hour ∧ fInt.ok x.snow ∧ fInt.ok x.degrees ∧ fInt.ok x.wind
  pos := by omega
  len := fun _ => rfl
  one := by intro x v hv; simp at hv; rcases hv with rfl | rfl | rfl | rfl <;> rfl

def totObservedS (xs : List DObserved) : Nat := xs.length

set_option maxRecDepth 100000 in
set_option maxHeartbeats 400000 in
theorem szObservedS_any (v : Value) (xs : List DObserved) (fp : List Nat) (left : Int) (w : World) (hx : Sl fObserved.cod w v xs fp) (h0 : 0 ≤ left) (h1 : left ≤ 1048576) :
    Calls Try.prog 70 #[v, .int .i64 left] w fun e w' => SzR left (totObservedS xs) w e w' := by
  obtain ⟨A, cap, rfl, hlen, hcap⟩ := hx.form
  by_cases hl : left - (xs.length : Int) < 0
  · go_enter Try.func70, Try.ntmps70
    go_wp2
    go_ret
    exact .no (Below.refl _ _)
  · go_enter Try.func70, Try.ntmps70
    go_wp2
    go_ret
    exact .yes (by omega) (by unfold totObservedS; omega) (Below.refl _ _)

set_option maxRecDepth 100000 in
set_option maxHeartbeats 1000000 in
theorem toObserved_any (x : DObserved) (w : World) :
    Calls Try.prog 144 #[.agg #[.int .i64 x.hour, .int .i64 x.snow, .int .i64 x.degrees, .int .i64 x.wind]] w fun e w' => e = .returned (.agg #[.int .i64 x.hour, .int .i64 x.snow, .int .i64 x.degrees, .int .i64 x.wind]) ∧ Below w.heap.size w w' := by
  go_enter Try.func144, Try.ntmps144
  go_wp2
  exact bodyPost_ret (v := .agg #[.int .i64 x.hour, .int .i64 x.snow, .int .i64 x.degrees, .int .i64 x.wind]) (by simp [results, Try.results144, go_sem]) rfl ⟨rfl, (by repeat (first | exact Below.refl _ _ | assumption | refine Below.alloc ?_ (by first | omega | (simp <;> omega)) _ | refine Below.setCell ?_ (by first | (show _ ≤ _; omega) | (simp <;> omega)) _ | refine Below.drew ?_ | refine below_drewN ?_ _))⟩
set_option maxRecDepth 100000 in
set_option maxHeartbeats 1000000 in
theorem eqObserved_any (x : DObserved) (w : World) :
    Calls Try.prog 127 #[.agg #[.int .i64 x.hour, .int .i64 x.snow, .int .i64 x.degrees, .int .i64 x.wind], .agg #[.int .i64 x.hour, .int .i64 x.snow, .int .i64 x.degrees, .int .i64 x.wind]] w fun e w' => e = .returned (.bool true) ∧ Below w.heap.size w w' := by
  go_enter Try.func127, Try.ntmps127
  go_wp2
  go_ret
  exact ⟨rfl, (by repeat (first | exact Below.refl _ _ | assumption | refine Below.alloc ?_ (by first | omega | (simp <;> omega)) _ | refine Below.setCell ?_ (by first | (show _ ≤ _; omega) | (simp <;> omega)) _ | refine Below.drew ?_ | refine below_drewN ?_ _))⟩

theorem infoObserved : (Try.prog.info? 119).map (fun i => (i.zero, i.size, i.bytes)) = some (some (.agg #[.int .i64 0, .int .i64 0, .int .i64 0, .int .i64 0]), 4, 32) := by kernel_rfl
set_option maxRecDepth 100000 in
set_option maxHeartbeats 1000000 in
theorem toObservedS_any (v : Value) (xs : List DObserved) (fp : List Nat) (w : World) (hx : Sl fObserved.cod w v xs fp) (h1 : xs.length ≤ 1048576) :
    Calls Try.prog 85 #[v] w fun e w' => NewR fObserved.cod w xs e w' := by
  obtain ⟨A, cap, rfl, hlen, hcap⟩ := hx.form
  obtain ⟨i0, hi, hz0, hz1, hz2⟩ := info_parts infoObserved
  have hmk := fun W => run_make_rowN (P := Try.prog) 22 119 i0 _ Try.underlying22 hi hz0 .i64 .i64 xs.length xs.length (Nat.le_refl _) (by rw [hz2]; omega) (by omega) W
  rw [hz1] at hmk
  go_enter Try.func85, Try.ntmps85
  go_wp2
  go_loopw [4] (fun i wr => ∃ k : Nat, k ≤ xs.length ∧ i = .int .i64 k ∧ Fill wr w.heap.size w.heap.size 119 4 xs.length ((xs.take k).flatMap fObserved.enc) ∧ Below w.heap.size w wr) (fun i _ => xs.length - (intOf i).toNat)
  case atStart => exact ⟨0, Nat.zero_le _, rfl, Fill.start w _ _ _ _ (by omega), (Below.refl _ _).alloc (Nat.le_refl _) _⟩
  case round =>
    obtain ⟨k, hk, rfl, hf, hb⟩ := hrel
    by_cases hlt : k < xs.length
    · obtain ⟨b, off, rfl, _, hok, hc, _⟩ := (hx.below' hb).at_ hlt
      have hc0 : wr.cell? ⟨b, off + k * 4, none⟩ = some (.int .i64 xs[k].hour) := by have := hc 0 (by decide); exact this
      have hc1 : wr.cell? ⟨b, off + k * 4 + 1, none⟩ = some (.int .i64 xs[k].snow) := by have := hc 1 (by decide); exact this
      have hc2 : wr.cell? ⟨b, off + k * 4 + 2, none⟩ = some (.int .i64 xs[k].degrees) := by have := hc 2 (by decide); exact this
      have hc3 : wr.cell? ⟨b, off + k * 4 + 3, none⟩ = some (.int .i64 xs[k].wind) := by have := hc 3 (by decide); exact this
      clear hc
      go_wp2_with fail
      refine (toObserved_any xs[k] _).mono ?_
      rintro e w2 ⟨rfl, hb2⟩
      have hgl := hf.lt
      have hf2 := hf.below hb2 hgl
      clear hf hc0 hc1 hc2 hc3
      obtain ⟨u0, hu0⟩ := hf2.cell (j := k * 4) (by omega)
      have hz0 := hf2.frozen (k * 4)
      obtain ⟨u1, hu1⟩ := hf2.cell (j := k * 4 + 1) (by omega)
      have hz1 := hf2.frozen (k * 4 + 1)
      obtain ⟨u2, hu2⟩ := hf2.cell (j := k * 4 + 2) (by omega)
      have hz2 := hf2.frozen (k * 4 + 2)
      obtain ⟨u3, hu3⟩ := hf2.cell (j := k * 4 + 3) (by omega)
      have hz3 := hf2.frozen (k * 4 + 3)
      go_wp2
      have HL : ((xs.take k).flatMap fObserved.enc).length = k * 4 := flat_take_len (E := fObserved) hk
      have hq0 := hf2.put_at (p := k * 4) (by simp [HL]) (by omega) (.int .i64 xs[k].hour)
      have hq1 := hq0.put_at (p := k * 4 + 1) (by simp [HL]) (by omega) (.int .i64 xs[k].snow)
      have hq2 := hq1.put_at (p := k * 4 + 2) (by simp [HL]) (by omega) (.int .i64 xs[k].degrees)
      have hq3 := hq2.put_at (p := k * 4 + 3) (by simp [HL]) (by omega) (.int .i64 xs[k].wind)
      go_roundw
      case rel => exact ⟨k + 1, by omega, by go_num, by rw [flat_take_step hlt]; simpa [fObserved, List.append_assoc] using hq3, (((((hb.trans (hb2.mono hb.size)).setCell (Nat.le_refl _) _).setCell (Nat.le_refl _) _).setCell (Nat.le_refl _) _).setCell (Nat.le_refl _) _)⟩
      case measure => simp [intOf]; omega
    · have hk' : k = xs.length := by omega
      subst hk'
      rw [List.take_length] at hf
      go_wp2
      go_ret
      exact ⟨_, rfl, Sl.of_own rfl (hf.done (flat_len _ 4 _ (fun _ _ => rfl))) hx.oks, hb⟩

set_option maxRecDepth 100000 in
set_option maxHeartbeats 1000000 in
theorem eqObservedS_any (v v' : Value) (xs : List DObserved) (fp fp' : List Nat) (w : World) (hx : Sl fObserved.cod w v xs fp) (hy : Sl fObserved.cod w v' xs fp') :
    Calls Try.prog 34 #[v, v'] w fun e w' => YesR w e w' := by
  obtain ⟨A, cap, rfl, hlen, hcap⟩ := hx.form
  obtain ⟨A', cap', rfl, hlen', hcap'⟩ := hy.form
  go_enter Try.func34, Try.ntmps34
  go_wp2
  go_loopw [5] (fun i wr => ∃ k : Nat, k ≤ xs.length ∧ i = .int .i64 k ∧ Below w.heap.size w wr) (fun i _ => xs.length - (intOf i).toNat)
  case atStart => exact ⟨0, Nat.zero_le _, rfl, Below.refl _ _⟩
  case round =>
    obtain ⟨k, hk, rfl, hb⟩ := hrel
    by_cases hlt : k < xs.length
    · obtain ⟨b, off, rfl, _, hok, hc, _⟩ := (hx.below' hb).at_ hlt
      obtain ⟨b', off', rfl, _, hok', hd, _⟩ := (hy.below' hb).at_ hlt
      have hc0 : wr.cell? ⟨b, off + k * 4, none⟩ = some (.int .i64 xs[k].hour) := by have := hc 0 (by decide); exact this
      have hc1 : wr.cell? ⟨b, off + k * 4 + 1, none⟩ = some (.int .i64 xs[k].snow) := by have := hc 1 (by decide); exact this
      have hc2 : wr.cell? ⟨b, off + k * 4 + 2, none⟩ = some (.int .i64 xs[k].degrees) := by have := hc 2 (by decide); exact this
      have hc3 : wr.cell? ⟨b, off + k * 4 + 3, none⟩ = some (.int .i64 xs[k].wind) := by have := hc 3 (by decide); exact this
      have hd0 : wr.cell? ⟨b', off' + k * 4, none⟩ = some (.int .i64 xs[k].hour) := by have := hd 0 (by decide); exact this
      have hd1 : wr.cell? ⟨b', off' + k * 4 + 1, none⟩ = some (.int .i64 xs[k].snow) := by have := hd 1 (by decide); exact this
      have hd2 : wr.cell? ⟨b', off' + k * 4 + 2, none⟩ = some (.int .i64 xs[k].degrees) := by have := hd 2 (by decide); exact this
      have hd3 : wr.cell? ⟨b', off' + k * 4 + 3, none⟩ = some (.int .i64 xs[k].wind) := by have := hd 3 (by decide); exact this
      have gc0 := cell_regrown hc0
      have gc1 := cell_regrown hc1
      have gc2 := cell_regrown hc2
      have gc3 := cell_regrown hc3
      have gd0 := cell_regrown hd0
      have gd1 := cell_regrown hd1
      have gd2 := cell_regrown hd2
      have gd3 := cell_regrown hd3
      clear hc hd hc0 hd0 hc1 hd1 hc2 hd2 hc3 hd3
      have cq : ∀ d os, Calls Try.prog 127 #[.agg #[.int .i64 xs[k].hour, .int .i64 xs[k].snow, .int .i64 xs[k].degrees, .int .i64 xs[k].wind], .agg #[.int .i64 xs[k].hour, .int .i64 xs[k].snow, .int .i64 xs[k].degrees, .int .i64 xs[k].wind]] (Go.Sort.grow (redrawn wr d) os) fun e w'' => e = .returned (.bool true) ∧ ∃ p : Regrown, w'' = Go.Sort.grow (redrawn wr p.d) p.os := fun d os => Calls.regrown_of (eqObserved_any xs[k] _)
      go_wp2
      refine wp_region_quiet_below (by kernel_rfl) (by kernel_rfl) ?_
      repeat (quiet_step (exact cq _ _))
      refine wpQuiet_nil ?_
      intro _ hw'
      obtain ⟨⟨dq, osq⟩, hw''⟩ := hw'
      subst hw''
      have hbq := below_regrown wr dq osq
      clear gc0 gd0 cq
      generalize Go.Sort.grow (redrawn wr dq) osq = wq at *
      go_wp2
      go_roundw
      case rel => exact ⟨k + 1, by omega, by go_num, hb.trans (hbq.mono hb.size)⟩
      case measure => simp [intOf]; omega
    · go_wp2
      go_ret
      exact ⟨rfl, hb⟩

def mkObserved (k : Int) : DObserved := ⟨k, k + 1, k + 1 + 1, k + 1 + 1 + 1⟩
def marksObserved (k : Int) (n : Nat) : List DObserved := (List.range n).map fun (i : Nat) => mkObserved (k + 4 * (i : Int))

theorem marksObserved_get (k0 : Int) (n i : Nat) (h : i < (marksObserved k0 n).length) : (marksObserved k0 n)[i] = mkObserved (k0 + 4 * (i : Int)) := by
  simp [marksObserved]
theorem marksObserved_len (k0 : Int) (n : Nat) : (marksObserved k0 n).length = n := by simp [marksObserved]

set_option maxRecDepth 100000 in
set_option maxHeartbeats 2000000 in
theorem markObservedS_any (v : Value) (xs : List DObserved) (fp : List Nat) (k0 : Int) (w : World) (hx : Sl fObserved.cod w v xs fp) (h0 : 0 ≤ k0) (h1 : k0 + 4 * (xs.length : Int) ≤ 1000000000000) :
    Calls Try.prog 46 #[v, .int .i64 k0] w fun e w' => MarkR fObserved.cod fp w (k0 + 4 * (xs.length : Int)) v (marksObserved k0 xs.length) e w' := by
  obtain ⟨A, cap, rfl, hlen, hcap⟩ := hx.form
  by_cases hne : xs.length = 0
  · have : xs = [] := List.eq_nil_of_length_eq_zero hne
    subst this
    go_enter Try.func46, Try.ntmps46
    go_wp2
    go_loop [1, 5] (fun n i => i = .int .i64 0 ∧ n = .int .i64 k0) (fun _ _ => 0)
    case atStart => exact ⟨rfl, rfl⟩
    case round =>
      obtain ⟨rfl, rfl⟩ := hrel
      go_wp2
      go_ret
      exact ⟨ret_int (by simp), hx, .refl _ _⟩
  · obtain ⟨b, off, rfl, rfl, hbs, hcs0⟩ := hx.cells (by omega)
    go_enter Try.func46, Try.ntmps46
    go_wp2
    go_loopw [1, 5] (fun n i wr => ∃ k : Nat, k ≤ xs.length ∧ i = .int .i64 k ∧ ∃ q : Int, n = .int .i64 q ∧ 0 ≤ q ∧ Hid (q = k0 + 4 * (k : Int)) ∧ Cells wr b off (((List.range k).map fun (i : Nat) => mkObserved (k0 + 4 * (i : Int))).flatMap fObserved.enc ++ (xs.drop k).flatMap fObserved.enc) ∧ Only [b] w wr) (fun _ i _ => xs.length - (intOf i).toNat)
    case atStart => exact ⟨0, Nat.zero_le _, rfl, k0, rfl, h0, by show _ = _; simp, by simpa using hcs0, .refl _ _⟩
    case round =>
      obtain ⟨k, hk, rfl, q, rfl, hq0, HQ, hcs, ho⟩ := hrel
      by_cases hlt : k < xs.length
      · have hq1 : q + 4 ≤ 1000000000000 := by have := HQ.out; omega
        have HC : Cells wr b off (((List.range k).map fun (i : Nat) => mkObserved (k0 + 4 * (i : Int))).flatMap fObserved.enc ++ ((.int .i64 xs[k].hour : Value) :: (.int .i64 xs[k].snow : Value) :: (.int .i64 xs[k].degrees : Value) :: (.int .i64 xs[k].wind : Value) :: (xs.drop (k + 1)).flatMap fObserved.enc)) := by
          have := hcs
          rw [List.drop_eq_getElem_cons hlt, List.flatMap_cons] at this
          exact this
        generalize HP : ((List.range k).map fun (i : Nat) => mkObserved (k0 + 4 * (i : Int))).flatMap fObserved.enc = pre at *
        have HL : pre.length = k * 4 := by rw [← HP, flat_len fObserved.enc 4 _ (fun _ _ => rfl)]; simp
        generalize HR : (xs.drop (k + 1)).flatMap fObserved.enc = post at *
        have HPH := Lib.hid HP
        clear HP hcs
        have HRH := Lib.hid HR
        clear HR
        have HLH := Lib.hid HL
        clear HL
        have hu0 := HC.at_mid (m := k * 4) (j := 0) (p := off + k * 4) HLH.out (by omega) (by simp) rfl
        have hz0 := HC.free_mid (m := k * 4) (j := 0) (p := off + k * 4) HLH.out (by omega) (by simp)
        have hu1 := HC.at_mid (m := k * 4) (j := 1) (p := off + k * 4 + 1) HLH.out (by omega) (by simp) rfl
        have hz1 := HC.free_mid (m := k * 4) (j := 1) (p := off + k * 4 + 1) HLH.out (by omega) (by simp)
        have hu2 := HC.at_mid (m := k * 4) (j := 2) (p := off + k * 4 + 2) HLH.out (by omega) (by simp) rfl
        have hz2 := HC.free_mid (m := k * 4) (j := 2) (p := off + k * 4 + 2) HLH.out (by omega) (by simp)
        have hu3 := HC.at_mid (m := k * 4) (j := 3) (p := off + k * 4 + 3) HLH.out (by omega) (by simp) rfl
        have hz3 := HC.free_mid (m := k * 4) (j := 3) (p := off + k * 4 + 3) HLH.out (by omega) (by simp)
        go_wp2
        have HC0 := HC.put (m := k * 4) (j := 0) (p := off + k * 4) HLH.out (by omega) (by simp) (.int .i64 (q))
        have ho_ := ho.set (off + k * 4) (.int .i64 (q))
        clear hu0 hz0 ho
        have ho := ho_
        clear ho_
        clear HC
        have HC1 := HC0.put (m := k * 4) (j := 1) (p := off + k * 4 + 1) HLH.out (by omega) (by simp) (.int .i64 (q + 1))
        have ho_ := ho.set (off + k * 4 + 1) (.int .i64 (q + 1))
        clear hu1 hz1 ho
        have ho := ho_
        clear ho_
        clear HC0
        have HC2 := HC1.put (m := k * 4) (j := 2) (p := off + k * 4 + 2) HLH.out (by omega) (by simp) (.int .i64 (q + 1 + 1))
        have ho_ := ho.set (off + k * 4 + 2) (.int .i64 (q + 1 + 1))
        clear hu2 hz2 ho
        have ho := ho_
        clear ho_
        clear HC1
        have HC3 := HC2.put (m := k * 4) (j := 3) (p := off + k * 4 + 3) HLH.out (by omega) (by simp) (.int .i64 (q + 1 + 1 + 1))
        have ho_ := ho.set (off + k * 4 + 3) (.int .i64 (q + 1 + 1 + 1))
        clear hu3 hz3 ho
        have ho := ho_
        clear ho_
        clear HC2
        go_roundw
        case rel => exact ⟨k + 1, by omega, by go_num, q + 4, by go_num, by omega, by have := HQ.out; show _ = _; omega, marks_step (f := fun (i : Nat) => mkObserved (k0 + 4 * (i : Int))) HPH.out HRH.out (by rw [← HQ.out] <;> rfl) HC3, ho⟩
        case measure => simp [intOf]; omega
      · have hk' : k = xs.length := by omega
        subst hk'
        rw [List.drop_length, List.flatMap_nil, List.append_nil] at hcs
        go_wp2
        go_ret
        have hsz := ho.size
        have hm := Sl.of_cells (E := fObserved) (cap := cap) (xs := marksObserved k0 xs.length) (by rw [marksObserved_len]; exact hlen) hcap (by omega) hcs (by intro x hx; simp [marksObserved] at hx; obtain ⟨i, hi, rfl⟩ := hx; exact ⟨(by simp only [fInt, mkObserved]; omega), (by simp only [fInt, mkObserved]; omega), (by simp only [fInt, mkObserved]; omega), (by simp only [fInt, mkObserved]; omega)⟩) (by rw [marksObserved_len]; omega)
        rw [marksObserved_len] at hm
        exact ⟨ret_int HQ.out, hm, ho⟩

set_option maxRecDepth 100000 in
set_option maxHeartbeats 2000000 in
theorem heldObservedS_any (v : Value) (n0 : Nat) (fp : List Nat) (k0 : Int) (w : World) (hx0 : Sl fObserved.cod w v (marksObserved k0 n0) fp) (h0 : 0 ≤ k0) (h1 : k0 + 4 * (n0 : Int) ≤ 1000000000000) :
    Calls Try.prog 58 #[v, .int .i64 k0] w fun e w' => e = .returned (.int .i64 (k0 + 4 * (n0 : Int))) ∧ Below w.heap.size w w' := by
  have hn0 : (marksObserved k0 n0).length = n0 := marksObserved_len _ _
  obtain ⟨xs, hxs⟩ : ∃ xs, xs = marksObserved k0 n0 := ⟨_, rfl⟩
  rw [← hxs] at hx0 hn0
  have hx := hx0
  clear hx0
  rw [← hn0] at h1
  have HN := Lib.hid hn0
  clear hn0
  have HXS := Lib.hid hxs
  clear hxs
  obtain ⟨A, cap, rfl, hlen, hcap⟩ := hx.form
  go_enter Try.func58, Try.ntmps58
  go_wp2
  go_loopw [1, 5] (fun n i wr => ∃ k : Nat, k ≤ xs.length ∧ i = .int .i64 k ∧ ∃ q : Int, n = .int .i64 q ∧ 0 ≤ q ∧ Hid (q = k0 + 4 * (k : Int)) ∧ Below w.heap.size w wr) (fun _ i _ => xs.length - (intOf i).toNat)
  case atStart => exact ⟨0, Nat.zero_le _, rfl, k0, rfl, h0, by show _ = _; omega, Below.refl _ _⟩
  case round =>
    obtain ⟨k, hk, rfl, q, rfl, hq0, HQ, hb⟩ := hrel
    by_cases hlt : k < xs.length
    · have hq1 : q + 4 ≤ 1000000000000 := by have := HQ.out; omega
      obtain ⟨b, off, rfl, _⟩ := hx.at_ hlt
      have hget : xs[k] = mkObserved (k0 + 4 * (k : Int)) := by
        have hxs := HXS.out
        subst hxs
        exact marksObserved_get _ _ _ _
      rw [← HQ.out] at hget
      have HG := Lib.hid hget
      clear hget
      have hc0 : wr.cell? ⟨b, off + k * 4, none⟩ = some (.int .i64 (q)) := by
        have h := (hx.below' hb).atk hlt (j := 0) (by decide)
        rw [HG.out, show off + k * fObserved.n + 0 = off + k * 4 from by (show off + k * 4 + 0 = _); omega] at h
        exact h
      have hc1 : wr.cell? ⟨b, off + k * 4 + 1, none⟩ = some (.int .i64 (q + 1)) := by
        have h := (hx.below' hb).atk hlt (j := 1) (by decide)
        rw [HG.out, show off + k * fObserved.n + 1 = off + k * 4 + 1 from by (show off + k * 4 + 1 = _); omega] at h
        exact h
      have hc2 : wr.cell? ⟨b, off + k * 4 + 2, none⟩ = some (.int .i64 (q + 1 + 1)) := by
        have h := (hx.below' hb).atk hlt (j := 2) (by decide)
        rw [HG.out, show off + k * fObserved.n + 2 = off + k * 4 + 2 from by (show off + k * 4 + 2 = _); omega] at h
        exact h
      have hc3 : wr.cell? ⟨b, off + k * 4 + 3, none⟩ = some (.int .i64 (q + 1 + 1 + 1)) := by
        have h := (hx.below' hb).atk hlt (j := 3) (by decide)
        rw [HG.out, show off + k * fObserved.n + 3 = off + k * 4 + 3 from by (show off + k * 4 + 3 = _); omega] at h
        exact h
      go_wp2
      go_roundw
      case rel => exact ⟨k + 1, by omega, by go_num, q + 4, by go_num, by omega, by have := HQ.out; show _ = _; omega, hb⟩
      case measure => simp [intOf]; omega
    · have hk' : k = xs.length := by omega
      go_wp2
      go_ret
      exact ⟨ret_int (by rw [HQ.out, hk', HN.out]), hb⟩

end Go.Proofs.Ytjlnjeogaokkoaa
