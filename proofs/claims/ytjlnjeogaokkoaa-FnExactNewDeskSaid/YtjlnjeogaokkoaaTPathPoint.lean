/- PathPoint: the data, its cells; the given helpers over it. Written by wip/gentype.py. -/
import Derived.Test.YtjlnjeogaokkoaaMark
namespace Go.Proofs.Ytjlnjeogaokkoaa
open Go.RowKit
set_option linter.unusedVariables false

structure DPathPoint where
  distance : Int
  height : Int
  deriving DecidableEq

def fPathPoint : Flat DPathPoint where
  n := 2
  enc := fun x => [.int .i64 x.distance, .int .i64 x.height]
  ok := fun x => fInt.ok x.distance ∧ fInt.ok x.height
  pos := by omega
  len := fun _ => rfl
  one := by intro x v hv; simp at hv; rcases hv with rfl | rfl <;> rfl

def totPathPointS (xs : List DPathPoint) : Nat := xs.length

set_option maxRecDepth 100000 in
set_option maxHeartbeats 400000 in
theorem szPathPointS_any (v : Value) (xs : List DPathPoint) (fp : List Nat) (left : Int) (w : World) (hx : Sl fPathPoint.cod w v xs fp) (h0 : 0 ≤ left) (h1 : left ≤ 1048576) :
    Calls Try.prog 74 #[v, .int .i64 left] w fun e w' => SzR left (totPathPointS xs) w e w' := by
  obtain ⟨A, cap, rfl, hlen, hcap⟩ := hx.form
  by_cases hl : left - (xs.length : Int) < 0
  · go_enter Try.func74, Try.ntmps74
    go_wp2
    go_ret
    exact .no (Below.refl _ _)
  · go_enter Try.func74, Try.ntmps74
    go_wp2
    go_ret
    exact .yes (by omega) (by unfold totPathPointS; omega) (Below.refl _ _)

set_option maxRecDepth 100000 in
set_option maxHeartbeats 1000000 in
theorem toPathPoint_any (x : DPathPoint) (w : World) :
    Calls Try.prog 147 #[.agg #[.int .i64 x.distance, .int .i64 x.height]] w fun e w' => e = .returned (.agg #[.int .i64 x.distance, .int .i64 x.height]) ∧ Below w.heap.size w w' := by
  go_enter Try.func147, Try.ntmps147
  go_wp2
  exact bodyPost_ret (v := .agg #[.int .i64 x.distance, .int .i64 x.height]) (by simp [results, Try.results147, go_sem]) rfl ⟨rfl, (by repeat (first | exact Below.refl _ _ | assumption | refine Below.alloc ?_ (by first | omega | (simp <;> omega)) _ | refine Below.setCell ?_ (by first | (show _ ≤ _; omega) | (simp <;> omega)) _ | refine Below.drew ?_ | refine below_drewN ?_ _))⟩
set_option maxRecDepth 100000 in
set_option maxHeartbeats 1000000 in
theorem eqPathPoint_any (x : DPathPoint) (w : World) :
    Calls Try.prog 130 #[.agg #[.int .i64 x.distance, .int .i64 x.height], .agg #[.int .i64 x.distance, .int .i64 x.height]] w fun e w' => e = .returned (.bool true) ∧ Below w.heap.size w w' := by
  go_enter Try.func130, Try.ntmps130
  go_wp2
  go_ret
  exact ⟨rfl, (by repeat (first | exact Below.refl _ _ | assumption | refine Below.alloc ?_ (by first | omega | (simp <;> omega)) _ | refine Below.setCell ?_ (by first | (show _ ≤ _; omega) | (simp <;> omega)) _ | refine Below.drew ?_ | refine below_drewN ?_ _))⟩

theorem infoPathPoint : (Try.prog.info? 82).map (fun i => (i.zero, i.size, i.bytes)) = some (some (.agg #[.int .i64 0, .int .i64 0]), 2, 16) := by kernel_rfl
set_option maxRecDepth 100000 in
set_option maxHeartbeats 1000000 in
theorem toPathPointS_any (v : Value) (xs : List DPathPoint) (fp : List Nat) (w : World) (hx : Sl fPathPoint.cod w v xs fp) (h1 : xs.length ≤ 1048576) :
    Calls Try.prog 89 #[v] w fun e w' => NewR fPathPoint.cod w xs e w' := by
  obtain ⟨A, cap, rfl, hlen, hcap⟩ := hx.form
  obtain ⟨i0, hi, hz0, hz1, hz2⟩ := info_parts infoPathPoint
  have hmk := fun W => run_make_rowN (P := Try.prog) 28 82 i0 _ Try.underlying28 hi hz0 .i64 .i64 xs.length xs.length (Nat.le_refl _) (by rw [hz2]; omega) (by omega) W
  rw [hz1] at hmk
  go_enter Try.func89, Try.ntmps89
  go_wp2
  go_loopw [4] (fun i wr => ∃ k : Nat, k ≤ xs.length ∧ i = .int .i64 k ∧ Fill wr w.heap.size w.heap.size 82 2 xs.length ((xs.take k).flatMap fPathPoint.enc) ∧ Below w.heap.size w wr) (fun i _ => xs.length - (intOf i).toNat)
  case atStart => exact ⟨0, Nat.zero_le _, rfl, Fill.start w _ _ _ _ (by omega), (Below.refl _ _).alloc (Nat.le_refl _) _⟩
  case round =>
    obtain ⟨k, hk, rfl, hf, hb⟩ := hrel
    by_cases hlt : k < xs.length
    · obtain ⟨b, off, rfl, _, hok, hc, _⟩ := (hx.below' hb).at_ hlt
      have hc0 : wr.cell? ⟨b, off + k * 2, none⟩ = some (.int .i64 xs[k].distance) := by have := hc 0 (by decide); exact this
      have hc1 : wr.cell? ⟨b, off + k * 2 + 1, none⟩ = some (.int .i64 xs[k].height) := by have := hc 1 (by decide); exact this
      clear hc
      go_wp2_with fail
      refine (toPathPoint_any xs[k] _).mono ?_
      rintro e w2 ⟨rfl, hb2⟩
      have hgl := hf.lt
      have hf2 := hf.below hb2 hgl
      clear hf hc0 hc1
      obtain ⟨u0, hu0⟩ := hf2.cell (j := k * 2) (by omega)
      have hz0 := hf2.frozen (k * 2)
      obtain ⟨u1, hu1⟩ := hf2.cell (j := k * 2 + 1) (by omega)
      have hz1 := hf2.frozen (k * 2 + 1)
      go_wp2
      have HL : ((xs.take k).flatMap fPathPoint.enc).length = k * 2 := flat_take_len (E := fPathPoint) hk
      have hq0 := hf2.put_at (p := k * 2) (by simp [HL]) (by omega) (.int .i64 xs[k].distance)
      have hq1 := hq0.put_at (p := k * 2 + 1) (by simp [HL]) (by omega) (.int .i64 xs[k].height)
      go_roundw
      case rel => exact ⟨k + 1, by omega, by go_num, by rw [flat_take_step hlt]; simpa [fPathPoint, List.append_assoc] using hq1, (((hb.trans (hb2.mono hb.size)).setCell (Nat.le_refl _) _).setCell (Nat.le_refl _) _)⟩
      case measure => simp [intOf]; omega
    · have hk' : k = xs.length := by omega
      subst hk'
      rw [List.take_length] at hf
      go_wp2
      go_ret
      exact ⟨_, rfl, Sl.of_own rfl (hf.done (flat_len _ 2 _ (fun _ _ => rfl))) hx.oks, hb⟩

set_option maxRecDepth 100000 in
set_option maxHeartbeats 1000000 in
theorem eqPathPointS_any (v v' : Value) (xs : List DPathPoint) (fp fp' : List Nat) (w : World) (hx : Sl fPathPoint.cod w v xs fp) (hy : Sl fPathPoint.cod w v' xs fp') :
    Calls Try.prog 38 #[v, v'] w fun e w' => YesR w e w' := by
  obtain ⟨A, cap, rfl, hlen, hcap⟩ := hx.form
  obtain ⟨A', cap', rfl, hlen', hcap'⟩ := hy.form
  go_enter Try.func38, Try.ntmps38
  go_wp2
  go_loopw [5] (fun i wr => ∃ k : Nat, k ≤ xs.length ∧ i = .int .i64 k ∧ Below w.heap.size w wr) (fun i _ => xs.length - (intOf i).toNat)
  case atStart => exact ⟨0, Nat.zero_le _, rfl, Below.refl _ _⟩
  case round =>
    obtain ⟨k, hk, rfl, hb⟩ := hrel
    by_cases hlt : k < xs.length
    · obtain ⟨b, off, rfl, _, hok, hc, _⟩ := (hx.below' hb).at_ hlt
      obtain ⟨b', off', rfl, _, hok', hd, _⟩ := (hy.below' hb).at_ hlt
      have hc0 : wr.cell? ⟨b, off + k * 2, none⟩ = some (.int .i64 xs[k].distance) := by have := hc 0 (by decide); exact this
      have hc1 : wr.cell? ⟨b, off + k * 2 + 1, none⟩ = some (.int .i64 xs[k].height) := by have := hc 1 (by decide); exact this
      have hd0 : wr.cell? ⟨b', off' + k * 2, none⟩ = some (.int .i64 xs[k].distance) := by have := hd 0 (by decide); exact this
      have hd1 : wr.cell? ⟨b', off' + k * 2 + 1, none⟩ = some (.int .i64 xs[k].height) := by have := hd 1 (by decide); exact this
      have gc0 := cell_regrown hc0
      have gc1 := cell_regrown hc1
      have gd0 := cell_regrown hd0
      have gd1 := cell_regrown hd1
      clear hc hd hc0 hd0 hc1 hd1
      have cq : ∀ d os, Calls Try.prog 130 #[.agg #[.int .i64 xs[k].distance, .int .i64 xs[k].height], .agg #[.int .i64 xs[k].distance, .int .i64 xs[k].height]] (Go.Sort.grow (redrawn wr d) os) fun e w'' => e = .returned (.bool true) ∧ ∃ p : Regrown, w'' = Go.Sort.grow (redrawn wr p.d) p.os := fun d os => Calls.regrown_of (eqPathPoint_any xs[k] _)
      go_wp2
      refine wp_region_quiet_below (by kernel_rfl) (by kernel_rfl) ?_
      repeat (quiet_step (exact cq _ _))
      refine wpQuiet_nil ?_
      intro _ hw'
      obtain ⟨⟨dq, osq⟩, hw''⟩ := hw'
      subst hw''
      have hbq := below_regrown wr dq osq
      clear gc0 gd0 cq
      generalize Go.Sort.grow (redrawn wr dq) osq = wq at *
      go_wp2
      go_roundw
      case rel => exact ⟨k + 1, by omega, by go_num, hb.trans (hbq.mono hb.size)⟩
      case measure => simp [intOf]; omega
    · go_wp2
      go_ret
      exact ⟨rfl, hb⟩

def mkPathPoint (k : Int) : DPathPoint := ⟨k, k + 1⟩
def marksPathPoint (k : Int) (n : Nat) : List DPathPoint := (List.range n).map fun (i : Nat) => mkPathPoint (k + 2 * (i : Int))

theorem marksPathPoint_get (k0 : Int) (n i : Nat) (h : i < (marksPathPoint k0 n).length) : (marksPathPoint k0 n)[i] = mkPathPoint (k0 + 2 * (i : Int)) := by
  simp [marksPathPoint]
theorem marksPathPoint_len (k0 : Int) (n : Nat) : (marksPathPoint k0 n).length = n := by simp [marksPathPoint]

set_option maxRecDepth 100000 in
set_option maxHeartbeats 2000000 in
theorem markPathPointS_any (v : Value) (xs : List DPathPoint) (fp : List Nat) (k0 : Int) (w : World) (hx : Sl fPathPoint.cod w v xs fp) (h0 : 0 ≤ k0) (h1 : k0 + 2 * (xs.length : Int) ≤ 1000000000000) :
    Calls Try.prog 50 #[v, .int .i64 k0] w fun e w' => MarkR fPathPoint.cod fp w (k0 + 2 * (xs.length : Int)) v (marksPathPoint k0 xs.length) e w' := by
  obtain ⟨A, cap, rfl, hlen, hcap⟩ := hx.form
  by_cases hne : xs.length = 0
  · have : xs = [] := List.eq_nil_of_length_eq_zero hne
    subst this
    go_enter Try.func50, Try.ntmps50
    go_wp2
    go_loop [1, 5] (fun n i => i = .int .i64 0 ∧ n = .int .i64 k0) (fun _ _ => 0)
    case atStart => exact ⟨rfl, rfl⟩
    case round =>
      obtain ⟨rfl, rfl⟩ := hrel
      go_wp2
      go_ret
      exact ⟨ret_int (by simp), hx, .refl _ _⟩
  · obtain ⟨b, off, rfl, rfl, hbs, hcs0⟩ := hx.cells (by omega)
    go_enter Try.func50, Try.ntmps50
    go_wp2
    go_loopw [1, 5] (fun n i wr => ∃ k : Nat, k ≤ xs.length ∧ i = .int .i64 k ∧ ∃ q : Int, n = .int .i64 q ∧ 0 ≤ q ∧ Hid (q = k0 + 2 * (k : Int)) ∧ Cells wr b off (((List.range k).map fun (i : Nat) => mkPathPoint (k0 + 2 * (i : Int))).flatMap fPathPoint.enc ++ (xs.drop k).flatMap fPathPoint.enc) ∧ Only [b] w wr) (fun _ i _ => xs.length - (intOf i).toNat)
    case atStart => exact ⟨0, Nat.zero_le _, rfl, k0, rfl, h0, by show _ = _; simp, by simpa using hcs0, .refl _ _⟩
    case round =>
      obtain ⟨k, hk, rfl, q, rfl, hq0, HQ, hcs, ho⟩ := hrel
      by_cases hlt : k < xs.length
      · have hq1 : q + 2 ≤ 1000000000000 := by have := HQ.out; omega
        have HC : Cells wr b off (((List.range k).map fun (i : Nat) => mkPathPoint (k0 + 2 * (i : Int))).flatMap fPathPoint.enc ++ ((.int .i64 xs[k].distance : Value) :: (.int .i64 xs[k].height : Value) :: (xs.drop (k + 1)).flatMap fPathPoint.enc)) := by
          have := hcs
          rw [List.drop_eq_getElem_cons hlt, List.flatMap_cons] at this
          exact this
        generalize HP : ((List.range k).map fun (i : Nat) => mkPathPoint (k0 + 2 * (i : Int))).flatMap fPathPoint.enc = pre at *
        have HL : pre.length = k * 2 := by rw [← HP, flat_len fPathPoint.enc 2 _ (fun _ _ => rfl)]; simp
        generalize HR : (xs.drop (k + 1)).flatMap fPathPoint.enc = post at *
        have HPH := Lib.hid HP
        clear HP hcs
        have HRH := Lib.hid HR
        clear HR
        have HLH := Lib.hid HL
        clear HL
        have hu0 := HC.at_mid (m := k * 2) (j := 0) (p := off + k * 2) HLH.out (by omega) (by simp) rfl
        have hz0 := HC.free_mid (m := k * 2) (j := 0) (p := off + k * 2) HLH.out (by omega) (by simp)
        have hu1 := HC.at_mid (m := k * 2) (j := 1) (p := off + k * 2 + 1) HLH.out (by omega) (by simp) rfl
        have hz1 := HC.free_mid (m := k * 2) (j := 1) (p := off + k * 2 + 1) HLH.out (by omega) (by simp)
        go_wp2
        have HC0 := HC.put (m := k * 2) (j := 0) (p := off + k * 2) HLH.out (by omega) (by simp) (.int .i64 (q))
        have ho_ := ho.set (off + k * 2) (.int .i64 (q))
        clear hu0 hz0 ho
        have ho := ho_
        clear ho_
        clear HC
        have HC1 := HC0.put (m := k * 2) (j := 1) (p := off + k * 2 + 1) HLH.out (by omega) (by simp) (.int .i64 (q + 1))
        have ho_ := ho.set (off + k * 2 + 1) (.int .i64 (q + 1))
        clear hu1 hz1 ho
        have ho := ho_
        clear ho_
        clear HC0
        go_roundw
        case rel => exact ⟨k + 1, by omega, by go_num, q + 2, by go_num, by omega, by have := HQ.out; show _ = _; omega, marks_step (f := fun (i : Nat) => mkPathPoint (k0 + 2 * (i : Int))) HPH.out HRH.out (by rw [← HQ.out] <;> rfl) HC1, ho⟩
        case measure => simp [intOf]; omega
      · have hk' : k = xs.length := by omega
        subst hk'
        rw [List.drop_length, List.flatMap_nil, List.append_nil] at hcs
        go_wp2
        go_ret
        have hsz := ho.size
        have hm := Sl.of_cells (E := fPathPoint) (cap := cap) (xs := marksPathPoint k0 xs.length) (by rw [marksPathPoint_len]; exact hlen) hcap (by omega) hcs (by intro x hx; simp [marksPathPoint] at hx; obtain ⟨i, hi, rfl⟩ := hx; exact ⟨(by simp only [fInt, mkPathPoint]; omega), (by simp only [fInt, mkPathPoint]; omega)⟩) (by rw [marksPathPoint_len]; omega)
        rw [marksPathPoint_len] at hm
        exact ⟨ret_int HQ.out, hm, ho⟩

set_option maxRecDepth 100000 in
set_option maxHeartbeats 2000000 in
theorem heldPathPointS_any (v : Value) (n0 : Nat) (fp : List Nat) (k0 : Int) (w : World) (hx0 : Sl fPathPoint.cod w v (marksPathPoint k0 n0) fp) (h0 : 0 ≤ k0) (h1 : k0 + 2 * (n0 : Int) ≤ 1000000000000) :
    Calls Try.prog 62 #[v, .int .i64 k0] w fun e w' => e = .returned (.int .i64 (k0 + 2 * (n0 : Int))) ∧ Below w.heap.size w w' := by
  have hn0 : (marksPathPoint k0 n0).length = n0 := marksPathPoint_len _ _
  obtain ⟨xs, hxs⟩ : ∃ xs, xs = marksPathPoint k0 n0 := ⟨_, rfl⟩
  rw [← hxs] at hx0 hn0
  have hx := hx0
  clear hx0
  rw [← hn0] at h1
  have HN := Lib.hid hn0
  clear hn0
  have HXS := Lib.hid hxs
  clear hxs
  obtain ⟨A, cap, rfl, hlen, hcap⟩ := hx.form
  go_enter Try.func62, Try.ntmps62
  go_wp2
  go_loopw [1, 5] (fun n i wr => ∃ k : Nat, k ≤ xs.length ∧ i = .int .i64 k ∧ ∃ q : Int, n = .int .i64 q ∧ 0 ≤ q ∧ Hid (q = k0 + 2 * (k : Int)) ∧ Below w.heap.size w wr) (fun _ i _ => xs.length - (intOf i).toNat)
  case atStart => exact ⟨0, Nat.zero_le _, rfl, k0, rfl, h0, by show _ = _; omega, Below.refl _ _⟩
  case round =>
    obtain ⟨k, hk, rfl, q, rfl, hq0, HQ, hb⟩ := hrel
    by_cases hlt : k < xs.length
    · have hq1 : q + 2 ≤ 1000000000000 := by have := HQ.out; omega
      obtain ⟨b, off, rfl, _⟩ := hx.at_ hlt
      have hget : xs[k] = mkPathPoint (k0 + 2 * (k : Int)) := by
        have hxs := HXS.out
        subst hxs
        exact marksPathPoint_get _ _ _ _
      rw [← HQ.out] at hget
      have HG := Lib.hid hget
      clear hget
      have hc0 : wr.cell? ⟨b, off + k * 2, none⟩ = some (.int .i64 (q)) := by
        have h := (hx.below' hb).atk hlt (j := 0) (by decide)
        rw [HG.out, show off + k * fPathPoint.n + 0 = off + k * 2 from by (show off + k * 2 + 0 = _); omega] at h
        exact h
      have hc1 : wr.cell? ⟨b, off + k * 2 + 1, none⟩ = some (.int .i64 (q + 1)) := by
        have h := (hx.below' hb).atk hlt (j := 1) (by decide)
        rw [HG.out, show off + k * fPathPoint.n + 1 = off + k * 2 + 1 from by (show off + k * 2 + 1 = _); omega] at h
        exact h
      go_wp2
      go_roundw
      case rel => exact ⟨k + 1, by omega, by go_num, q + 2, by go_num, by omega, by have := HQ.out; show _ = _; omega, hb⟩
      case measure => simp [intOf]; omega
    · have hk' : k = xs.length := by omega
      go_wp2
      go_ret
      exact ⟨ret_int (by rw [HQ.out, hk', HN.out]), hb⟩

end Go.Proofs.Ytjlnjeogaokkoaa
