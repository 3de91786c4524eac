/- Gate: the data, its cells; the given helpers over it. Written by wip/gentype.py. -/
import Derived.Test.YtaaholabodchaaaGreatDoorMark
namespace Go.Proofs.YtaaholabodchaaaGreatDoor
open Go.RowKit
set_option linter.unusedVariables false

structure DGate where
  id : ByteArray
  shut : Int
  open_ : Int
  hold : Int
  shuts : Bool
  calm : Int
  deriving DecidableEq

def fGate : Flat DGate where
  n := 6
  enc := fun x => [.string x.id, .int .i64 x.shut, .int .i64 x.open_, .int .i64 x.hold, .bool x.shuts, .int .i64 x.calm]
  ok := fun x => fStr.ok x.id ∧ fInt.ok x.shut ∧ fInt.ok x.open_ ∧ fInt.ok x.hold ∧ fBool.ok x.shuts ∧ fInt.ok x.calm
  pos := by omega
  len := fun _ => rfl
  one := by intro x v hv; simp at hv; rcases hv with rfl | rfl | rfl | rfl | rfl | rfl <;> rfl

def totGate (x : DGate) : Nat := x.id.size
def totGateS (xs : List DGate) : Nat := xs.length + (xs.map totGate).sum



set_option maxRecDepth 100000 in
set_option maxHeartbeats 1000000 in
theorem eqGate_any (x : DGate) (w : World) :
    Calls Tryz.prog 37 #[.agg #[.string x.id, .int .i64 x.shut, .int .i64 x.open_, .int .i64 x.hold, .bool x.shuts, .int .i64 x.calm], .agg #[.string x.id, .int .i64 x.shut, .int .i64 x.open_, .int .i64 x.hold, .bool x.shuts, .int .i64 x.calm]] w fun e w' => e = .returned (.bool true) ∧ Below w.heap.size w w' := by
  go_enter Tryz.func37, Tryz.ntmps37
  go_wp2
  go_ret
  exact ⟨rfl, (by repeat (first | exact Below.refl _ _ | assumption | refine Below.alloc ?_ (by first | omega | (simp <;> omega)) _ | refine Below.setCell ?_ (by first | (show _ ≤ _; omega) | (simp <;> omega)) _ | refine Below.drew ?_ | refine below_drewN ?_ _))⟩


set_option maxRecDepth 100000 in
set_option maxHeartbeats 1000000 in
theorem eqGateS_any (v v' : Value) (xs : List DGate) (fp fp' : List Nat) (w : World) (hx : Sl fGate.cod w v xs fp) (hy : Sl fGate.cod w v' xs fp') :
    Calls Tryz.prog 14 #[v, v'] w fun e w' => YesR w e w' := by
  obtain ⟨A, cap, rfl, hlen, hcap⟩ := hx.form
  obtain ⟨A', cap', rfl, hlen', hcap'⟩ := hy.form
  go_enter Tryz.func14, Tryz.ntmps14
  go_wp2
  go_loopw [5] (fun i wr => ∃ k : Nat, k ≤ xs.length ∧ i = .int .i64 k ∧ Below w.heap.size w wr) (fun i _ => xs.length - (intOf i).toNat)
  case atStart => exact ⟨0, Nat.zero_le _, rfl, Below.refl _ _⟩
  case round =>
    obtain ⟨k, hk, rfl, hb⟩ := hrel
    by_cases hlt : k < xs.length
    · obtain ⟨b, off, rfl, _, hok, hc, _⟩ := (hx.below' hb).at_ hlt
      obtain ⟨b', off', rfl, _, hok', hd, _⟩ := (hy.below' hb).at_ hlt
      have hc0 : wr.cell? ⟨b, off + k * 6, none⟩ = some (.string xs[k].id) := by have := hc 0 (by decide); exact this
      have hc1 : wr.cell? ⟨b, off + k * 6 + 1, none⟩ = some (.int .i64 xs[k].shut) := by have := hc 1 (by decide); exact this
      have hc2 : wr.cell? ⟨b, off + k * 6 + 2, none⟩ = some (.int .i64 xs[k].open_) := by have := hc 2 (by decide); exact this
      have hc3 : wr.cell? ⟨b, off + k * 6 + 3, none⟩ = some (.int .i64 xs[k].hold) := by have := hc 3 (by decide); exact this
      have hc4 : wr.cell? ⟨b, off + k * 6 + 4, none⟩ = some (.bool xs[k].shuts) := by have := hc 4 (by decide); exact this
      have hc5 : wr.cell? ⟨b, off + k * 6 + 5, none⟩ = some (.int .i64 xs[k].calm) := by have := hc 5 (by decide); exact this
      have hd0 : wr.cell? ⟨b', off' + k * 6, none⟩ = some (.string xs[k].id) := by have := hd 0 (by decide); exact this
      have hd1 : wr.cell? ⟨b', off' + k * 6 + 1, none⟩ = some (.int .i64 xs[k].shut) := by have := hd 1 (by decide); exact this
      have hd2 : wr.cell? ⟨b', off' + k * 6 + 2, none⟩ = some (.int .i64 xs[k].open_) := by have := hd 2 (by decide); exact this
      have hd3 : wr.cell? ⟨b', off' + k * 6 + 3, none⟩ = some (.int .i64 xs[k].hold) := by have := hd 3 (by decide); exact this
      have hd4 : wr.cell? ⟨b', off' + k * 6 + 4, none⟩ = some (.bool xs[k].shuts) := by have := hd 4 (by decide); exact this
      have hd5 : wr.cell? ⟨b', off' + k * 6 + 5, none⟩ = some (.int .i64 xs[k].calm) := by have := hd 5 (by decide); exact this
      have gc0 := cell_regrown hc0
      have gc1 := cell_regrown hc1
      have gc2 := cell_regrown hc2
      have gc3 := cell_regrown hc3
      have gc4 := cell_regrown hc4
      have gc5 := cell_regrown hc5
      have gd0 := cell_regrown hd0
      have gd1 := cell_regrown hd1
      have gd2 := cell_regrown hd2
      have gd3 := cell_regrown hd3
      have gd4 := cell_regrown hd4
      have gd5 := cell_regrown hd5
      clear hc hd hc0 hd0 hc1 hd1 hc2 hd2 hc3 hd3 hc4 hd4 hc5 hd5
      have cq : ∀ d os, Calls Tryz.prog 37 #[.agg #[.string xs[k].id, .int .i64 xs[k].shut, .int .i64 xs[k].open_, .int .i64 xs[k].hold, .bool xs[k].shuts, .int .i64 xs[k].calm], .agg #[.string xs[k].id, .int .i64 xs[k].shut, .int .i64 xs[k].open_, .int .i64 xs[k].hold, .bool xs[k].shuts, .int .i64 xs[k].calm]] (Go.Sort.grow (redrawn wr d) os) fun e w'' => e = .returned (.bool true) ∧ ∃ p : Regrown, w'' = Go.Sort.grow (redrawn wr p.d) p.os := fun d os => Calls.regrown_of (eqGate_any xs[k] _)
      go_wp2
      refine wp_region_quiet_below (by kernel_rfl) (by kernel_rfl) ?_
      repeat (quiet_step (exact cq _ _))
      refine wpQuiet_nil ?_
      intro _ hw'
      obtain ⟨⟨dq, osq⟩, hw''⟩ := hw'
      subst hw''
      have hbq := below_regrown wr dq osq
      clear gc0 gd0 cq
      generalize Go.Sort.grow (redrawn wr dq) osq = wq at *
      go_wp2
      go_roundw
      case rel => exact ⟨k + 1, by omega, by go_num, hb.trans (hbq.mono hb.size)⟩
      case measure => simp [intOf]; omega
    · go_wp2
      go_ret
      exact ⟨rfl, hb⟩

def mkGate (k : Int) : DGate := ⟨mt (k), k + 1, k + 1 + 1, k + 1 + 1 + 1, ((k + 1 + 1 + 1 + 1) % 3 == 0), k + 1 + 1 + 1 + 1 + 1⟩
def marksGate (k : Int) (n : Nat) : List DGate := (List.range n).map fun (i : Nat) => mkGate (k + 6 * (i : Int))

theorem marksGate_get (k0 : Int) (n i : Nat) (h : i < (marksGate k0 n).length) : (marksGate k0 n)[i] = mkGate (k0 + 6 * (i : Int)) := by
  simp [marksGate]
theorem marksGate_len (k0 : Int) (n : Nat) : (marksGate k0 n).length = n := by simp [marksGate]

set_option maxRecDepth 100000 in
set_option maxHeartbeats 2000000 in
theorem markGateS_any (v : Value) (xs : List DGate) (fp : List Nat) (k0 : Int) (w : World) (hx : Sl fGate.cod w v xs fp) (h0 : 0 ≤ k0) (h1 : k0 + 6 * (xs.length : Int) ≤ 1000000000000) :
    Calls Tryz.prog 15 #[v, .int .i64 k0] w fun e w' => MarkR fGate.cod fp w (k0 + 6 * (xs.length : Int)) v (marksGate k0 xs.length) e w' := by
  obtain ⟨A, cap, rfl, hlen, hcap⟩ := hx.form
  by_cases hne : xs.length = 0
  · have : xs = [] := List.eq_nil_of_length_eq_zero hne
    subst this
    go_enter Tryz.func15, Tryz.ntmps15
    go_wp2
    go_loop [1, 5] (fun n i => i = .int .i64 0 ∧ n = .int .i64 k0) (fun _ _ => 0)
    case atStart => exact ⟨rfl, rfl⟩
    case round =>
      obtain ⟨rfl, rfl⟩ := hrel
      go_wp2
      go_ret
      exact ⟨ret_int (by simp), hx, .refl _ _⟩
  · obtain ⟨b, off, rfl, rfl, hbs, hcs0⟩ := hx.cells (by omega)
    go_enter Tryz.func15, Tryz.ntmps15
    go_wp2
    go_loopw [1, 5] (fun n i wr => ∃ k : Nat, k ≤ xs.length ∧ i = .int .i64 k ∧ ∃ q : Int, n = .int .i64 q ∧ 0 ≤ q ∧ Hid (q = k0 + 6 * (k : Int)) ∧ Cells wr b off (((List.range k).map fun (i : Nat) => mkGate (k0 + 6 * (i : Int))).flatMap fGate.enc ++ (xs.drop k).flatMap fGate.enc) ∧ Only [b] w wr) (fun _ i _ => xs.length - (intOf i).toNat)
    case atStart => exact ⟨0, Nat.zero_le _, rfl, k0, rfl, h0, by show _ = _; simp, by simpa using hcs0, .refl _ _⟩
    case round =>
      obtain ⟨k, hk, rfl, q, rfl, hq0, HQ, hcs, ho⟩ := hrel
      by_cases hlt : k < xs.length
      · have hq1 : q + 6 ≤ 1000000000000 := by have := HQ.out; omega
        have HC : Cells wr b off (((List.range k).map fun (i : Nat) => mkGate (k0 + 6 * (i : Int))).flatMap fGate.enc ++ ((.string xs[k].id : Value) :: (.int .i64 xs[k].shut : Value) :: (.int .i64 xs[k].open_ : Value) :: (.int .i64 xs[k].hold : Value) :: (.bool xs[k].shuts : Value) :: (.int .i64 xs[k].calm : Value) :: (xs.drop (k + 1)).flatMap fGate.enc)) := by
          have := hcs
          rw [List.drop_eq_getElem_cons hlt, List.flatMap_cons] at this
          exact this
        generalize HP : ((List.range k).map fun (i : Nat) => mkGate (k0 + 6 * (i : Int))).flatMap fGate.enc = pre at *
        have HL : pre.length = k * 6 := by rw [← HP, flat_len fGate.enc 6 _ (fun _ _ => rfl)]; simp
        generalize HR : (xs.drop (k + 1)).flatMap fGate.enc = post at *
        have HPH := Lib.hid HP
        clear HP hcs
        have HRH := Lib.hid HR
        clear HR
        have HLH := Lib.hid HL
        clear HL
        go_wp2_with fail
        refine (markText_any _ _ (by omega)).mono ?_
        rintro e w0 ⟨rfl, hbm⟩
        have HD0 := HC.keep (hbm.block b (by have := ho.size; simp at this ⊢; omega))
        have hoo := ho.trans (.of_below hbm)
        clear ho hbm HC
        have ho := hoo
        clear hoo
        have hu0 := HD0.at_mid (m := k * 6) (j := 0) (p := off + k * 6) HLH.out (by omega) (by simp) rfl
        have hz0 := HD0.free_mid (m := k * 6) (j := 0) (p := off + k * 6) HLH.out (by omega) (by simp)
        have hu1 := HD0.at_mid (m := k * 6) (j := 1) (p := off + k * 6 + 1) HLH.out (by omega) (by simp) rfl
        have hz1 := HD0.free_mid (m := k * 6) (j := 1) (p := off + k * 6 + 1) HLH.out (by omega) (by simp)
        have hu2 := HD0.at_mid (m := k * 6) (j := 2) (p := off + k * 6 + 2) HLH.out (by omega) (by simp) rfl
        have hz2 := HD0.free_mid (m := k * 6) (j := 2) (p := off + k * 6 + 2) HLH.out (by omega) (by simp)
        have hu3 := HD0.at_mid (m := k * 6) (j := 3) (p := off + k * 6 + 3) HLH.out (by omega) (by simp) rfl
        have hz3 := HD0.free_mid (m := k * 6) (j := 3) (p := off + k * 6 + 3) HLH.out (by omega) (by simp)
        have hu4 := HD0.at_mid (m := k * 6) (j := 4) (p := off + k * 6 + 4) HLH.out (by omega) (by simp) rfl
        have hz4 := HD0.free_mid (m := k * 6) (j := 4) (p := off + k * 6 + 4) HLH.out (by omega) (by simp)
        have hu5 := HD0.at_mid (m := k * 6) (j := 5) (p := off + k * 6 + 5) HLH.out (by omega) (by simp) rfl
        have hz5 := HD0.free_mid (m := k * 6) (j := 5) (p := off + k * 6 + 5) HLH.out (by omega) (by simp)
        go_wp2
        have HC0 := HD0.put (m := k * 6) (j := 0) (p := off + k * 6) HLH.out (by omega) (by simp) (.string (mt (q)))
        have ho_ := ho.set (off + k * 6) (.string (mt (q)))
        clear hu0 hz0 ho
        have ho := ho_
        clear ho_
        clear HD0
        have HC1 := HC0.put (m := k * 6) (j := 1) (p := off + k * 6 + 1) HLH.out (by omega) (by simp) (.int .i64 (q + 1))
        have ho_ := ho.set (off + k * 6 + 1) (.int .i64 (q + 1))
        clear hu1 hz1 ho
        have ho := ho_
        clear ho_
        clear HC0
        have HC2 := HC1.put (m := k * 6) (j := 2) (p := off + k * 6 + 2) HLH.out (by omega) (by simp) (.int .i64 (q + 1 + 1))
        have ho_ := ho.set (off + k * 6 + 2) (.int .i64 (q + 1 + 1))
        clear hu2 hz2 ho
        have ho := ho_
        clear ho_
        clear HC1
        have HC3 := HC2.put (m := k * 6) (j := 3) (p := off + k * 6 + 3) HLH.out (by omega) (by simp) (.int .i64 (q + 1 + 1 + 1))
        have ho_ := ho.set (off + k * 6 + 3) (.int .i64 (q + 1 + 1 + 1))
        clear hu3 hz3 ho
        have ho := ho_
        clear ho_
        clear HC2
        have HC4 := HC3.put (m := k * 6) (j := 4) (p := off + k * 6 + 4) HLH.out (by omega) (by simp) (.bool ((q + 1 + 1 + 1 + 1) % 3 == 0))
        have ho_ := ho.set (off + k * 6 + 4) (.bool ((q + 1 + 1 + 1 + 1) % 3 == 0))
        clear hu4 hz4 ho
        have ho := ho_
        clear ho_
        clear HC3
        have HC5 := HC4.put (m := k * 6) (j := 5) (p := off + k * 6 + 5) HLH.out (by omega) (by simp) (.int .i64 (q + 1 + 1 + 1 + 1 + 1))
        have ho_ := ho.set (off + k * 6 + 5) (.int .i64 (q + 1 + 1 + 1 + 1 + 1))
        clear hu5 hz5 ho
        have ho := ho_
        clear ho_
        clear HC4
        go_roundw
        case rel => exact ⟨k + 1, by omega, by go_num, q + 6, by go_num, by omega, by have := HQ.out; show _ = _; omega, marks_step (f := fun (i : Nat) => mkGate (k0 + 6 * (i : Int))) HPH.out HRH.out (by rw [← HQ.out] <;> rfl) HC5, ho⟩
        case measure => simp [intOf]; omega
      · have hk' : k = xs.length := by omega
        subst hk'
        rw [List.drop_length, List.flatMap_nil, List.append_nil] at hcs
        go_wp2
        go_ret
        have hsz := ho.size
        have hm := Sl.of_cells (E := fGate) (cap := cap) (xs := marksGate k0 xs.length) (by rw [marksGate_len]; exact hlen) hcap (by omega) hcs (by intro x hx; simp [marksGate] at hx; obtain ⟨i, hi, rfl⟩ := hx; exact ⟨mt_ok _ (by omega), (by simp only [fInt, mkGate]; omega), (by simp only [fInt, mkGate]; omega), (by simp only [fInt, mkGate]; omega), trivial, (by simp only [fInt, mkGate]; omega)⟩) (by rw [marksGate_len]; omega)
        rw [marksGate_len] at hm
        exact ⟨ret_int HQ.out, hm, ho⟩

set_option maxRecDepth 100000 in
set_option maxHeartbeats 2000000 in
theorem heldGateS_any (v : Value) (n0 : Nat) (fp : List Nat) (k0 : Int) (w : World) (hx0 : Sl fGate.cod w v (marksGate k0 n0) fp) (h0 : 0 ≤ k0) (h1 : k0 + 6 * (n0 : Int) ≤ 1000000000000) :
    Calls Tryz.prog 16 #[v, .int .i64 k0] w fun e w' => e = .returned (.int .i64 (k0 + 6 * (n0 : Int))) ∧ Below w.heap.size w w' := by
  have hn0 : (marksGate k0 n0).length = n0 := marksGate_len _ _
  obtain ⟨xs, hxs⟩ : ∃ xs, xs = marksGate k0 n0 := ⟨_, rfl⟩
  rw [← hxs] at hx0 hn0
  have hx := hx0
  clear hx0
  rw [← hn0] at h1
  have HN := Lib.hid hn0
  clear hn0
  have HXS := Lib.hid hxs
  clear hxs
  obtain ⟨A, cap, rfl, hlen, hcap⟩ := hx.form
  go_enter Tryz.func16, Tryz.ntmps16
  go_wp2
  go_loopw [1, 5] (fun n i wr => ∃ k : Nat, k ≤ xs.length ∧ i = .int .i64 k ∧ ∃ q : Int, n = .int .i64 q ∧ 0 ≤ q ∧ Hid (q = k0 + 6 * (k : Int)) ∧ Below w.heap.size w wr) (fun _ i _ => xs.length - (intOf i).toNat)
  case atStart => exact ⟨0, Nat.zero_le _, rfl, k0, rfl, h0, by show _ = _; omega, Below.refl _ _⟩
  case round =>
    obtain ⟨k, hk, rfl, q, rfl, hq0, HQ, hb⟩ := hrel
    by_cases hlt : k < xs.length
    · have hq1 : q + 6 ≤ 1000000000000 := by have := HQ.out; omega
      obtain ⟨b, off, rfl, _⟩ := hx.at_ hlt
      have hget : xs[k] = mkGate (k0 + 6 * (k : Int)) := by
        have hxs := HXS.out
        subst hxs
        exact marksGate_get _ _ _ _
      rw [← HQ.out] at hget
      have HG := Lib.hid hget
      clear hget
      have hc0 : wr.cell? ⟨b, off + k * 6, none⟩ = some (.string (mt (q))) := by
        have h := (hx.below' hb).atk hlt (j := 0) (by decide)
        rw [HG.out, show off + k * fGate.n + 0 = off + k * 6 from by (show off + k * 6 + 0 = _); omega] at h
        exact h
      have gc0 := cell_regrown hc0
      clear hc0
      have cq : ∀ d os, Calls Tryz.prog 30 #[.int .i64 (q)] (Go.Sort.grow (redrawn wr d) os) fun e w'' => e = .returned (.string (mt (q))) ∧ ∃ p : Regrown, w'' = Go.Sort.grow (redrawn wr p.d) p.os := fun d os => Calls.regrown_of (markText_any _ _ (by omega))
      go_wp2_with fail
      refine wp_region_quiet_below (by kernel_rfl) (by kernel_rfl) ?_
      repeat (quiet_step (exact cq _ _))
      refine wpQuiet_nil ?_
      intro _ hw'
      obtain ⟨⟨dq, osq⟩, hw''⟩ := hw'
      subst hw''
      have hbq := below_regrown wr dq osq
      clear gc0 cq
      generalize Go.Sort.grow (redrawn wr dq) osq = wq0 at *
      have hbb := hb.trans (hbq.mono hb.size)
      clear hb hbq
      have hb := hbb
      clear hbb
      have hc1 : wq0.cell? ⟨b, off + k * 6 + 1, none⟩ = some (.int .i64 (q + 1)) := by
        have h := (hx.below' hb).atk hlt (j := 1) (by decide)
        rw [HG.out, show off + k * fGate.n + 1 = off + k * 6 + 1 from by (show off + k * 6 + 1 = _); omega] at h
        exact h
      have hc2 : wq0.cell? ⟨b, off + k * 6 + 2, none⟩ = some (.int .i64 (q + 1 + 1)) := by
        have h := (hx.below' hb).atk hlt (j := 2) (by decide)
        rw [HG.out, show off + k * fGate.n + 2 = off + k * 6 + 2 from by (show off + k * 6 + 2 = _); omega] at h
        exact h
      have hc3 : wq0.cell? ⟨b, off + k * 6 + 3, none⟩ = some (.int .i64 (q + 1 + 1 + 1)) := by
        have h := (hx.below' hb).atk hlt (j := 3) (by decide)
        rw [HG.out, show off + k * fGate.n + 3 = off + k * 6 + 3 from by (show off + k * 6 + 3 = _); omega] at h
        exact h
      have hc4 : wq0.cell? ⟨b, off + k * 6 + 4, none⟩ = some (.bool ((q + 1 + 1 + 1 + 1) % 3 == 0)) := by
        have h := (hx.below' hb).atk hlt (j := 4) (by decide)
        rw [HG.out, show off + k * fGate.n + 4 = off + k * 6 + 4 from by (show off + k * 6 + 4 = _); omega] at h
        exact h
      have hc5 : wq0.cell? ⟨b, off + k * 6 + 5, none⟩ = some (.int .i64 (q + 1 + 1 + 1 + 1 + 1)) := by
        have h := (hx.below' hb).atk hlt (j := 5) (by decide)
        rw [HG.out, show off + k * fGate.n + 5 = off + k * 6 + 5 from by (show off + k * 6 + 5 = _); omega] at h
        exact h
      go_wp2
      go_roundw
      case rel => exact ⟨k + 1, by omega, by go_num, q + 6, by go_num, by omega, by have := HQ.out; show _ = _; omega, hb⟩
      case measure => simp [intOf]; omega
    · have hk' : k = xs.length := by omega
      go_wp2
      go_ret
      exact ⟨ret_int (by rw [HQ.out, hk', HN.out]), hb⟩

end Go.Proofs.YtaaholabodchaaaGreatDoor
