/- Parts of the proof: Ry, Rz, Bz, TInt64, TInt64SS, By, Gh, Pq, Ms, B10, Law. -/
import Derived.Test.YtjfaafoldllppaaG05
import Derived.Test.YtjfaafoldllppaaG04
import Derived.Test.YtjfaafoldllppaaG03
import Derived.Deep.CutRange
import Derived.Deep.AppendLies
import Derived.Test.YtjfaafoldllppaaG01
import Derived.Test.YtjfaafoldllppaaG02
import Derived.ProofKit
import Derived.ChangeSame
namespace Go.Proofs.Ytjfaafoldllppaa
open Go.RowKit
set_option linter.unusedVariables false
set_option linter.unusedSimpArgs false

/-- The searcher of the program: its fields, the rows by their values. -/
def boxI (lv : Value) (lvl : Int) (gu n : Nat) (b most : Int) (vp vb : Value) : List Value :=
  [lv, .int .i64 lvl, .int .i64 b, .slice (some ⟨gu, 0, none⟩) n n, vp, vb, .int .i64 most]
def SMI (w : World) (B g gu : Nat) (lv : Value) (lvl b : Int) (U : List Bool) (P : List (Nat × Nat)) (S : Sr) : Prop :=
  ∃ vp vb Vp Gp Vb Gb, SMem w B g gu (boxI lv lvl gu U.length b S.most) U P S.best vp vb Vp Gp Vb Gb
/-- The program's budget goes on below nought; the reference's count stands at -1. -/
def bRel (b c : Int) : Prop := (0 ≤ c → b = c) ∧ (c < 0 → b < 0)
def morG (x : DGroup) (lvl : Int) : Int := if groupB x && goesB x lvl then x.people else 0
theorem morG_bounds {x : DGroup} {lvl : Int} : 0 ≤ morG x lvl ∧ morG x lvl ≤ 1000 := by
  unfold morG
  cases h : (groupB x && goesB x lvl)
  · simp
  · rw [Bool.and_eq_true] at h
    have := groupB_people h.1
    simp only [if_true]; omega
def IPost (xs : List DGroup) (B g gu : Nat) (lv : Value) (lvl bud : Int) (U : List Bool) (P : List (Nat × Nat)) (S : Sr) (lim : Int) (w : World) (e : Ending) (w' : World) : Prop :=
  e = .returned (.tuple #[]) ∧ ∃ b, SMI w' B g gu lv lvl b U P S ∧ bRel b S.c ∧ lim ≤ b ∧ SrOk xs.length bud S ∧ Below B w w'
def VisitI (xs : List DGroup) (B g gu : Nat) (lv : Value) (fpl : List Nat) (lvl bud : Int) (m : Nat) : Prop :=
  ∀ (U : List Bool) (P : List (Nat × Nat)) (S : Sr) (people : Int) (w : World), m ≤ xs.length → U.length = xs.length → SmallN xs.length P → P.length + m ≤ xs.length → SmallN xs.length S.best → 0 ≤ S.c → S.c ≤ bud → 0 ≤ people → people + 1000 * (m : Int) ≤ 100000 → -1 ≤ S.most ∧ S.most ≤ 100000 →
      Sl fGroup.cod w lv xs fpl → SMI w B g gu lv lvl S.c U P S →
    Calls Try.prog 33 #[.pointer (some ⟨g, 0, none⟩), .int .i64 ((xs.length - m : Nat) : Int), .int .i64 people] w
      (IPost xs B g gu lv lvl bud U P (visitF (wOne xs lvl) (wTwo xs lvl) xs.length m U P people S) (-(9 * (m : Int))) w)
def NodeI (xs : List DGroup) (B g gu : Nat) (lv : Value) (fpl : List Nat) (lvl bud : Int) (m : Nat) : Prop :=
  ∀ (U : List Bool) (P : List (Nat × Nat)) (S : Sr) (people b : Int) (x : DGroup) (i : Nat) (w : World), i + (m + 1) = xs.length → U.length = xs.length → SmallN xs.length P → P.length + m ≤ xs.length → SmallN xs.length S.best → -1 ≤ S.c → S.c ≤ bud → bRel b S.c → -1000 ≤ b → 0 ≤ people → people + 1000 * ((m : Int) + 1) ≤ 100000 → -1 ≤ S.most ∧ S.most ≤ 100000 → fGroup.ok x →
      Sl fGroup.cod w lv xs fpl → SMI w B g gu lv lvl b U P S →
    Calls Try.prog 59 #[.pointer (some ⟨g, 0, none⟩), .int .i64 (i : Int), .int .i64 people, .agg #[.string x.id, .int .i64 x.people, .int .i64 x.guides, .int .i64 x.beacons, .int .i64 x.shovels, .int .i64 x.probes, .int .i64 x.skill]] w
      (IPost xs B g gu lv lvl bud U P (childF (visitF (wOne xs lvl) (wTwo xs lvl) xs.length m U P) (people + morG x lvl) S) (if b ≤ 0 then b - 1 else -(9 * (m : Int))) w)
set_option maxRecDepth 100000 in
set_option maxHeartbeats 8000000 in
theorem node_of_visitI (xs : List DGroup) (B g gu : Nat) (lv : Value) (fpl : List Nat) (hfl : ∀ b ∈ fpl, b < B) (lvl bud : Int) (hbud : bud ≤ 1000000000000) (hn8 : xs.length ≤ 8) (m : Nat) (ih : VisitI xs B g gu lv fpl lvl bud m) : NodeI xs B g gu lv fpl lvl bud m := by
  intro U Pp S people b x i w him hU hP hPm hQ hc0 hcb hbr hb1 hp0 hp1 hmo hx hlist hM0
  obtain ⟨vp, vb, Vp, Gp, Vb, Gb, hM00⟩ := hM0
  have hM1 := hM00.field (box' := boxI lv lvl gu U.length (b - 1) S.most) 2 (.int .i64 (b - 1)) rfl
  have hgl := hM00.bx.lt
  have hgB := hM00.gB
  have c2 : w.cell? ⟨g, 2, none⟩ = some (.int .i64 b) := hM00.bx.cell 2 _ rfl
  have z2 := hM00.bx.frz 2 (by show 2 < 7; decide)
  have hBw : B ≤ w.heap.size := Nat.le_trans hgB (Nat.le_of_lt hgl)
  have hbS := (Below.refl B w).setCell (p := ⟨g, 2, none⟩) hgB (.int .i64 (b - 1))
  have hA : Below (w.setCell ⟨g, 2, none⟩ (.int .i64 (b - 1))).heap.size (w.setCell ⟨g, 2, none⟩ (.int .i64 (b - 1))) ((w.setCell ⟨g, 2, none⟩ (.int .i64 (b - 1))).alloc (.cells #[.string x.id, .int .i64 x.people, .int .i64 x.guides, .int .i64 x.beacons, .int .i64 x.shovels, .int .i64 x.probes, .int .i64 x.skill] 43)) := (Below.refl _ _).alloc (Nat.le_refl _) _
  have hM2 := hM1.below hA
  have hb2 : Below B w ((w.setCell ⟨g, 2, none⟩ (.int .i64 (b - 1))).alloc (.cells #[.string x.id, .int .i64 x.people, .int .i64 x.guides, .int .i64 x.beacons, .int .i64 x.shovels, .int .i64 x.probes, .int .i64 x.skill] 43)) := hbS.alloc (by rw [World.size_setCell]; exact hBw) _
  have hpx : PGroup ((w.setCell ⟨g, 2, none⟩ (.int .i64 (b - 1))).alloc (.cells #[.string x.id, .int .i64 x.people, .int .i64 x.guides, .int .i64 x.beacons, .int .i64 x.shovels, .int .i64 x.probes, .int .i64 x.skill] 43)) w.heap.size 0 x := by
    have h := PGroup.box (w.setCell ⟨g, 2, none⟩ (.int .i64 (b - 1))) x 43
    rw [World.size_setCell] at h; exact h
  have hbb : b ≤ 1000000000000 := by
    rcases Int.lt_or_le S.c 0 with h | h
    · have := hbr.2 h; omega
    · have := hbr.1 h; omega
  have hdec : wrap64 (b - 1) = b - 1 := by unfold wrap64; omega
  clear hA hM1 hbS hdec
  go_enter Try.func59, Try.ntmps59
  by_cases hb0' : b ≤ 0
  · have hlt : b - 1 < 0 := by omega
    have hc : S.c ≤ 0 := by
      rcases Int.lt_or_le S.c 0 with h | h
      · omega
      · have := hbr.1 h; omega
    have c2' : ((w.setCell ⟨g, 2, none⟩ (.int .i64 (b - 1))).alloc (.cells #[.string x.id, .int .i64 x.people, .int .i64 x.guides, .int .i64 x.beacons, .int .i64 x.shovels, .int .i64 x.probes, .int .i64 x.skill] 43)).cell? ⟨g, 2, none⟩ = some (.int .i64 (b - 1)) := hM2.bx.cell 2 _ rfl
    go_wp2
    refine bodyPost_ret (results_none rfl _ _ _) rfl ?_
    rw [childF_dead hc]
    try rw [if_pos hb0']
    exact ⟨rfl, b - 1, ⟨_, _, _, _, _, _, hM2⟩, ⟨fun h => absurd h (by show ¬ (0 : Int) ≤ -1; omega), fun _ => hlt⟩, Int.le_refl _, ⟨hQ, ⟨by show (-1 : Int) ≤ -1; omega, by show (-1 : Int) ≤ bud; omega⟩, hmo⟩, hb2⟩
  · have hlt : 0 ≤ b - 1 := by omega
    have hc : 0 < S.c := by
      rcases Int.lt_or_le S.c 0 with h | h
      · have := hbr.2 h; omega
      · have := hbr.1 h; omega
    have hbc : b = S.c := hbr.1 (by omega)
    have HC := Lib.hid (childF_live (f := visitF (wOne xs lvl) (wTwo xs lvl) xs.length m U Pp) (p := people + morG x lvl) (S := S) hc)
    rw [if_neg hb0']
    have hgp := fun h : groupB x = true => groupB_people h
    subst hbc
    go_upto_region 3 with fail
    refine at_world (fun W => SMem W B g gu (boxI lv lvl gu U.length (S.c - 1) S.most) U Pp S.best vp vb Vp Gp Vb Gb ∧ Below B w W ∧ PGroup W w.heap.size 0 x) ⟨hM2, hb2, hpx⟩ ?_
    clear hM2 hb2 hpx c2 z2 hM00
    rintro W ⟨hM, hb0, hpx⟩
    generalize w.heap.size = bx at *
    have hBW : B ≤ W.heap.size := Nat.le_trans hgB (Nat.le_of_lt hM.bx.lt)
    obtain ⟨k0, k1, k2, k3, k4, k5, k6⟩ := id hpx
    have c1 : W.cell? ⟨g, 1, none⟩ = some (.int .i64 lvl) := hM.bx.cell 1 _ rfl
    have gk0 := cell_regrown k0
    have gk1 := cell_regrown k1
    have gk2 := cell_regrown k2
    have gk3 := cell_regrown k3
    have gk4 := cell_regrown k4
    have gk5 := cell_regrown k5
    have gk6 := cell_regrown k6
    have gc1 := cell_regrown c1
    refine wp_region_mix (C := fun w' => ∃ p : Regrown, w' = Go.Sort.grow (redrawn W p.d) p.os) [true, false, true, true, true, true, true, true, false, true] (by kernel_rfl) (by kernel_rfl) (by kernel_rfl) (fun _ _ d _ _ h => by cases d <;> exact h) (regrown_of_below (Below.drew (Below.refl _ _))) ?_
    have hS0 : Below (W.heap.size) W W.drew := Below.drew (Below.refl _ _)
    refine wpMix_pure (by kernel_rfl) (fun K hK => ?_); go_big_quiet_op; refine hK _ ?_; clear hK K
    refine wpMix_act (by kernel_rfl) (fun K hK => ?_)
    go_big_op
    refine (implValid_any x W.drew hx).mono ?_
    rintro e wr1 ⟨rfl, hbr1⟩
    have hbr1S : Below (W.heap.size) W wr1 := hS0.trans (hbr1.mono hS0.size)
    refine hK _ _ (regrown_of_below hbr1S) ?_
    clear hK K
    cases hq1 : groupB x
    · skip
      refine wpMix_pure (by kernel_rfl) (fun K hK => ?_); go_big_quiet_op; refine hK _ ?_; clear hK K
      refine wpMix_skip (by kernel_rfl) (fun K hK => ?_)
      simp only [Act.put, List.setIfInBounds_toArray, List.set_cons_zero, List.set_cons_succ]
      refine hK _ ?_; clear hK K
      refine wpMix_skip (by kernel_rfl) (fun K hK => ?_)
      simp only [Act.put, List.setIfInBounds_toArray, List.set_cons_zero, List.set_cons_succ]
      refine hK _ ?_; clear hK K
      refine wpMix_skip (by kernel_rfl) (fun K hK => ?_)
      simp only [Act.put, List.setIfInBounds_toArray, List.set_cons_zero, List.set_cons_succ]
      refine hK _ ?_; clear hK K
      refine wpMix_skip (by kernel_rfl) (fun K hK => ?_)
      simp only [Act.put, List.setIfInBounds_toArray, List.set_cons_zero, List.set_cons_succ]
      refine hK _ ?_; clear hK K
      refine wpMix_skip (by kernel_rfl) (fun K hK => ?_)
      simp only [Act.put, List.setIfInBounds_toArray, List.set_cons_zero, List.set_cons_succ]
      refine hK _ ?_; clear hK K
      refine wpMix_skip (by kernel_rfl) (fun K hK => ?_)
      simp only [Act.put, List.setIfInBounds_toArray, List.set_cons_zero, List.set_cons_succ]
      refine hK _ ?_; clear hK K
      refine wpMix_pure (by kernel_rfl) (fun K hK => ?_); go_big_quiet_op; refine hK _ ?_; clear hK K
      refine wpMix_nil ?_
      have hM9 := hM.below hbr1S
      have hb9 := hb0.trans (hbr1S.mono hBW)
      have hl9 := hlist.below hb9 hfl
      have hmr : morG x lvl = 0 := by unfold morG; rw [hq1]; rfl
      have HC2 := Lib.hid (HC.out.trans (show _ = visitF (wOne xs lvl) (wTwo xs lvl) xs.length m U Pp (people) ⟨S.best, S.most, S.c - 1⟩ by rw [hmr, Int.add_zero]))
      clear HC

      have hpp : 0 ≤ people ∧ people + 1000 * (m : Int) ≤ 100000 := by omega
      have hi8 : i ≤ 8 := by omega

      have hvs := ih U Pp ⟨S.best, S.most, S.c - 1⟩ (people) _ (by omega) hU hP hPm hQ (by show 0 ≤ S.c - 1; omega) (by show S.c - 1 ≤ bud; omega) hpp.1 hpp.2 hmo hl9 ⟨_, _, _, _, _, _, hM9⟩
      have hat : ((xs.length - m : Nat) : Int) = (i : Int) + 1 := by omega
      rw [hat] at hvs
      clear hmr hat hq1 gk0 gk1 gk2 gk3 gk4 gk5 gk6 gc1 k0 k1 k2 k3 k4 k5 k6 hM9 hpp hgp
      go_wp2_with fail
      refine hvs.mono ?_
      rintro e wz ⟨rfl, b', hmz, hbz, hlz, hSz, hBz⟩
      go_wp2
      refine bodyPost_end (results_none rfl _ _ _) rfl ?_
      exact ⟨rfl, b', by rw [HC2.out]; exact hmz, by rw [HC2.out]; exact hbz, hlz, by rw [HC2.out]; exact hSz, hb9.trans hBz⟩
    · skip
      refine wpMix_pure (by kernel_rfl) (fun K hK => ?_); go_big_quiet_op; refine hK _ ?_; clear hK K
      refine wpMix_pure (by kernel_rfl) (fun K hK => ?_); go_big_quiet_op; refine hK _ ?_; clear hK K
      refine wpMix_pure (by kernel_rfl) (fun K hK => ?_); go_big_quiet_op; refine hK _ ?_; clear hK K
      refine wpMix_pure (by kernel_rfl) (fun K hK => ?_); go_big_quiet_op; refine hK _ ?_; clear hK K
      refine wpMix_pure (by kernel_rfl) (fun K hK => ?_); go_big_quiet_op; refine hK _ ?_; clear hK K
      refine wpMix_pure (by kernel_rfl) (fun K hK => ?_); go_big_quiet_op; refine hK _ ?_; clear hK K
      refine wpMix_act (by kernel_rfl) (fun K hK => ?_)
      go_big_op
      refine (implGoes_any x lvl wr1 hx (hgp hq1)).mono ?_
      rintro e wr2 ⟨rfl, hbr2⟩
      have hbr2S : Below (W.heap.size) W wr2 := hbr1S.trans (hbr2.mono hbr1S.size)
      refine hK _ _ (regrown_of_below hbr2S) ?_
      clear hK K
      cases hq8 : goesB x lvl
      · skip
        refine wpMix_pure (by kernel_rfl) (fun K hK => ?_); go_big_quiet_op; refine hK _ ?_; clear hK K
        refine wpMix_nil ?_
        have hM9 := hM.below hbr2S
        have hb9 := hb0.trans (hbr2S.mono hBW)
        have hl9 := hlist.below hb9 hfl
        have hmr : morG x lvl = 0 := by unfold morG; rw [hq1, hq8]; rfl
        have HC2 := Lib.hid (HC.out.trans (show _ = visitF (wOne xs lvl) (wTwo xs lvl) xs.length m U Pp (people) ⟨S.best, S.most, S.c - 1⟩ by rw [hmr, Int.add_zero]))
        clear HC

        have hpp : 0 ≤ people ∧ people + 1000 * (m : Int) ≤ 100000 := by omega
        have hi8 : i ≤ 8 := by omega

        have hvs := ih U Pp ⟨S.best, S.most, S.c - 1⟩ (people) _ (by omega) hU hP hPm hQ (by show 0 ≤ S.c - 1; omega) (by show S.c - 1 ≤ bud; omega) hpp.1 hpp.2 hmo hl9 ⟨_, _, _, _, _, _, hM9⟩
        have hat : ((xs.length - m : Nat) : Int) = (i : Int) + 1 := by omega
        rw [hat] at hvs
        clear hmr hat hq1 hq8 gk0 gk1 gk2 gk3 gk4 gk5 gk6 gc1 k0 k1 k2 k3 k4 k5 k6 hM9 hpp hgp
        go_wp2_with fail
        refine hvs.mono ?_
        rintro e wz ⟨rfl, b', hmz, hbz, hlz, hSz, hBz⟩
        go_wp2
        refine bodyPost_end (results_none rfl _ _ _) rfl ?_
        exact ⟨rfl, b', by rw [HC2.out]; exact hmz, by rw [HC2.out]; exact hbz, hlz, by rw [HC2.out]; exact hSz, hb9.trans hBz⟩
      · skip
        refine wpMix_pure (by kernel_rfl) (fun K hK => ?_); go_big_quiet_op; refine hK _ ?_; clear hK K
        refine wpMix_nil ?_
        have hM9 := hM.below hbr2S
        have hb9 := hb0.trans (hbr2S.mono hBW)
        have hl9 := hlist.below hb9 hfl
        have hmr : morG x lvl = x.people := by unfold morG; rw [hq1, hq8]; rfl
        have HC2 := Lib.hid (HC.out.trans (show _ = visitF (wOne xs lvl) (wTwo xs lvl) xs.length m U Pp (people + x.people) ⟨S.best, S.most, S.c - 1⟩ by rw [hmr]))
        clear HC
        have k1n : wr2.cell? ⟨bx, 1, none⟩ = some (.int .i64 x.people) := (hpx.below hbr2S hpx.lt).c1
        have hpp : 0 ≤ people + x.people ∧ people + x.people + 1000 * (m : Int) ≤ 100000 := by have := hgp hq1; omega
        have hi8 : i ≤ 8 := by omega
        have hpb := hgp hq1
        have hvs := ih U Pp ⟨S.best, S.most, S.c - 1⟩ (people + x.people) _ (by omega) hU hP hPm hQ (by show 0 ≤ S.c - 1; omega) (by show S.c - 1 ≤ bud; omega) hpp.1 hpp.2 hmo hl9 ⟨_, _, _, _, _, _, hM9⟩
        have hat : ((xs.length - m : Nat) : Int) = (i : Int) + 1 := by omega
        rw [hat] at hvs
        clear hmr hat hq1 hq8 gk0 gk1 gk2 gk3 gk4 gk5 gk6 gc1 k0 k1 k2 k3 k4 k5 k6 hM9 hpp hgp
        go_wp2_with fail
        refine hvs.mono ?_
        rintro e wz ⟨rfl, b', hmz, hbz, hlz, hSz, hBz⟩
        go_wp2
        refine bodyPost_end (results_none rfl _ _ _) rfl ?_
        exact ⟨rfl, b', by rw [HC2.out]; exact hmz, by rw [HC2.out]; exact hbz, hlz, by rw [HC2.out]; exact hSz, hb9.trans hBz⟩
/-- What a round of the copy reads. -/
structure Row1 (w : World) (g : Nat) (a : Value) : Prop where
  c5 : w.cell? ⟨g, 5, none⟩ = some a
theorem Row1.ltg {w : World} {g : Nat} {a : Value} (h : Row1 w g a) : g < w.heap.size := block_lt_of_cell h.c5
theorem Row1.keep {w w' : World} {g : Nat} {a : Value} (h : Row1 w g a) (h1 : w'.heap[g]? = w.heap[g]?) : Row1 w' g a := ⟨(World.cell?_of_block (a := ⟨g, 5, none⟩) h1).trans h.c5⟩
theorem Row1.below {w w' : World} {g : Nat} {a : Value} (h : Row1 w g a) (hb : Below w.heap.size w w') : Row1 w' g a := h.keep (hb.block g h.ltg)
set_option maxRecDepth 100000 in
set_option maxHeartbeats 16000000 in
theorem visitI_any (xs : List DGroup) (hv : groupsB xs = true) (B g gu : Nat) (lv : Value) (fpl : List Nat) (hfl : ∀ b ∈ fpl, b < B) (lvl bud : Int) (hbud : 0 ≤ bud ∧ bud ≤ 1000000000000) (m : Nat) : VisitI xs B g gu lv fpl lvl bud m := by
  have hn8 := groupsB_len hv
  obtain ⟨i1, hi1, hy0, hy1, hy2⟩ := info_parts infoRowI
  induction m using Nat.strongRecOn with | _ m ih => ?_
  intro U Pp S people w hm hU hP hPm hQ hc0 hcb hp0 hp1 hmo hlist hM
  obtain ⟨vp, vb, Vp, Gp, Vb, Gb, hS⟩ := hM
  have hgl := hS.bx.lt
  have c0 : w.cell? ⟨g, 0, none⟩ = some lv := hS.bx.cell 0 _ rfl
  obtain ⟨A, cap, rfl, hle, hca⟩ := hlist.form
  have c3 : w.cell? ⟨g, 3, none⟩ = some (.slice (some ⟨gu, 0, none⟩) U.length U.length) := hS.bx.cell 3 _ rfl
  go_enter Try.func33, Try.ntmps33
  go_wp2
  go_loop [1] (fun a => ∃ m' : Nat, m' ≤ m ∧ a = .int .i64 ((xs.length - m' : Nat) : Int) ∧ Hid (visitF (wOne xs lvl) (wTwo xs lvl) xs.length m U Pp people S = visitF (wOne xs lvl) (wTwo xs lvl) xs.length m' U Pp people S)) (fun a => xs.length - (intOf a).toNat)
  case atStart => exact ⟨m, Nat.le_refl _, rfl, rfl⟩
  case round =>
    obtain ⟨m', hm', rfl, HV⟩ := hrel
    cases m' with
    | zero =>
      simp only [Nat.sub_zero]
      have hsP := hP.small hn8
      have hsQ := hQ.small hn8
      obtain ⟨A3, k3, rfl⟩ := hS.pr.form
      have c6 : w.cell? ⟨g, 6, none⟩ = some (.int .i64 S.most) := hS.bx.cell 6 _ rfl
      have c4 : w.cell? ⟨g, 4, none⟩ = some (.slice A3 Pp.length k3) := hS.bx.cell 4 _ rfl
      have c5 : w.cell? ⟨g, 5, none⟩ = some vb := hS.bx.cell 5 _ rfl
      have HVz : Hid (visitF (wOne xs lvl) (wTwo xs lvl) xs.length m U Pp people S = leafF Pp people S) := HV
      have hcbb := cmpP_bounds Pp S.best
      clear HV
      go_upto_region 3 with fail
      go_cut [59] from 9 (fun s wx => s = .bool (updB Pp people S) ∧ Below w.heap.size w wx)
      case first =>
        have gc6 := cell_regrown c6
        have gc4 := cell_regrown c4
        have gc5 := cell_regrown c5
        refine wp_region_mix (C := fun w' => ∃ p : Regrown, w' = Go.Sort.grow (redrawn w p.d) p.os) [true, true, true, true, true, true, true, true, true, true, true, true, true, true, true, true, true, true, true, true, true, true, false, true, true, true] (by kernel_rfl) (by kernel_rfl) (by kernel_rfl) (fun _ _ d _ _ h => by cases d <;> exact h) (regrown_of_below (Below.drew (Below.refl _ _))) ?_
        have hS0 : Below (w.heap.size) w w.drew := Below.drew (Below.refl _ _)
        refine wpMix_pure (by kernel_rfl) (fun K hK => ?_); go_big_quiet_op; refine hK _ ?_; clear hK K
        refine wpMix_pure (by kernel_rfl) (fun K hK => ?_); go_big_quiet_op; refine hK _ ?_; clear hK K
        refine wpMix_pure (by kernel_rfl) (fun K hK => ?_); go_big_quiet_op; refine hK _ ?_; clear hK K
        refine wpMix_pure (by kernel_rfl) (fun K hK => ?_); go_big_quiet_op; refine hK _ ?_; clear hK K
        refine wpMix_pure (by kernel_rfl) (fun K hK => ?_); go_big_quiet_op; refine hK _ ?_; clear hK K
        by_cases hq5 : S.most < people
        · skip
          refine wpMix_pure (by kernel_rfl) (fun K hK => ?_); go_big_quiet_op; refine hK _ ?_; clear hK K
          refine wpMix_pure (by kernel_rfl) (fun K hK => ?_); go_big_quiet_op; refine hK _ ?_; clear hK K
          refine wpMix_skip (by kernel_rfl) (fun K hK => ?_)
          simp only [Act.put, List.setIfInBounds_toArray, List.set_cons_zero, List.set_cons_succ]
          refine hK _ ?_; clear hK K
          refine wpMix_skip (by kernel_rfl) (fun K hK => ?_)
          simp only [Act.put, List.setIfInBounds_toArray, List.set_cons_zero, List.set_cons_succ]
          refine hK _ ?_; clear hK K
          refine wpMix_skip (by kernel_rfl) (fun K hK => ?_)
          simp only [Act.put, List.setIfInBounds_toArray, List.set_cons_zero, List.set_cons_succ]
          refine hK _ ?_; clear hK K
          refine wpMix_skip (by kernel_rfl) (fun K hK => ?_)
          simp only [Act.put, List.setIfInBounds_toArray, List.set_cons_zero, List.set_cons_succ]
          refine hK _ ?_; clear hK K
          refine wpMix_skip (by kernel_rfl) (fun K hK => ?_)
          simp only [Act.put, List.setIfInBounds_toArray, List.set_cons_zero, List.set_cons_succ]
          refine hK _ ?_; clear hK K
          refine wpMix_skip (by kernel_rfl) (fun K hK => ?_)
          simp only [Act.put, List.setIfInBounds_toArray, List.set_cons_zero, List.set_cons_succ]
          refine hK _ ?_; clear hK K
          refine wpMix_skip (by kernel_rfl) (fun K hK => ?_)
          simp only [Act.put, List.setIfInBounds_toArray, List.set_cons_zero, List.set_cons_succ]
          refine hK _ ?_; clear hK K
          refine wpMix_skip (by kernel_rfl) (fun K hK => ?_)
          simp only [Act.put, List.setIfInBounds_toArray, List.set_cons_zero, List.set_cons_succ]
          refine hK _ ?_; clear hK K
          refine wpMix_skip (by kernel_rfl) (fun K hK => ?_)
          simp only [Act.put, List.setIfInBounds_toArray, List.set_cons_zero, List.set_cons_succ]
          refine hK _ ?_; clear hK K
          refine wpMix_skip (by kernel_rfl) (fun K hK => ?_)
          simp only [Act.put, List.setIfInBounds_toArray, List.set_cons_zero, List.set_cons_succ]
          refine hK _ ?_; clear hK K
          refine wpMix_skip (by kernel_rfl) (fun K hK => ?_)
          simp only [Act.put, List.setIfInBounds_toArray, List.set_cons_zero, List.set_cons_succ]
          refine hK _ ?_; clear hK K
          refine wpMix_skip (by kernel_rfl) (fun K hK => ?_)
          simp only [Act.put, List.setIfInBounds_toArray, List.set_cons_zero, List.set_cons_succ]
          refine hK _ ?_; clear hK K
          refine wpMix_skip (by kernel_rfl) (fun K hK => ?_)
          simp only [Act.put, List.setIfInBounds_toArray, List.set_cons_zero, List.set_cons_succ]
          refine hK _ ?_; clear hK K
          refine wpMix_skip (by kernel_rfl) (fun K hK => ?_)
          simp only [Act.put, List.setIfInBounds_toArray, List.set_cons_zero, List.set_cons_succ]
          refine hK _ ?_; clear hK K
          refine wpMix_skip (by kernel_rfl) (fun K hK => ?_)
          simp only [Act.put, List.setIfInBounds_toArray, List.set_cons_zero, List.set_cons_succ]
          refine hK _ ?_; clear hK K
          refine wpMix_skip (by kernel_rfl) (fun K hK => ?_)
          simp only [Act.put, List.setIfInBounds_toArray, List.set_cons_zero, List.set_cons_succ]
          refine hK _ ?_; clear hK K
          refine wpMix_skip (by kernel_rfl) (fun K hK => ?_)
          simp only [Act.put, List.setIfInBounds_toArray, List.set_cons_zero, List.set_cons_succ]
          refine hK _ ?_; clear hK K
          refine wpMix_skip (by kernel_rfl) (fun K hK => ?_)
          simp only [Act.put, List.setIfInBounds_toArray, List.set_cons_zero, List.set_cons_succ]
          refine hK _ ?_; clear hK K
          refine wpMix_pure (by kernel_rfl) (fun K hK => ?_); go_big_quiet_op; refine hK _ ?_; clear hK K
          refine wpMix_nil ?_
          go_wp2
          go_meet
          case rel => exact ⟨by rw [show updB Pp people S = true from by unfold updB; rw [decide_eq_true hq5]; rfl], hS0⟩
        · skip
          refine wpMix_pure (by kernel_rfl) (fun K hK => ?_); go_big_quiet_op; refine hK _ ?_; clear hK K
          refine wpMix_pure (by kernel_rfl) (fun K hK => ?_); go_big_quiet_op; refine hK _ ?_; clear hK K
          refine wpMix_pure (by kernel_rfl) (fun K hK => ?_); go_big_quiet_op; refine hK _ ?_; clear hK K
          refine wpMix_pure (by kernel_rfl) (fun K hK => ?_); go_big_quiet_op; refine hK _ ?_; clear hK K
          refine wpMix_pure (by kernel_rfl) (fun K hK => ?_); go_big_quiet_op; refine hK _ ?_; clear hK K
          refine wpMix_pure (by kernel_rfl) (fun K hK => ?_); go_big_quiet_op; refine hK _ ?_; clear hK K
          refine wpMix_pure (by kernel_rfl) (fun K hK => ?_); go_big_quiet_op; refine hK _ ?_; clear hK K
          by_cases hq12 : people = S.most
          · skip
            have e12 : (people == S.most) = true := beq_iff_eq.2 hq12
            replace hq12 := Lib.hid hq12
            refine wpMix_pure (by kernel_rfl) (fun K hK => ?_); go_big_quiet_op; refine hK _ ?_; clear hK K
            refine wpMix_pure (by kernel_rfl) (fun K hK => ?_); go_big_quiet_op; refine hK _ ?_; clear hK K
            refine wpMix_pure (by kernel_rfl) (fun K hK => ?_); go_big_quiet_op; refine hK _ ?_; clear hK K
            refine wpMix_pure (by kernel_rfl) (fun K hK => ?_); go_big_quiet_op; refine hK _ ?_; clear hK K
            refine wpMix_pure (by kernel_rfl) (fun K hK => ?_); go_big_quiet_op; refine hK _ ?_; clear hK K
            refine wpMix_pure (by kernel_rfl) (fun K hK => ?_); go_big_quiet_op; refine hK _ ?_; clear hK K
            refine wpMix_pure (by kernel_rfl) (fun K hK => ?_); go_big_quiet_op; refine hK _ ?_; clear hK K
            refine wpMix_pure (by kernel_rfl) (fun K hK => ?_); go_big_quiet_op; refine hK _ ?_; clear hK K
            refine wpMix_pure (by kernel_rfl) (fun K hK => ?_); go_big_quiet_op; refine hK _ ?_; clear hK K
            refine wpMix_pure (by kernel_rfl) (fun K hK => ?_); go_big_quiet_op; refine hK _ ?_; clear hK K
            refine wpMix_act (by kernel_rfl) (fun K hK => ?_)
            go_big_op
            refine (compareP_any _ (hS.below hS0).pr (hS.below hS0).bs hsP hsQ).mono ?_
            rintro e w' ⟨rfl, rfl⟩
            refine hK _ _ (regrown_of_below hS0) ?_
            clear hK K
            by_cases hq23 : cmpP Pp S.best < 0
            · skip
              refine wpMix_pure (by kernel_rfl) (fun K hK => ?_); go_big_quiet_op; refine hK _ ?_; clear hK K
              refine wpMix_pure (by kernel_rfl) (fun K hK => ?_); go_big_quiet_op; refine hK _ ?_; clear hK K
              refine wpMix_pure (by kernel_rfl) (fun K hK => ?_); go_big_quiet_op; refine hK _ ?_; clear hK K
              refine wpMix_nil ?_
              go_wp2
              go_meet
              case rel => exact ⟨by rw [show updB Pp people S = true from by unfold updB; rw [decide_eq_false (show ¬ S.most < people by omega), decide_eq_true hq12.out, ← cmpP_lt, decide_eq_true hq23]; rfl], hS0⟩
            · skip
              refine wpMix_pure (by kernel_rfl) (fun K hK => ?_); go_big_quiet_op; refine hK _ ?_; clear hK K
              refine wpMix_pure (by kernel_rfl) (fun K hK => ?_); go_big_quiet_op; refine hK _ ?_; clear hK K
              refine wpMix_pure (by kernel_rfl) (fun K hK => ?_); go_big_quiet_op; refine hK _ ?_; clear hK K
              refine wpMix_nil ?_
              go_wp2
              go_meet
              case rel => exact ⟨by rw [show updB Pp people S = false from by unfold updB; rw [decide_eq_false (show ¬ S.most < people by omega), decide_eq_true hq12.out, ← cmpP_lt, decide_eq_false (show ¬ cmpP Pp S.best < 0 by omega)]; rfl], hS0⟩
          · skip
            have e12 : (people == S.most) = false := beq_eq_false_iff_ne.2 hq12
            refine wpMix_pure (by kernel_rfl) (fun K hK => ?_); go_big_quiet_op; refine hK _ ?_; clear hK K
            refine wpMix_pure (by kernel_rfl) (fun K hK => ?_); go_big_quiet_op; refine hK _ ?_; clear hK K
            refine wpMix_skip (by kernel_rfl) (fun K hK => ?_)
            simp only [Act.put, List.setIfInBounds_toArray, List.set_cons_zero, List.set_cons_succ]
            refine hK _ ?_; clear hK K
            refine wpMix_skip (by kernel_rfl) (fun K hK => ?_)
            simp only [Act.put, List.setIfInBounds_toArray, List.set_cons_zero, List.set_cons_succ]
            refine hK _ ?_; clear hK K
            refine wpMix_skip (by kernel_rfl) (fun K hK => ?_)
            simp only [Act.put, List.setIfInBounds_toArray, List.set_cons_zero, List.set_cons_succ]
            refine hK _ ?_; clear hK K
            refine wpMix_skip (by kernel_rfl) (fun K hK => ?_)
            simp only [Act.put, List.setIfInBounds_toArray, List.set_cons_zero, List.set_cons_succ]
            refine hK _ ?_; clear hK K
            refine wpMix_skip (by kernel_rfl) (fun K hK => ?_)
            simp only [Act.put, List.setIfInBounds_toArray, List.set_cons_zero, List.set_cons_succ]
            refine hK _ ?_; clear hK K
            refine wpMix_skip (by kernel_rfl) (fun K hK => ?_)
            simp only [Act.put, List.setIfInBounds_toArray, List.set_cons_zero, List.set_cons_succ]
            refine hK _ ?_; clear hK K
            refine wpMix_skip (by kernel_rfl) (fun K hK => ?_)
            simp only [Act.put, List.setIfInBounds_toArray, List.set_cons_zero, List.set_cons_succ]
            refine hK _ ?_; clear hK K
            refine wpMix_skip (by kernel_rfl) (fun K hK => ?_)
            simp only [Act.put, List.setIfInBounds_toArray, List.set_cons_zero, List.set_cons_succ]
            refine hK _ ?_; clear hK K
            refine wpMix_skip (by kernel_rfl) (fun K hK => ?_)
            simp only [Act.put, List.setIfInBounds_toArray, List.set_cons_zero, List.set_cons_succ]
            refine hK _ ?_; clear hK K
            refine wpMix_skip (by kernel_rfl) (fun K hK => ?_)
            simp only [Act.put, List.setIfInBounds_toArray, List.set_cons_zero, List.set_cons_succ]
            refine hK _ ?_; clear hK K
            refine wpMix_pure (by kernel_rfl) (fun K hK => ?_); go_big_quiet_op; refine hK _ ?_; clear hK K
            refine wpMix_pure (by kernel_rfl) (fun K hK => ?_); go_big_quiet_op; refine hK _ ?_; clear hK K
            refine wpMix_nil ?_
            go_wp2
            go_meet
            case rel => exact ⟨by rw [show updB Pp people S = false from by unfold updB; rw [decide_eq_false (show ¬ S.most < people by omega), decide_eq_false (show ¬ people = S.most by first | exact hq12 | omega)]; rfl], hS0⟩
      case rest =>
        obtain ⟨rfl, hb⟩ := hcut
        have hS1 := hS.below hb
        have hBw : B ≤ w.heap.size := Nat.le_trans hS.gB (Nat.le_of_lt hgl)
        clear hcbb c6 c4 c5
        cases hup : updB Pp people S
        · have hlf : leafF Pp people S = S := by rw [leafF_upd, hup]; rfl
          have HL := Lib.hid (HVz.out.trans hlf)
          clear hlf HVz
          go_wp2
          refine bodyPost_ret (results_none rfl _ _ _) rfl ?_
          rw [HL.out]
          exact ⟨rfl, S.c, ⟨_, _, _, _, _, _, hS1⟩, ⟨fun _ => rfl, fun h => h⟩, by omega, ⟨hQ, ⟨by omega, hcb⟩, hmo⟩, hb.mono hBw⟩
        · have hlf : leafF Pp people S = ⟨Pp, people, S.c⟩ := by rw [leafF_upd, hup]; rfl
          have HL := Lib.hid (HVz.out.trans hlf)
          have c5' : wc.cell? ⟨g, 5, none⟩ = some vb := hS1.bx.cell 5 _ rfl
          have z5 := hS1.bx.frz 5 (by show 5 < 7; decide)
          have c6' : wc.cell? ⟨g, 6, none⟩ = some (.int .i64 S.most) := hS1.bx.cell 6 _ rfl
          have z6 := hS1.bx.frz 6 (by show 6 < 7; decide)
          have hBc : B ≤ wc.heap.size := Nat.le_trans hBw hb.size
          have hS3 := (hS1.clear (v' := .slice none 0 0) 5 (World.ownsRow_nil wc B 50 1) (fun b hb => by cases hb) rfl).field (box' := boxI (.slice A xs.length cap) lvl gu U.length S.c people) 6 (.int .i64 people) rfl
          have hbW : Below B wc ((wc.setCell ⟨g, 5, none⟩ (.slice none 0 0)).setCell ⟨g, 6, none⟩ (.int .i64 people)) := ((Below.refl B wc).setCell (p := ⟨g, 5, none⟩) hS.gB _).setCell (p := ⟨g, 6, none⟩) hS.gB _
          clear HVz hlf hup hS1
          go_upto_region 5 with fail
          generalize (wc.setCell ⟨g, 5, none⟩ (.slice none 0 0)).setCell ⟨g, 6, none⟩ (.int .i64 people) = W7 at *
          have c4' : W7.cell? ⟨g, 4, none⟩ = some (.slice A3 Pp.length k3) := hS3.bx.cell 4 _ rfl
          clear c5' z5 c6' z6
          go_wp2
          go_loopw [72] (fun i wr => ∃ k : Nat, k ≤ Pp.length ∧ i = .int .i64 k ∧ (∃ vb' Vb' Gb', SMem wr B g gu (boxI (.slice A xs.length cap) lvl gu U.length S.c people) U Pp (Pp.take k) (.slice A3 Pp.length k3) vb' Vp Gp Vb' Gb') ∧ Below B wc wr) (fun i _ => Pp.length - (intOf i).toNat)
          case atStart => exact ⟨0, Nat.zero_le _, rfl, ⟨_, _, _, hS3⟩, hbW⟩
          case round =>
            obtain ⟨k, hk, rfl, ⟨vb', Vb', Gb', hm⟩, hbr⟩ := hrel
            by_cases hlt : k < Pp.length
            · have hlt9 : (k : Int) < (Pp.length : Int) := by omega
              obtain ⟨gp, capp, cc, hvq, p0, hVk, p1, p2⟩ := PgW.pair hm.pr hsP hlt
              injection hvq with hvq _ hvc
              subst hvq hvc
              obtain ⟨fpk, hslk, _⟩ := PgW.at_ hm.pr hlt (rowX_ok hsP.2 k)
              rw [hVk] at hslk
              have hr3 : Row1 wr g vb' := ⟨hm.bx.cell 5 _ rfl⟩
              have hBr : B ≤ wr.heap.size := Nat.le_trans hm.gB (Nat.le_of_lt hm.bx.lt)
              have z5r := hm.bx.frz 5 (by show 5 < 7; decide)
              clear hVk
              go_wp2
              have gk5 : ∀ p : KeptW (B) wr (fun N => Row1 N g vb'), p.v.cell? ⟨g, 5, none⟩ = some (vb') := fun p => p.x.c5
              haveI hKne : Nonempty (KeptW (B) wr (fun N => Row1 N g vb')) := ⟨⟨_, Below.drew (Below.refl _ _), (hr3.below (Below.drew (Below.refl _ _)))⟩⟩
              refine wp_region_sink (C := fun w' => ∃ p : KeptW (B) wr (fun N => Row1 N g vb'), w' = p.v) [0, 1, 2, 3, 4, 5, 6, 7, 8, 9, 10, 11] [true, true, true, true, true, true, false, false, false, true, true, false] 11 (by kernel_rfl) (by kernel_rfl) (by kernel_rfl) (fun _ _ d _ _ h => by cases d <;> exact h) ⟨⟨_, Below.drew (Below.refl _ _), (hr3.below (Below.drew (Below.refl _ _)))⟩, rfl⟩ ?_
              simp only [List.map_cons, List.map_nil, List.getD_cons_zero, List.getD_cons_succ]
              have hS0 : Below (B) wr wr.drew := Below.drew (Below.refl _ _)
              refine wpMixS_pure (by kernel_rfl) (fun K hK => ?_)
              go_big_quiet_op
              refine hK _ ?_; clear hK K
              refine wpMixS_pure (by kernel_rfl) (fun K hK => ?_)
              go_big_quiet_op
              refine hK _ ?_; clear hK K
              refine wpMixS_pure (by kernel_rfl) (fun K hK => ?_)
              go_big_quiet_op
              refine hK _ ?_; clear hK K
              refine wpMixS_pure (by kernel_rfl) (fun K hK => ?_)
              go_big_quiet_op
              refine hK _ ?_; clear hK K
              refine wpMixS_pure (by kernel_rfl) (fun K hK => ?_)
              go_big_quiet_op
              refine hK _ ?_; clear hK K
              refine wpMixS_pure (by kernel_rfl) (fun K hK => ?_)
              go_big_quiet_op
              refine hK _ ?_; clear hK K
              refine wpMixS_act (by kernel_rfl) (fun K hK => ?_)
              go_big_op
              refine (cloneI_any _ (rowX Pp k) fpk wr.drew (hslk.below' (Below.drew (Below.refl _ _))) (by unfold rowX; simp)).mono ?_
              rintro e wr1 ⟨y, rfl, hyo, hbr1⟩
              have hbr1S : Below (B) wr wr1 := hS0.trans (hbr1.mono (Nat.le_trans hBr hS0.size))
              refine hK _ _ ⟨⟨_, hbr1S, (((hr3.below (Below.drew (Below.refl _ _)))).below hbr1)⟩, rfl⟩ ?_
              clear hK K
              obtain ⟨gy, cy, hyf⟩ : ∃ gy cy, y = .slice (some ⟨gy, 0, none⟩) 2 cy := by
                rcases hyo.2 with ⟨_, e⟩ | ⟨gy, cy, cur, e, _⟩
                · unfold rowX at e; simp at e
                · exact ⟨gy, cy, e⟩
              subst hyf
              refine wpMixS_act (by kernel_rfl) (fun K hK => ?_)
              go_big_op
              refine hK _ _ ⟨⟨_, (hbr1S.alloc (Nat.le_trans hBr hbr1S.size) _), (((((hr3.below (Below.drew (Below.refl _ _)))).below hbr1)).below ((Below.refl _ _).alloc (Nat.le_refl _) _))⟩, rfl⟩ ?_
              clear hK K
              refine mixS_world (fun N => Below (B) wr N ∧ Row1 N g vb' ∧ SMem N B g gu (boxI (.slice A xs.length cap) lvl gu U.length S.c people) U Pp (Pp.take k) (.slice (some ⟨gp, 0, none⟩) Pp.length k3) vb' Vp Gp Vb' Gb' ∧ Own fInt N wr.drew.heap.size 2 (.slice (some ⟨gy, 0, none⟩) 2 cy) (rowX Pp k) ∧ N.cell? ⟨wr1.heap.size, 0, none⟩ = some (.slice (some ⟨gy, 0, none⟩) 2 cy) ∧ wr1.heap.size < N.heap.size) ⟨hbr1S.alloc (Nat.le_trans hBr hbr1S.size) _, ⟨((hr3.below (Below.drew (Below.refl _ _))).below hbr1).below ((Below.refl _ _).alloc (Nat.le_refl _) _), ((hm.below (Below.drew (Below.refl _ _))).below hbr1).below ((Below.refl _ _).alloc (Nat.le_refl _) _), ((hyo.below ((Below.refl _ _).alloc (Nat.le_refl _) _))), by simp, by simp⟩⟩ ?_
              rintro wr2 ⟨hbr2S, hbr2F⟩
              refine wpMixS_act (by kernel_rfl) (fun K hK => ?_)
              obtain ⟨hr6, hm6, hy6, hc6, hl6⟩ := hbr2F
              have hkl : (Pp.take k).length = k := by rw [List.length_take]; omega
              have hown6 := hm6.bs.own
              rw [hkl] at hown6
              refine wp_append_at2 _ _ _ 24 rfl B 50 i1 (.slice none 0 0) 1 24 Try.underlying24 hi1 hy0 hy1 hy2 rfl (by decide) vb' k _ rfl hown6 [.slice (some ⟨gy, 0, none⟩) 2 cy] rfl (by intro u hu; rw [List.mem_singleton] at hu; subst hu; rfl) wr1.heap.size rfl (by intro j u hj; match j, hj with | 0, hj => (injection hj with hj; subst hj; exact hc6) | j + 1, hj => (simp at hj)) (by omega) (by decide) (Nat.le_trans hBr hbr2S.size) ?_
              intro v' u hown hbu hgr hli
              have hru : Row1 u g vb' := hr6.keep (hgr.block g hr6.ltg (fun e => (hm6.nb g (.inl e.symm)).1 rfl))
              have hbuS : Below (B) wr u := hbr2S.trans hbu
              try simp only [Act.put, List.setIfInBounds_toArray, List.set_cons_zero, List.set_cons_succ]
              refine hK _ _ ⟨⟨_, hbuS, hru⟩, rfl⟩ ?_
              clear hK K
              refine wpMixS_pure (by kernel_rfl) (fun K hK => ?_)
              go_big_quiet_op
              refine hK _ ?_; clear hK K
              refine wpMixS_pure (by kernel_rfl) (fun K hK => ?_)
              go_big_quiet_op
              refine hK _ ?_; clear hK K
              refine wpMixS_last (by kernel_rfl) (fun K hK => ?_)
              have x5u : u.cell? ⟨g, 5, none⟩ = some vb' := hru.c5
              have z5u := (hm6.bx.keep (hgr.block g hr6.ltg (fun e => (hm6.nb g (.inl e.symm)).1 rfl)) hgr.size).frz 5 (by show 5 < 7; decide)
              obtain ⟨A9, c9, hv9⟩ : ∃ A c, v' = .slice A (k + 1) c := by
                rcases hown.2 with ⟨_, e2⟩ | ⟨g9, cap9, cur9, e, _⟩
                · exact absurd e2 (by omega)
                · exact ⟨_, _, e⟩
              subst hv9
              go_big_op
              try simp only [Act.put, List.setIfInBounds_toArray, List.set_cons_zero, List.set_cons_succ]
              refine hK _ _ ?_
              clear hK K
              have hyl := own_at hy6 (g := gy) rfl
              have hwd : wr.drew.heap.size = wr.heap.size := rfl
              rw [hwd] at hyl
              have hownQ := hown
              rw [← hkl] at hownQ
              have hg3 := hm.bx.lt
              have hu3 := hm.us.lt
              have hm9 := hm6.pushB (u := u) (a := gy) (m := (Pp.getD k (0, 0)).1) (k := (Pp.getD k (0, 0)).2) 5 (y := .slice (some ⟨gy, 0, none⟩) 2 cy) (own_low hy6 (by rw [hwd]; exact hBr)) rfl (by omega) (by omega) (fun e => by have := (hm.pr.lt e).2; omega) (fun e => by have := (hm.bs.lt e).2; omega) hownQ hgr (by rw [hkl]; exact hli) rfl
              rw [hkl] at hm9
              have htk : Pp.take k ++ [((Pp.getD k (0, 0)).1, (Pp.getD k (0, 0)).2)] = Pp.take (k + 1) := by rw [getD_of_lt hlt, List.take_succ_eq_append_getElem hlt]
              rw [htk] at hm9
              have hb9 := fun x => (hbr.trans hbuS).setCell (p := ⟨g, 5, none⟩) hm.gB x
              go_wp2
              go_roundw
              case rel => exact ⟨k + 1, by omega, by go_num, ⟨_, _, _, hm9⟩, hb9 _⟩
              case measure => simp [intOf]; omega
            · obtain rfl : k = Pp.length := by omega
              rw [List.take_length] at hm
              go_wp2
              refine bodyPost_ret (results_none rfl _ _ _) rfl ?_
              rw [HL.out]
              exact ⟨rfl, S.c, ⟨_, _, _, _, _, _, hm⟩, ⟨fun _ => rfl, fun h => h⟩, by show _ ≤ S.c; omega, ⟨hP, ⟨by show -1 ≤ S.c; omega, hcb⟩, by show -1 ≤ people ∧ people ≤ 100000; omega⟩, (hb.mono hBw).trans hbr⟩
    | succ m' =>
      have hi : xs.length - (m' + 1) < U.length := by omega
      have cu : w.cell? ⟨gu, xs.length - (m' + 1), none⟩ = some (.bool (U[xs.length - (m' + 1)]'hi)) := hS.us.cell _ _ (by rw [List.getElem?_map, List.getElem?_eq_getElem hi]; rfl)
      cases hu : U[xs.length - (m' + 1)]'hi
      · have hb0 : U.getD (xs.length - (m' + 1)) false = false := by rw [getD_of_lt hi]; exact hu
        have HN := Lib.hid (HV.out.trans (visitF_node hb0))
        have hin : xs.length - (m' + 1) < xs.length := by omega
        have him : xs.length - (m' + 1) + (m' + 1) = xs.length := by omega
        have ND := Lib.hid (node_of_visitI xs B g gu (.slice A xs.length cap) fpl hfl lvl bud hbud.2 hn8 m' (ih m' (by omega)))
        rw [hu] at cu
        clear HV hu hb0 ih
        generalize xs.length - (m' + 1) = i at *
        have hlt : (i : Int) < (xs.length : Int) := by omega
        have hni : ((i : Int) == (xs.length : Int)) = false := by rw [beq_eq_false_iff_ne]; omega
        have hi8 : i ≤ 8 := by omega
        have HIM := Lib.hid him
        clear him
        go_wp2
        go_loopw [8] (fun kv wr => ∃ k : Nat, i + 1 ≤ k ∧ k ≤ xs.length ∧ kv = .int .i64 k ∧ ∃ T b, Hid (foldK (wTwo xs lvl) (visitF (wOne xs lvl) (wTwo xs lvl) xs.length m') U Pp i people S k = T) ∧ SrOk xs.length bud T ∧ SMI wr B g gu (.slice A xs.length cap) lvl b U Pp T ∧ bRel b T.c ∧ Hid (-(9 * (m' : Int)) - ((k : Int) - i - 1) ≤ b) ∧ Below B w wr) (fun kv _ => xs.length - (intOf kv).toNat)
        case atStart => exact ⟨i + 1, Nat.le_refl _, by omega, by go_num, S, S.c, foldK_low (Nat.le_refl _), ⟨hQ, ⟨by omega, hcb⟩, hmo⟩, ⟨vp, vb, Vp, Gp, Vb, Gb, hS⟩, ⟨fun _ => rfl, fun h => h⟩, Lib.hid (by omega), Below.refl _ _⟩
        case round =>
          obtain ⟨k, hk1, hk, rfl, T, b, HT, hT, ⟨vp9, vb9, Vp9, Gp9, Vb9, Gb9, hm⟩, hrb, HLIM, hbr⟩ := hrel
          have hBw : B ≤ w.heap.size := Nat.le_trans hS.gB (Nat.le_of_lt hgl)
          have hlw : Sl fGroup.cod wr (.slice A xs.length cap) xs fpl := hlist.keep (fun b hb => hbr.block b (hfl b hb)) hbr.size
          clear cu c0 c3 hS
          by_cases hkn : k < xs.length
          · have hkU : k < U.length := by omega
            have cu : wr.cell? ⟨gu, k, none⟩ = some (.bool (U[k]'hkU)) := hm.us.cell _ _ (by rw [List.getElem?_map, List.getElem?_eq_getElem hkU]; rfl)
            have c3 : wr.cell? ⟨g, 3, none⟩ = some (.slice (some ⟨gu, 0, none⟩) U.length U.length) := hm.bx.cell 3 _ rfl
            have c0 : wr.cell? ⟨g, 0, none⟩ = some (.slice A xs.length cap) := hm.bx.cell 0 _ rfl
            have hkn9 : (k : Int) < (xs.length : Int) := by omega
            cases huk : U[k]'hkU
            · have hgf : U.getD k false = false := by rw [getD_of_lt hkU]; exact huk
              have HCh := Lib.hid ((foldK_child (w2 := wTwo xs lvl) (g := visitF (wOne xs lvl) (wTwo xs lvl) xs.length m') (used := U) (pairs := Pp) (i := i) (people := people) (S := S) (by omega) hgf).trans (by rw [HT.out]))
              rw [huk] at cu
              obtain ⟨A3, k3, rfl⟩ := hm.pr.form
              have zk := hm.us.frz k (by simpa using hkU)
              have hm8 := hm.mark k true
              have hb08 := hbr.setCell (p := ⟨gu, k, none⟩) hm.guB (.bool true)
              clear huk HT
              go_upto_region 15 with fail
              generalize wr.setCell ⟨gu, k, none⟩ (.bool true) = w8 at *
              clear hm hbr c3 c0 cu zk hlw
              have hgl8 := hm8.bx.lt
              have hul8 := hm8.us.lt
              have hA2 : Below w8.heap.size w8 ((w8.alloc (.cells #[.int .i64 (i : Int), .int .i64 (k : Int)] 2)).alloc (.cells #[.slice (some ⟨w8.heap.size, 0, none⟩) 2 2] 50)) := ((Below.refl _ _).alloc (Nat.le_refl _) _).alloc (by simp) _
              have hm9 := hm8.below hA2
              have hown9 := hm9.pr.own
              have hyy : Own fInt ((w8.alloc (.cells #[.int .i64 (i : Int), .int .i64 (k : Int)] 2)).alloc (.cells #[.slice (some ⟨w8.heap.size, 0, none⟩) 2 2] 50)) B 2 (.slice (some ⟨w8.heap.size, 0, none⟩) 2 2) [(i : Int), (k : Int)] := (own_lit2 (Nat.le_trans hm8.gB (Nat.le_of_lt hgl8)) (i : Int) (k : Int) 2).below ((Below.refl _ _).alloc (Nat.le_refl _) _)
              have hszB : ((w8.alloc (.cells #[.int .i64 (i : Int), .int .i64 (k : Int)] 2)).alloc (.cells #[.slice (some ⟨w8.heap.size, 0, none⟩) 2 2] 50)).heap.size = w8.heap.size + 2 := by simp
              have hBB : B ≤ ((w8.alloc (.cells #[.int .i64 (i : Int), .int .i64 (k : Int)] 2)).alloc (.cells #[.slice (some ⟨w8.heap.size, 0, none⟩) 2 2] 50)).heap.size := by rw [hszB]; have := hm8.gB; omega
              have hbB : Below B w8 ((w8.alloc (.cells #[.int .i64 (i : Int), .int .i64 (k : Int)] 2)).alloc (.cells #[.slice (some ⟨w8.heap.size, 0, none⟩) 2 2] 50)) := hA2.mono (Nat.le_trans hm8.gB (Nat.le_of_lt hgl8))
              have hcJ := cell_one_new (w8.alloc (.cells #[.int .i64 (i : Int), .int .i64 (k : Int)] 2)) (.slice (some ⟨w8.heap.size, 0, none⟩) 2 2) 50
              rw [World.size_alloc] at hcJ
              have c4 : w8.cell? ⟨g, 4, none⟩ = some (.slice A3 Pp.length k3) := hm8.bx.cell 4 _ rfl
              have hPl9 : Pp.length ≤ 8 := by have := hP.1; omega
              have hk8 : k ≤ 8 := by omega
              go_wp2_with (at_builtin; go_loud (refine wpList_append_lies _ rfl _ _ 24 rfl B 50 i1 (.slice none 0 0) 1 24 Try.underlying24 hi1 hy0 hy1 hy2 rfl (by decide) (.slice A3 Pp.length k3) Pp.length _ rfl hown9 _ 1 1 [.slice (some ⟨w8.heap.size, 0, none⟩) 2 2] rfl rfl hcJ (by intro u hu; rw [List.mem_singleton] at hu; subst hu; rfl) (by decide) (by unfold maxLen; omega) (by omega) (by (try simp); have := hm8.gB; omega) (w8.heap.size + 2) (by simp) ?_))
              intro gq cq u hownU hgr hli hltu
              have hl9 : (Value.slice (some ⟨gq, 0, none⟩) (Pp.length + 1) cq).ownBlock = (Value.slice A3 Pp.length k3).ownBlock ∨ (Value.slice (some ⟨gq, 0, none⟩) (Pp.length + 1) cq).ownBlock = some ((w8.alloc (.cells #[.int .i64 (i : Int), .int .i64 (k : Int)] 2)).alloc (.cells #[.slice (some ⟨w8.heap.size, 0, none⟩) 2 2] 50)).heap.size := by
                rcases hli with h | h
                · exact .inl h.symm
                · exact .inr (by rw [hszB, ← h]; rfl)
              have hbU := hbB.trans ((Below.refl B _).grown hgr hBB (fun k hk => (hown9.lt k hk).1))
              have hm10 := hm9.push (a := w8.heap.size) 4 hyy (fun e => by omega) (fun e => by omega) (fun e => by have := (hm8.pr.lt e).2; omega) (fun e => by have := (hm8.bs.lt e).2; omega) hownU hgr hl9 rfl
              have hgg9 : (Value.slice A3 Pp.length k3).ownBlock ≠ some g := fun e => (hm9.np g (.inl e)).1 rfl
              have hbxu := hm9.bx.keep (hgr.block g hm9.bx.lt (fun e => hgg9 e.symm)) hgr.size
              have c4u : u.cell? ⟨g, 4, none⟩ = some (.slice A3 Pp.length k3) := hbxu.cell 4 _ rfl
              have z4u := hbxu.frz 4 (by show 4 < 7; decide)
              have hbV := (hb08.trans hbU).setCell (p := ⟨g, 4, none⟩) hm8.gB (.slice (some ⟨gq, 0, none⟩) (Pp.length + 1) cq)
              clear hownU hgr hli hl9 hbU hgg9 hbxu hm9 hm8 hcJ hbB hBB hszB hyy hown9 hA2 hb08 hul8 hgl8 hltu c4
              go_upto_region 16 with fail
              generalize u.setCell ⟨g, 4, none⟩ (.slice (some ⟨gq, 0, none⟩) (Pp.length + 1) cq) = w10 at *
              clear c4u z4u
              have hUl : (U.set k true).length = U.length := List.length_set
              have hl10 := hlist.below hbV hfl
              have hPP := hP.push (i := i) (k := k) (by have := HIM.out; omega) hin hkn
              have hB10 : B ≤ w10.heap.size := Nat.le_trans hBw hbV.size
              rw [← hUl] at hm10
              obtain ⟨bb, off, rfl, _, _, hpx⟩ := PGroup.elem hl10 hin
              obtain ⟨bb2, off2, hbb, _, _, hpz⟩ := PGroup.elem hl10 hkn
              obtain ⟨rfl, rfl⟩ : bb2 = bb ∧ off2 = off := by
                cases hbb; exact ⟨rfl, rfl⟩
              have hgx := GrpIn.of (groupsB_one hv hin)
              have hgz := GrpIn.of (groupsB_one hv hkn)
              have hwx : wTwo xs lvl i k = morG (sumG xs[i] xs[k] xs[i].id) lvl := by unfold wTwo morG; rw [getD_of_lt hin, getD_of_lt hkn]
              have hlim := HLIM.out
              have him := HIM.out
              generalize xs[i] = x at *
              generalize xs[k] = z at *
              have xl : w10.cell? ⟨g, 0, none⟩ = some (.slice (some ⟨bb2, off2, none⟩) xs.length cap) := hm10.bx.cell 0 _ rfl
              obtain ⟨x0, x1, x2, x3, x4, x5, x6⟩ := hpx
              obtain ⟨z0, z1, z2, z3, z4, z5, z6⟩ := hpz
              have him := Lib.hid him
              have gxl := cell_regrown xl
              have gx0 := cell_regrown x0
              have gx1 := cell_regrown x1
              have gx2 := cell_regrown x2
              have gx3 := cell_regrown x3
              have gx4 := cell_regrown x4
              have gx5 := cell_regrown x5
              have gx6 := cell_regrown x6
              have gz0 := cell_regrown z0
              have gz1 := cell_regrown z1
              have gz2 := cell_regrown z2
              have gz3 := cell_regrown z3
              have gz4 := cell_regrown z4
              have gz5 := cell_regrown z5
              have gz6 := cell_regrown z6
              refine wp_region_sink (C := fun w' => ∃ p : Regrown, w' = Go.Sort.grow (redrawn w10 p.d) p.os) [0, 1, 2, 3, 4, 5, 6, 7, 8, 9, 10, 11, 12, 13, 14, 15, 16, 17, 18, 19, 20, 21, 22, 23, 24, 25, 26] [true, true, true, true, true, true, true, true, true, true, true, true, true, true, true, true, true, true, true, true, true, true, true, true, true, false, false] 26 (by kernel_rfl) (by kernel_rfl) (by kernel_rfl) (fun _ _ d _ _ h => by cases d <;> exact h) (regrown_of_below (Below.drew (Below.refl _ _))) ?_
              simp only [List.map_cons, List.map_nil, List.getD_cons_zero, List.getD_cons_succ]
              have hS0 : Below (w10.heap.size) w10 w10.drew := Below.drew (Below.refl _ _)
              refine wpMixS_pure (by kernel_rfl) (fun K hK => ?_)
              go_big_quiet_op
              refine hK _ ?_; clear hK K
              refine wpMixS_pure (by kernel_rfl) (fun K hK => ?_)
              go_big_quiet_op
              refine hK _ ?_; clear hK K
              refine wpMixS_pure (by kernel_rfl) (fun K hK => ?_)
              go_big_quiet_op
              refine hK _ ?_; clear hK K
              refine wpMixS_pure (by kernel_rfl) (fun K hK => ?_)
              go_big_quiet_op
              refine hK _ ?_; clear hK K
              refine wpMixS_pure (by kernel_rfl) (fun K hK => ?_)
              go_big_quiet_op
              refine hK _ ?_; clear hK K
              refine wpMixS_pure (by kernel_rfl) (fun K hK => ?_)
              go_big_quiet_op
              refine hK _ ?_; clear hK K
              refine wpMixS_pure (by kernel_rfl) (fun K hK => ?_)
              go_big_quiet_op
              refine hK _ ?_; clear hK K
              refine wpMixS_pure (by kernel_rfl) (fun K hK => ?_)
              go_big_quiet_op
              refine hK _ ?_; clear hK K
              refine wpMixS_pure (by kernel_rfl) (fun K hK => ?_)
              go_big_quiet_op
              refine hK _ ?_; clear hK K
              refine wpMixS_pure (by kernel_rfl) (fun K hK => ?_)
              go_big_quiet_op
              refine hK _ ?_; clear hK K
              refine wpMixS_pure (by kernel_rfl) (fun K hK => ?_)
              go_big_quiet_op
              refine hK _ ?_; clear hK K
              refine wpMixS_pure (by kernel_rfl) (fun K hK => ?_)
              go_big_quiet_op
              refine hK _ ?_; clear hK K
              refine wpMixS_pure (by kernel_rfl) (fun K hK => ?_)
              go_big_quiet_op
              refine hK _ ?_; clear hK K
              refine wpMixS_pure (by kernel_rfl) (fun K hK => ?_)
              go_big_quiet_op
              refine hK _ ?_; clear hK K
              refine wpMixS_pure (by kernel_rfl) (fun K hK => ?_)
              go_big_quiet_op
              refine hK _ ?_; clear hK K
              refine wpMixS_pure (by kernel_rfl) (fun K hK => ?_)
              go_big_quiet_op
              refine hK _ ?_; clear hK K
              refine wpMixS_pure (by kernel_rfl) (fun K hK => ?_)
              go_big_quiet_op
              refine hK _ ?_; clear hK K
              refine wpMixS_pure (by kernel_rfl) (fun K hK => ?_)
              go_big_quiet_op
              refine hK _ ?_; clear hK K
              refine wpMixS_pure (by kernel_rfl) (fun K hK => ?_)
              go_big_quiet_op
              refine hK _ ?_; clear hK K
              refine wpMixS_pure (by kernel_rfl) (fun K hK => ?_)
              go_big_quiet_op
              refine hK _ ?_; clear hK K
              refine wpMixS_pure (by kernel_rfl) (fun K hK => ?_)
              go_big_quiet_op
              refine hK _ ?_; clear hK K
              refine wpMixS_pure (by kernel_rfl) (fun K hK => ?_)
              go_big_quiet_op
              refine hK _ ?_; clear hK K
              refine wpMixS_pure (by kernel_rfl) (fun K hK => ?_)
              go_big_quiet_op
              refine hK _ ?_; clear hK K
              refine wpMixS_pure (by kernel_rfl) (fun K hK => ?_)
              go_big_quiet_op
              refine hK _ ?_; clear hK K
              refine wpMixS_pure (by kernel_rfl) (fun K hK => ?_)
              go_big_quiet_op
              refine hK _ ?_; clear hK K
              refine wpMixS_act (by kernel_rfl) (fun K hK => ?_)
              go_big_op
              refine (with_any x z x.id w10.drew hgx hgz).mono ?_
              rintro e wr1 ⟨rfl, hbr1⟩
              have hbr1S : Below (w10.heap.size) w10 wr1 := hS0.trans (hbr1.mono hS0.size)
              refine hK _ _ (regrown_of_below hbr1S) ?_
              clear hK K
              refine wpMixS_last (by kernel_rfl) (fun K hK => ?_)
              go_big_op
              refine (ND.out (U.set k true) (Pp ++ [(i, k)]) T people b (sumG x z x.id) i _ him (hUl.trans hU) hPP (by rw [List.length_append]; show Pp.length + 1 + m' ≤ _; omega) hT.1 hT.2.1.1 hT.2.1.2 hrb (by omega) hp0 (by omega) hT.2.2 (sumG_ok hgx hgz hgx.id) (hl10.below ((hbr1S).mono hB10) hfl) ⟨_, _, _, _, _, _, hm10.below hbr1S⟩).mono ?_
              rintro e w11 ⟨rfl, b1, ⟨vp1, vb1, Vp1, Gp1, Vb1, Gb1, hm11⟩, hrb1, hlz, hT11, hb11⟩
              have hb12 := hbV.trans (((hbr1S).mono hB10).trans hb11)
              have hlb1 : -(9 * (m' : Int)) - ((k : Int) + 1 - i - 1) ≤ b1 := by split at hlz <;> omega
              try simp only [Act.put, List.setIfInBounds_toArray, List.set_cons_zero, List.set_cons_succ]
              refine hK _ _ ?_
              clear hK K
              have HC1 := HCh.out
              rw [hwx] at HC1
              generalize childF (visitF (wOne xs lvl) (wTwo xs lvl) xs.length m' (U.set k true) (Pp ++ [(i, k)])) (people + morG (sumG x z x.id) lvl) T = T1 at hm11 hT11 HC1 hrb1
              have HC2 := Lib.hid HC1
              have hlp : (Pp ++ [(i, k)]).length = Pp.length + 1 := by simp
              clear HCh HC1 hl10 hPP hm10 hbV hb11 hlz hwx hgx hgz hrb hlim gxl xl gx0 gx1 gx2 gx3 gx4 gx5 gx6 gz0 gz1 gz2 gz3 gz4 gz5 gz6 x0 x1 x2 x3 x4 x5 x6 z0 z1 z2 z3 z4 z5 z6
              obtain ⟨gp, cp, rfl, hcp1, hcp2⟩ : ∃ gp cp, vp1 = .slice (some ⟨gp, 0, none⟩) (Pp.length + 1) cp ∧ Pp.length + 1 ≤ cp ∧ cp ≤ 9223372036854775807 := by
                rcases hm11.pr.own.2 with ⟨_, h0⟩ | ⟨g', cap', cur, hv, _, _, h1, h2, _⟩
                · rw [hlp] at h0; omega
                · rw [hlp] at hv h1; exact ⟨g', cap', hv, h1, h2⟩
              rw [hUl] at hm11
              clear hlp hUl
              have c4 : w11.cell? ⟨g, 4, none⟩ = some (.slice (some ⟨gp, 0, none⟩) (Pp.length + 1) cp) := hm11.bx.cell 4 _ rfl
              have z4 := hm11.bx.frz 4 (by show 4 < 7; decide)
              have hPl8 : Pp.length ≤ 8 := by have := hP.1; omega
              have hcp3 : Pp.length ≤ cp := by omega
              go_wp2
              have gc4 := cell_regrown c4
              refine wp_region_sink (C := fun w' => ∃ p : Regrown, w' = Go.Sort.grow (redrawn w11 p.d) p.os) [0, 1, 2, 3, 4, 5, 6, 7, 8, 9, 10, 11, 12, 13, 14] [true, true, true, true, true, true, true, true, true, true, true, true, true, true, false] 14 (by kernel_rfl) (by kernel_rfl) (by kernel_rfl) (fun _ _ d _ _ h => by cases d <;> exact h) (regrown_of_below (Below.drew (Below.refl _ _))) ?_
              simp only [List.map_cons, List.map_nil, List.getD_cons_zero, List.getD_cons_succ]
              have hS0 : Below (w11.heap.size) w11 w11.drew := Below.drew (Below.refl _ _)
              refine wpMixS_pure (by kernel_rfl) (fun K hK => ?_)
              go_big_quiet_op
              refine hK _ ?_; clear hK K
              refine wpMixS_pure (by kernel_rfl) (fun K hK => ?_)
              go_big_quiet_op
              refine hK _ ?_; clear hK K
              refine wpMixS_pure (by kernel_rfl) (fun K hK => ?_)
              go_big_quiet_op
              refine hK _ ?_; clear hK K
              refine wpMixS_pure (by kernel_rfl) (fun K hK => ?_)
              go_big_quiet_op
              refine hK _ ?_; clear hK K
              refine wpMixS_pure (by kernel_rfl) (fun K hK => ?_)
              go_big_quiet_op
              refine hK _ ?_; clear hK K
              refine wpMixS_pure (by kernel_rfl) (fun K hK => ?_)
              go_big_quiet_op
              refine hK _ ?_; clear hK K
              refine wpMixS_pure (by kernel_rfl) (fun K hK => ?_)
              go_big_quiet_op
              refine hK _ ?_; clear hK K
              refine wpMixS_pure (by kernel_rfl) (fun K hK => ?_)
              go_big_quiet_op
              refine hK _ ?_; clear hK K
              refine wpMixS_pure (by kernel_rfl) (fun K hK => ?_)
              go_big_quiet_op
              refine hK _ ?_; clear hK K
              refine wpMixS_pure (by kernel_rfl) (fun K hK => ?_)
              go_big_quiet_op
              refine hK _ ?_; clear hK K
              refine wpMixS_pure (by kernel_rfl) (fun K hK => ?_)
              go_big_quiet_op
              refine hK _ ?_; clear hK K
              refine wpMixS_pure (by kernel_rfl) (fun K hK => ?_)
              go_big_quiet_op
              refine hK _ ?_; clear hK K
              refine wpMixS_pure (by kernel_rfl) (fun K hK => ?_)
              go_big_quiet_op
              refine hK _ ?_; clear hK K
              refine wpMixS_pure (by kernel_rfl) (fun K hK => ?_)
              go_big_quiet_op
              refine hK _ ?_; clear hK K
              refine wpMixS_last (by kernel_rfl) (fun K hK => ?_)
              go_big_op
              try simp only [Act.put, List.setIfInBounds_toArray, List.set_cons_zero, List.set_cons_succ]
              refine hK _ _ ?_
              clear hK K
              have hm12 := (hm11.below hS0).cut 4 rfl
              have hb13 := (hb12.trans (hS0.mono (Nat.le_trans hm11.gB (Nat.le_of_lt hm11.bx.lt)))).setCell (p := ⟨g, 4, none⟩) hm11.gB (.slice (some ⟨gp, 0, none⟩) Pp.length cp)
              clear hm11 gc4 c4 z4 hb12 hS0
              have hq7 : w11.drew.setCell ⟨g, 4, none⟩ (.slice (some ⟨gp, 0, none⟩) Pp.length cp) = (w11.setCell ⟨g, 4, none⟩ (.slice (some ⟨gp, 0, none⟩) Pp.length cp)).drew := rfl
              rw [hq7] at hm12 hb13
              clear hq7
              revert hm12 hb13
              generalize (w11.setCell ⟨g, 4, none⟩ (.slice (some ⟨gp, 0, none⟩) Pp.length cp)).drew = w12
              intro hm12 hb13
              have c3 : w12.cell? ⟨g, 3, none⟩ = some (.slice (some ⟨gu, 0, none⟩) U.length U.length) := hm12.bx.cell 3 _ rfl
              have ck : w12.cell? ⟨gu, k, none⟩ = some (.bool true) := hm12.us.cell _ _ (by rw [List.getElem?_map, List.getElem?_set_self hkU]; rfl)
              have zk := hm12.us.frz k (by simpa using hkU)
              have hm13 := hm12.mark k false
              rw [set_back hkU hgf] at hm13
              have hb14 := hb13.setCell (p := ⟨gu, k, none⟩) hm12.guB (.bool false)
              clear hm12 hb13
              go_wp2
              go_roundw
              case rel => exact ⟨k + 1, by omega, by omega, by go_num, T1, b1, HC2, hT11, ⟨_, _, _, _, _, _, hm13⟩, hrb1, Lib.hid (by omega), hb14⟩
              case measure => simp [intOf]; omega
            · rw [huk] at cu
              have hg : U.getD k false = true := by rw [getD_of_lt hkU]; exact huk
              have HS := Lib.hid ((foldK_skip (w2 := wTwo xs lvl) (g := visitF (wOne xs lvl) (wTwo xs lvl) xs.length m') (used := U) (pairs := Pp) (i := i) (people := people) (S := S) hg).trans HT.out)
              have HL2 := Lib.hid (show -(9 * (m' : Int)) - (((k + 1 : Nat) : Int) - i - 1) ≤ b by have := HLIM.out; omega)
              clear hg huk
              go_wp2
              go_roundw
              case rel => exact ⟨k + 1, by omega, by omega, by go_num, T, b, HS, hT, ⟨vp9, vb9, Vp9, Gp9, Vb9, Gb9, hm⟩, hrb, HL2, hbr⟩
              case measure => simp [intOf]; omega
          · obtain rfl : k = xs.length := by omega
            have c0 : wr.cell? ⟨g, 0, none⟩ = some (.slice A xs.length cap) := hm.bx.cell 0 _ rfl
            obtain ⟨bb, off, rfl, _, hok, hpx⟩ := PGroup.elem hlw hin
            have hwx : wOne xs lvl i = morG xs[i] lvl := by unfold wOne morG; rw [getD_of_lt hin, groupsB_one hv hin, Bool.true_and]
            have HC := Lib.hid (HN.out.trans (by rw [HT.out, hwx]))
            have hlim := HLIM.out
            have hnd := ND.out U Pp T people b xs[i] i _ HIM.out hU hP (by omega) hT.1 hT.2.1.1 hT.2.1.2 hrb (by omega) hp0 (by omega) hT.2.2 hok hlw ⟨_, _, _, _, _, _, hm⟩
            have HI2 := Lib.hid (show -(9 * (m : Int)) ≤ -(9 * (m' : Int)) - 9 ∧ (xs.length : Int) - i ≤ 8 from by omega)
            generalize xs[i] = x at *
            obtain ⟨x0, x1, x2, x3, x4, x5, x6⟩ := hpx
            clear HN HT hwx hm ND hok
            go_wp2_with fail
            refine hnd.mono ?_
            rintro e wz ⟨rfl, b', hmz, hrz, hlz, hSz, hBz⟩
            go_wp2
            refine bodyPost_end (results_none rfl _ _ _) rfl ?_
            have hI2 := HI2.out
            exact ⟨rfl, b', by rw [HC.out]; exact hmz, by rw [HC.out]; exact hrz, by split at hlz <;> omega, by rw [HC.out]; exact hSz, hbr.trans hBz⟩
      · rw [hu] at cu
        have hg : U.getD (xs.length - (m' + 1)) false = true := by rw [getD_of_lt hi]; exact hu
        have HS := Lib.hid (HV.out.trans (visitF_skip hg))
        have e9 : xs.length - (m' + 1) + 1 = xs.length - m' := by omega
        have e8 : ((xs.length - (m' + 1) : Nat) : Int) + 1 = ((xs.length - m' : Nat) : Int) := by omega
        have hlt : ((xs.length - (m' + 1) : Nat) : Int) < (xs.length : Int) := by omega
        go_wp2
        go_round
        case rel => exact ⟨m', by omega, by first | rfl | (congr 1; omega) | go_num, HS⟩
        case measure => simp [intOf]; omega
end Go.Proofs.Ytjfaafoldllppaa

namespace Go.Proofs.Ytjfaafoldllppaa
open Go.RowKit
set_option linter.unusedVariables false
set_option linter.unusedSimpArgs false

def bpT (xs : List DGroup) (lvl bud : Int) : Sr := visitF (wOne xs lvl) (wTwo xs lvl) xs.length xs.length (List.replicate xs.length false) [] 0 ⟨[], -1, bud⟩
structure BpA where
  ps : List (Nat × Nat)
  most : Int
  code : Int
def bpR (xs : List DGroup) (lvl bud : Int) : BpA :=
  if groupsB xs = false then ⟨[], 0, 1⟩ else if (levelB lvl && inB bud 1 20000) = false then ⟨[], 0, 2⟩ else if (bpT xs lvl bud).c < 0 then ⟨[], 0, 5⟩ else ⟨(bpT xs lvl bud).best, (bpT xs lvl bud).most, 0⟩
def bpF (xs : List DGroup) (lvl bud : Int) : List (List Int) := (bpR xs lvl bud).ps.map prL
def bpM (xs : List DGroup) (lvl bud : Int) : Int := (bpR xs lvl bud).most
def bpC (xs : List DGroup) (lvl bud : Int) : Int := (bpR xs lvl bud).code
def BpR (w : World) (xs : List DGroup) (lvl bud : Int) (e : Ending) (w' : World) : Prop := ∃ v, e = .returned (.tuple #[v, .int .i64 (bpM xs lvl bud), .int .i64 (bpC xs lvl bud)]) ∧ New fInt.cod.slice w v (bpF xs lvl bud) w'
theorem BpR.mk' {w w' : World} {xs : List DGroup} {lvl bud : Int} {v : Value} {a : BpA} (h : bpR xs lvl bud = a) (hn : New fInt.cod.slice w v (a.ps.map prL) w') : BpR w xs lvl bud (.returned (.tuple #[v, .int .i64 a.most, .int .i64 a.code])) w' := by
  subst h; exact ⟨v, rfl, hn⟩
theorem bpR_1 {xs : List DGroup} {lvl bud : Int} (h : groupsB xs = false) : bpR xs lvl bud = ⟨[], 0, 1⟩ := by unfold bpR; rw [if_pos h]
theorem bpR_2 {xs : List DGroup} {lvl bud : Int} (h : groupsB xs = true) (h2 : (levelB lvl && inB bud 1 20000) = false) : bpR xs lvl bud = ⟨[], 0, 2⟩ := by unfold bpR; rw [if_neg (by rw [h]; decide), if_pos h2]
theorem bpR_3 {xs : List DGroup} {lvl bud : Int} (h : groupsB xs = true) (h2 : (levelB lvl && inB bud 1 20000) = true) (h3 : (bpT xs lvl bud).c < 0) : bpR xs lvl bud = ⟨[], 0, 5⟩ := by unfold bpR; rw [if_neg (by rw [h]; decide), if_neg (by rw [h2]; decide), if_pos h3]
theorem bpR_4 {xs : List DGroup} {lvl bud : Int} (h : groupsB xs = true) (h2 : (levelB lvl && inB bud 1 20000) = true) (h3 : ¬ (bpT xs lvl bud).c < 0) : bpR xs lvl bud = ⟨(bpT xs lvl bud).best, (bpT xs lvl bud).most, 0⟩ := by unfold bpR; rw [if_neg (by rw [h]; decide), if_neg (by rw [h2]; decide), if_neg h3]
theorem madeB_list (n : Nat) : madeCells #[Value.bool false] n = ((List.replicate n false).map Value.bool).toArray := by
  have e2 : (madeCells #[Value.bool false] n).toList = List.replicate n (Value.bool false) := by
    unfold madeCells
    rw [Array.toList_map, Array.toList_range]
    refine List.ext_getElem (by simp) (fun i h1 h2 => ?_)
    simp [Nat.mod_one]
  rw [List.map_replicate, ← e2]
theorem pg_nil {w : World} {B : Nat} {v : Value} (hv : w.ownsRow B 50 1 v 0 []) : PgW w B v ([] : List (Nat × Nat)).length (fun _ => undef) (rowX []) (fun _ => 0) :=
  (PgW.nil (c := 0) hv).congr (fun i hi => absurd hi (Nat.not_lt_zero i))
theorem inPg_nil0 {b : Nat} : ¬ inPg (.slice none 0 0) ([] : List (Nat × Nat)).length (fun _ => 0) b := fun h => by
  rcases h with h | ⟨i, hi, _⟩
  · cases h
  · exact absurd hi (Nat.not_lt_zero i)
theorem best_new {w w' : World} {B : Nat} {v : Value} {V : Nat → Value} {G : Nat → Nat} {P : List (Nat × Nat)} (h : PgW w' B v P.length V (rowX P) G) (hs : Small P) (hB : w.heap.size ≤ B) (hb : Below w.heap.size w w') : New fInt.cod.slice w v (P.map prL) w' := by
  obtain ⟨fp, h1, h2, h3⟩ := h.sl (xss := P.map prL) (by
    refine List.ext_getElem (by simp) (fun i h1 h2 => ?_)
    rw [List.getElem_map, List.getElem_map, List.getElem_range]
    exact (rowX_pr (by simpa using h1)).symm) (fun i _ => rowX_ok hs.2 i)
  exact ⟨⟨fp, h1, fun b hb => Nat.le_trans hB (h2 b hb), h3⟩, hb⟩
theorem infoBoolR : (Try.prog.info? 4).map (fun i => (i.zero, i.size, i.bytes)) = some (some (.bool false), 1, 1) := by kernel_rfl
theorem mkB (n : Nat) (hn : n ≤ 1000) (W : World) : (Instr.makeSlice 59 (.int .i64 (n : Nat)) (.int .i64 (n : Nat))).run Try.prog W = .ok (.slice (some ⟨W.heap.size, 0, none⟩) n n) (W.alloc (.cells (madeCells #[Value.bool false] n) 4)) := by
  obtain ⟨k0, hk0, hb0', hb1', hb2'⟩ := info_parts infoBoolR
  have h := run_make_rowN (P := Try.prog) 59 4 k0 _ Try.underlying59 hk0 hb0' .i64 .i64 n n (Nat.le_refl _) (by rw [hb2']; omega) (by omega) W
  rw [hb1', Nat.mul_one] at h
  exact h
set_option maxRecDepth 100000 in
set_option maxHeartbeats 400000 in
theorem l22Budget_any (a : Int) (w : World) : Calls Try.prog 27 #[.int .i64 a] w fun e w' => e = .returned (.bool (inB a 1 20000)) ∧ w = w' := by
  go_enter Try.func27, Try.ntmps27
  go_wp2_with fail
  refine (l00InB_any _ _ _ _).mono ?_
  rintro e w' ⟨rfl, rfl⟩
  go_wp2
  go_ret
  exact ⟨rfl, rfl⟩
set_option maxRecDepth 100000 in
set_option maxHeartbeats 400000 in
theorem budgetValidG_any (a : Int) (w : World) : Calls Try.prog 32 #[.int .i64 a] w fun e w' => e = .returned (.bool (inB a 1 20000)) ∧ w = w' := by
  go_enter Try.func32, Try.ntmps32
  go_wp2_with (go_at_call 44; refine (withinB_any _ _ _ _).mono ?_; rintro e w' ⟨rfl, rfl⟩)
  go_ret
  exact ⟨rfl, rfl⟩
set_option maxRecDepth 100000 in
set_option maxHeartbeats 8000000 in
theorem specBestPairs_any (v : Value) (xs : List DGroup) (fp : List Nat) (lvl bud : Int) (w : World) (hx : Sl fGroup.cod w v xs fp) :
    Calls Try.prog 6 #[v, .int .i64 lvl, .int .i64 bud] w fun e w' => BpR w xs lvl bud e w' := by
  have hlt0 := hx.lt
  obtain ⟨A, cap, rfl, _, _⟩ := hx.form
  go_enter Try.func6, Try.ntmps6
  go_wp2_with fail
  refine (l24Ok_any _ _ _ _ hx).mono ?_
  rintro e w1 ⟨rfl, hb1⟩
  cases h0 : groupsB xs
  · have HA := Lib.hid (bpR_1 (lvl := lvl) (bud := bud) h0)
    go_wp2
    refine bodyPost_ret (v := .tuple #[.slice none 0 0, .int .i64 0, .int .i64 1]) (by simp [results, Try.results6, go_sem]) rfl ?_
    exact BpR.mk' HA.out (New.nil hb1)
  have hx1 := hx.below' hb1
  go_wp2_with fail
  refine (l17Is_any _ _).mono ?_
  rintro e w' ⟨rfl, rfl⟩
  cases h1 : levelB lvl
  · have HA := Lib.hid (bpR_2 (lvl := lvl) (bud := bud) h0 (by rw [h1]; rfl))
    go_wp2
    refine bodyPost_ret (v := .tuple #[.slice none 0 0, .int .i64 0, .int .i64 2]) (by simp [results, Try.results6, go_sem]) rfl ?_
    exact BpR.mk' HA.out (New.nil hb1)
  go_wp2_with fail
  refine (l22Budget_any _ _).mono ?_
  rintro e w' ⟨rfl, rfl⟩
  cases h2 : inB bud 1 20000
  · have HA := Lib.hid (bpR_2 (lvl := lvl) (bud := bud) h0 (by rw [h1, h2]; rfl))
    go_wp2
    refine bodyPost_ret (v := .tuple #[.slice none 0 0, .int .i64 0, .int .i64 2]) (by simp [results, Try.results6, go_sem]) rfl ?_
    exact BpR.mk' HA.out (New.nil hb1)
  have hbu := inB_true.1 h2
  have hn8 := groupsB_len h0
  have hmk := mkB xs.length (by omega)
  have HL := Lib.hid (show (levelB lvl && inB bud 1 20000) = true by rw [h1, h2]; rfl)
  have H0 := Lib.hid h0
  clear h1 h2 h0
  have hU := BoxL.new w1 ((List.replicate xs.length false).map Value.bool) 4 (madeCells #[Value.bool false] xs.length) (madeB_list _)
  have hA1 : Below w1.heap.size w1 (w1.alloc (.cells (madeCells #[Value.bool false] xs.length) 4)) := (Below.refl _ _).alloc (Nat.le_refl _) _
  have hA2 := hA1.alloc hA1.size (.cells #[] 50)
  have hz2 : ((w1.alloc (.cells (madeCells #[Value.bool false] xs.length) 4)).alloc (.cells #[] 50)).heap.size = w1.heap.size + 2 := by simp
  have hO : ((w1.alloc (.cells (madeCells #[Value.bool false] xs.length) 4)).alloc (.cells #[] 50)).ownsRow w1.heap.size 50 1 (.slice (some ⟨w1.heap.size + 1, 0, none⟩) 0 0) 0 [] := by
    have h := Own.lit0m fInt (w := w1.alloc (.cells (madeCells #[Value.bool false] xs.length) 4)) (base := w1.heap.size) hA1.size (e := 50)
    rw [World.size_alloc] at h
    exact h
  have hU2 := hU.below ((Below.refl _ _).alloc (Nat.le_refl _) (.cells #[] 50))
  have e1 : (if bud < 0 then bud else bud - bud) = 0 := by rw [if_neg (by omega)]; omega
  have e2 : decide (bud < 0) = false := decide_eq_false (by omega)
  generalize hW : (w1.alloc (.cells (madeCells #[Value.bool false] xs.length) 4)).alloc (.cells #[] 50) = W2 at *
  have hbx := BoxL.new W2 (boxS (.slice A xs.length cap) lvl w1.heap.size xs.length bud bud (-1) (.slice none 0 0) (.slice (some ⟨w1.heap.size + 1, 0, none⟩) 0 0)) 61 #[.slice A xs.length cap, .int .i64 lvl, .slice (some ⟨w1.heap.size, 0, none⟩) xs.length xs.length, .slice none 0 0, .slice (some ⟨w1.heap.size + 1, 0, none⟩) 0 0, .int .i64 (-1), .int .i64 0, .int .i64 bud, .bool false] (by unfold boxS; rw [e1, e2])
  have hA3 : Below W2.heap.size W2 (W2.alloc (.cells #[.slice A xs.length cap, .int .i64 lvl, .slice (some ⟨w1.heap.size, 0, none⟩) xs.length xs.length, .slice none 0 0, .slice (some ⟨w1.heap.size + 1, 0, none⟩) 0 0, .int .i64 (-1), .int .i64 0, .int .i64 bud, .bool false] 61)) := (Below.refl _ _).alloc (Nat.le_refl _) _
  have hM : SMem (W2.alloc (.cells #[.slice A xs.length cap, .int .i64 lvl, .slice (some ⟨w1.heap.size, 0, none⟩) xs.length xs.length, .slice none 0 0, .slice (some ⟨w1.heap.size + 1, 0, none⟩) 0 0, .int .i64 (-1), .int .i64 0, .int .i64 bud, .bool false] 61)) w1.heap.size (w1.heap.size + 2) w1.heap.size (boxS (.slice A xs.length cap) lvl w1.heap.size xs.length bud bud (-1)) (List.replicate xs.length false) [] [] (.slice none 0 0) (.slice (some ⟨w1.heap.size + 1, 0, none⟩) 0 0) (fun _ => undef) (fun _ => 0) (fun _ => undef) (fun _ => 0) := by
    refine ⟨?_, hU2.below hA3, pg_nil (World.ownsRow_nil _ _ _ _), (pg_nil hO).below hA3, by omega, Nat.le_refl _, by omega, fun b hb => absurd hb inPg_nil0, fun b hb => ?_⟩
    · rw [hz2] at hbx; exact hbx
    · rcases hb with hb | ⟨i, hi, _⟩
      · have e : w1.heap.size + 1 = b := by injection hb
        omega
      · exact absurd hi (Nat.not_lt_zero i)
  have hb13 : Below w1.heap.size w1 (W2.alloc (.cells #[.slice A xs.length cap, .int .i64 lvl, .slice (some ⟨w1.heap.size, 0, none⟩) xs.length xs.length, .slice none 0 0, .slice (some ⟨w1.heap.size + 1, 0, none⟩) 0 0, .int .i64 (-1), .int .i64 0, .int .i64 bud, .bool false] 61)) := hA2.trans (hA3.mono (by rw [hz2]; omega))
  subst hW
  clear hbx hU2 hU hA1 hA2 hA3 hO e1 e2
  have hx3 := hx1.below' hb13
  have hrun := specRun_any xs H0.out w1.heap.size (w1.heap.size + 2) w1.heap.size (.slice A xs.length cap) fp (fun b hb => Nat.lt_of_lt_of_le (hlt0 b hb) hb1.size) lvl bud ⟨by omega, by omega⟩ xs.length (List.replicate xs.length false) [] ⟨[], -1, bud⟩ 0 _ (Nat.le_refl _) List.length_replicate ⟨Nat.zero_le _, fun q hq => by cases hq⟩ (by simp) ⟨Nat.zero_le _, fun q hq => by cases hq⟩ (by show -1 ≤ bud; omega) (Int.le_refl _) (Int.le_refl _) (by omega) (by show (-1 : Int) ≤ -1 ∧ (-1 : Int) ≤ 100000; decide) hx3 (by
    rw [← List.length_replicate (n := xs.length) (a := false)] at hM
    exact ⟨_, _, _, _, _, _, by simpa using hM⟩)
  rw [Nat.sub_self] at hrun
  clear hM hx1
  go_wp2_with fail
  refine hrun.mono ?_
  rintro e w4 ⟨rfl, ⟨vp, vb, Vp, Gp, Vb, Gb, hm⟩, hT, hb4⟩
  have hw4 := hb1.trans ((hb13.trans hb4).mono hb1.size)
  have hT3 := fun h => bpR_3 (xs := xs) (lvl := lvl) (bud := bud) H0.out HL.out h
  have hT4 := fun h => bpR_4 (xs := xs) (lvl := lvl) (bud := bud) H0.out HL.out h
  unfold bpT at hT3 hT4
  clear hrun hb13 hb4 hmk hz2
  generalize visitF (wOne xs lvl) (wTwo xs lvl) xs.length xs.length (List.replicate xs.length false) [] 0 ⟨[], -1, bud⟩ = T at *
  have c8 : w4.cell? ⟨w1.heap.size + 2, 8, none⟩ = some (.bool (decide (T.c < 0))) := hm.bx.cell 8 _ rfl
  have c4 : w4.cell? ⟨w1.heap.size + 2, 4, none⟩ = some vb := hm.bx.cell 4 _ rfl
  have c5 : w4.cell? ⟨w1.heap.size + 2, 5, none⟩ = some (.int .i64 T.most) := hm.bx.cell 5 _ rfl
  by_cases hc : T.c < 0
  · have HA := Lib.hid (hT3 hc)
    rw [decide_eq_true hc] at c8
    clear hT3 hT4 hc
    go_wp2
    refine bodyPost_ret (v := .tuple #[.slice none 0 0, .int .i64 0, .int .i64 5]) (by simp [results, Try.results6, go_sem]) rfl ?_
    exact BpR.mk' HA.out (New.nil hw4)
  · have HA := Lib.hid (hT4 hc)
    rw [decide_eq_false hc] at c8
    have hpr := hm.bs
    have hsm := hT.1.small hn8
    clear hT3 hT4 hc hm
    go_wp2
    go_quiet (fail)
    go_wp2
    refine bodyPost_ret (v := .tuple #[vb, .int .i64 T.most, .int .i64 0]) (by simp [results, Try.results6, go_sem]) rfl ?_
    exact BpR.mk' HA.out (best_new (hpr.below (below_drewN (Below.refl _ _) _)) hsm hb1.size (hw4.trans (by repeat (first | exact Below.refl _ _ | assumption | refine Below.alloc ?_ (by first | omega | (simp <;> omega)) _ | refine Below.setCell ?_ (by first | (show _ ≤ _; omega) | (simp <;> omega)) _ | refine Below.drew ?_ | refine below_drewN ?_ _))))
theorem BoxL.stored {w : World} {b : Nat} {zs vs : List Value} (h : BoxL w b zs) (hl : zs.length = vs.length) : BoxL (w.setCells b 0 vs) b vs := by
  have hth : w.there b 0 vs.length := fun j hj => by
    rw [Nat.zero_add]
    exact ⟨isSome_of (h.cell j _ (List.getElem?_eq_getElem (by omega))), h.frz j (by omega)⟩
  have hr := World.rangeAt_setCells_same w b 0 vs hth
  refine ⟨fun j v hv => ?_, fun j hj => ?_, Nat.lt_of_lt_of_le h.lt (belowSetCells (Nat.le_refl b) vs 0 w).size⟩
  · have := hr j v hv
    rw [Nat.zero_add] at this; exact this
  · rw [World.frozen?_setCells]; exact h.frz j (by omega)
theorem BoxL.there {w : World} {b : Nat} {zs : List Value} (h : BoxL w b zs) : w.there b 0 zs.length := fun j hj => by
  rw [Nat.zero_add]
  exact ⟨isSome_of (h.cell j _ (List.getElem?_eq_getElem hj)), h.frz j hj⟩
theorem BoxL.other {w w' : World} {b B : Nat} {zs : List Value} (h : BoxL w b zs) (hb : Below B w w') (hB : b < B) : BoxL w' b zs := h.keep (hb.block b hB) hb.size
set_option maxRecDepth 100000 in
set_option maxHeartbeats 8000000 in
theorem implBestPairs_any (v : Value) (xs : List DGroup) (fp : List Nat) (lvl bud : Int) (w : World) (hx : Sl fGroup.cod w v xs fp) :
    Calls Try.prog 8 #[v, .int .i64 lvl, .int .i64 bud] w fun e w' => BpR w xs lvl bud e w' := by
  have hlt0 := hx.lt
  obtain ⟨A, cap, rfl, _, _⟩ := hx.form
  go_enter Try.func8, Try.ntmps8
  go_wp2_with fail
  refine (validGroups_any _ _ _ _ hx).mono ?_
  rintro e w1 ⟨rfl, hb1⟩
  cases h0 : groupsB xs
  · have HA := Lib.hid (bpR_1 (lvl := lvl) (bud := bud) h0)
    go_wp2
    refine bodyPost_ret (v := .tuple #[.slice none 0 0, .int .i64 0, .int .i64 1]) (by simp [results, Try.results8, go_sem]) rfl ?_
    exact BpR.mk' HA.out (New.nil hb1)
  have hx1 := hx.below' hb1
  go_wp2_with fail
  refine (levelOk_any _ _).mono ?_
  rintro e w' ⟨rfl, rfl⟩
  cases h1 : levelB lvl
  · have HA := Lib.hid (bpR_2 (lvl := lvl) (bud := bud) h0 (by rw [h1]; rfl))
    go_wp2
    refine bodyPost_ret (v := .tuple #[.slice none 0 0, .int .i64 0, .int .i64 2]) (by simp [results, Try.results8, go_sem]) rfl ?_
    exact BpR.mk' HA.out (New.nil hb1)
  go_wp2_with fail
  refine (budgetValidG_any _ _).mono ?_
  rintro e w' ⟨rfl, rfl⟩
  cases h2 : inB bud 1 20000
  · have HA := Lib.hid (bpR_2 (lvl := lvl) (bud := bud) h0 (by rw [h1, h2]; rfl))
    go_wp2
    refine bodyPost_ret (v := .tuple #[.slice none 0 0, .int .i64 0, .int .i64 2]) (by simp [results, Try.results8, go_sem]) rfl ?_
    exact BpR.mk' HA.out (New.nil hb1)
  have hbu := inB_true.1 h2
  have hn8 := groupsB_len h0
  have hmk := mkB xs.length (by omega)
  have HL := Lib.hid (show (levelB lvl && inB bud 1 20000) = true by rw [h1, h2]; rfl)
  have H0 := Lib.hid h0
  clear h1 h2 h0
  have hU := BoxL.new w1 ((List.replicate xs.length false).map Value.bool) 4 (madeCells #[Value.bool false] xs.length) (madeB_list _)
  have hA1 : Below w1.heap.size w1 (w1.alloc (.cells (madeCells #[Value.bool false] xs.length) 4)) := (Below.refl _ _).alloc (Nat.le_refl _) _
  have hz1 : (w1.alloc (.cells (madeCells #[Value.bool false] xs.length) 4)).heap.size = w1.heap.size + 1 := by simp
  have hbz := BoxL.new (w1.alloc (.cells (madeCells #[Value.bool false] xs.length) 4)) [.slice none 0 0, .int .i64 0, .int .i64 0, .slice none 0 0, .slice none 0 0, .slice none 0 0, .int .i64 0] 65 #[.slice none 0 0, .int .i64 0, .int .i64 0, .slice none 0 0, .slice none 0 0, .slice none 0 0, .int .i64 0] rfl
  rw [hz1] at hbz
  have hU2 := hU.below ((Below.refl _ _).alloc (Nat.le_refl _) (.cells #[.slice none 0 0, .int .i64 0, .int .i64 0, .slice none 0 0, .slice none 0 0, .slice none 0 0, .int .i64 0] 65))
  have hA2 := hA1.alloc hA1.size (.cells #[.slice none 0 0, .int .i64 0, .int .i64 0, .slice none 0 0, .slice none 0 0, .slice none 0 0, .int .i64 0] 65)
  have hth := hbz.there
  have hbx := hbz.stored (vs := boxI (.slice A xs.length cap) lvl w1.heap.size xs.length bud (-1) (.slice none 0 0) (.slice none 0 0)) rfl
  have hA3 := belowSetCells (B := w1.heap.size + 1) (g := w1.heap.size + 1) (Nat.le_refl _) (boxI (.slice A xs.length cap) lvl w1.heap.size xs.length bud (-1) (.slice none 0 0) (.slice none 0 0)) 0 ((w1.alloc (.cells (madeCells #[Value.bool false] xs.length) 4)).alloc (.cells #[.slice none 0 0, .int .i64 0, .int .i64 0, .slice none 0 0, .slice none 0 0, .slice none 0 0, .int .i64 0] 65))
  have hM : SMem (((w1.alloc (.cells (madeCells #[Value.bool false] xs.length) 4)).alloc (.cells #[.slice none 0 0, .int .i64 0, .int .i64 0, .slice none 0 0, .slice none 0 0, .slice none 0 0, .int .i64 0] 65)).setCells (w1.heap.size + 1) 0 (boxI (.slice A xs.length cap) lvl w1.heap.size xs.length bud (-1) (.slice none 0 0) (.slice none 0 0))) w1.heap.size (w1.heap.size + 1) w1.heap.size (boxI (.slice A xs.length cap) lvl w1.heap.size xs.length bud (-1)) (List.replicate xs.length false) [] [] (.slice none 0 0) (.slice none 0 0) (fun _ => undef) (fun _ => 0) (fun _ => undef) (fun _ => 0) :=
    ⟨hbx, hU2.other hA3 (by omega), pg_nil (World.ownsRow_nil _ _ _ _), pg_nil (World.ownsRow_nil _ _ _ _), by omega, Nat.le_refl _, by omega, fun b hb => absurd hb inPg_nil0, fun b hb => absurd hb inPg_nil0⟩
  have hb13 := hA2.trans (hA3.mono (show w1.heap.size ≤ w1.heap.size + 1 by omega))
  clear hbx hU2 hU hA1 hA2 hA3 hbz
  unfold boxI at hb13
  unfold boxI at hM
  have hall := visitI_any xs H0.out w1.heap.size (w1.heap.size + 1) w1.heap.size (.slice A xs.length cap) fp (fun b hb => Nat.lt_of_lt_of_le (hlt0 b hb) hb1.size) lvl bud ⟨by omega, by omega⟩ xs.length
  go_upto_region 5 with fail
  have hthW : ∀ W : World, W = (w1.alloc (.cells (madeCells #[Value.bool false] xs.length) 4)).alloc (.cells #[.slice none 0 0, .int .i64 0, .int .i64 0, .slice none 0 0, .slice none 0 0, .slice none 0 0, .int .i64 0] 65) → W.there (w1.heap.size + 1) 0 7 := fun W h => by subst h; exact hth
  clear hth
  go_wp2_with (refine wpList_store_mid rfl 65 _ _ rfl (w1.heap.size + 1) 0 #[.slice A xs.length cap, .int .i64 lvl, .int .i64 bud, .slice (some ⟨w1.heap.size, 0, none⟩) xs.length xs.length, .slice none 0 0, .slice none 0 0, .int .i64 (-1)] rfl rfl (hthW _ (by with_reducible rfl)) (by kernel_rfl) (by kernel_rfl) ?_)
  generalize ((w1.alloc (.cells (madeCells #[Value.bool false] xs.length) 4)).alloc (.cells #[.slice none 0 0, .int .i64 0, .int .i64 0, .slice none 0 0, .slice none 0 0, .slice none 0 0, .int .i64 0] 65)).setCells (w1.heap.size + 1) 0 [.slice A xs.length cap, .int .i64 lvl, .int .i64 bud, .slice (some ⟨w1.heap.size, 0, none⟩) xs.length xs.length, .slice none 0 0, .slice none 0 0, .int .i64 (-1)] = W3 at hM hb13 ⊢
  clear hthW hz1 hmk
  have hx3 := hx1.below' hb13
  have hrun := hall (List.replicate xs.length false) [] ⟨[], -1, bud⟩ 0 W3 (Nat.le_refl _) List.length_replicate ⟨Nat.zero_le _, fun q hq => by cases hq⟩ (by simp) ⟨Nat.zero_le _, fun q hq => by cases hq⟩ (by show 0 ≤ bud; omega) (Int.le_refl _) (Int.le_refl _) (by omega) (by show (-1 : Int) ≤ -1 ∧ (-1 : Int) ≤ 100000; decide) hx3 ⟨_, _, _, _, _, _, by rw [List.length_replicate]; exact hM⟩
  rw [Nat.sub_self] at hrun
  clear hM hx1 hall
  refine hrun.mono ?_
  rintro e w4 ⟨rfl, b, ⟨vp, vb, Vp, Gp, Vb, Gb, hm⟩, hrb, hlb, hT, hb4⟩
  have hw4 := hb1.trans ((hb13.trans hb4).mono hb1.size)
  have hT3 := fun h => bpR_3 (xs := xs) (lvl := lvl) (bud := bud) H0.out HL.out h
  have hT4 := fun h => bpR_4 (xs := xs) (lvl := lvl) (bud := bud) H0.out HL.out h
  unfold bpT at hT3 hT4
  clear hrun hb13 hb4 hlb
  generalize visitF (wOne xs lvl) (wTwo xs lvl) xs.length xs.length (List.replicate xs.length false) [] 0 ⟨[], -1, bud⟩ = T at *
  have c2 : w4.cell? ⟨w1.heap.size + 1, 2, none⟩ = some (.int .i64 b) := hm.bx.cell 2 _ rfl
  have c5 : w4.cell? ⟨w1.heap.size + 1, 5, none⟩ = some vb := hm.bx.cell 5 _ rfl
  have c6 : w4.cell? ⟨w1.heap.size + 1, 6, none⟩ = some (.int .i64 T.most) := hm.bx.cell 6 _ rfl
  by_cases hc : T.c < 0
  · have HA := Lib.hid (hT3 hc)
    have hbneg : b < 0 := hrb.2 hc
    clear hT3 hT4 hc hrb
    go_wp2
    refine bodyPost_ret (v := .tuple #[.slice none 0 0, .int .i64 0, .int .i64 5]) (by simp [results, Try.results8, go_sem]) rfl ?_
    exact BpR.mk' HA.out (New.nil hw4)
  · have HA := Lib.hid (hT4 hc)
    have hbpos : 0 ≤ b := by have := hrb.1 (by omega); omega
    have hpr := hm.bs
    have hsm := hT.1.small hn8
    clear hT3 hT4 hc hm hrb
    go_wp2
    go_quiet (fail)
    go_wp2
    refine bodyPost_ret (v := .tuple #[vb, .int .i64 T.most, .int .i64 0]) (by simp [results, Try.results8, go_sem]) rfl ?_
    exact BpR.mk' HA.out (best_new (hpr.below (below_drewN (Below.refl _ _) _)) hsm hb1.size (hw4.trans (by repeat (first | exact Below.refl _ _ | assumption | refine Below.alloc ?_ (by first | omega | (simp <;> omega)) _ | refine Below.setCell ?_ (by first | (show _ ≤ _; omega) | (simp <;> omega)) _ | refine Below.drew ?_ | refine below_drewN ?_ _))))
end Go.Proofs.Ytjfaafoldllppaa

namespace Go.Proofs.Ytjfaafoldllppaa
open Go.RowKit
set_option linter.unusedVariables false

def inP (P : List (Nat × Nat)) (j : Nat) : Bool := P.any fun q => q.1 == j || q.2 == j
theorem inP_append (P Q : List (Nat × Nat)) (j : Nat) : inP (P ++ Q) j = (inP P j || inP Q j) := by unfold inP; rw [List.any_append]
def rest1 (w1 : Nat → Int) (P : List (Nat × Nat)) (u : Nat) : Int := (((List.range u).filter fun j => !inP P j).map w1).sum
def sum2 (w2 : Nat → Nat → Int) (P : List (Nat × Nat)) : Int := (P.map fun q => w2 q.1 q.2).sum
theorem sumI_append (a b : List Int) : (a ++ b).sum = a.sum + b.sum := by
  induction a with
  | nil => simp
  | cons x a ih => simp only [List.cons_append, List.sum_cons, ih]; omega
set_option linter.unusedSimpArgs false
theorem rest1_in {w1 : Nat → Int} {P : List (Nat × Nat)} {i : Nat} (h : inP P i = true) : rest1 w1 P (i + 1) = rest1 w1 P i := by
  unfold rest1
  rw [List.range_succ, List.filter_append, List.filter_cons, h]
  simp
theorem rest1_out {w1 : Nat → Int} {P : List (Nat × Nat)} {i : Nat} (h : inP P i = false) : rest1 w1 P (i + 1) = rest1 w1 P i + w1 i := by
  unfold rest1
  rw [List.range_succ, List.filter_append, List.filter_cons, h]
  simp [sumI_append]
theorem rest1_congr {w1 : Nat → Int} {P Q : List (Nat × Nat)} {u : Nat} (h : ∀ j, j < u → inP P j = inP Q j) : rest1 w1 P u = rest1 w1 Q u := by
  unfold rest1
  congr 2
  exact List.filter_congr (fun j hj => by rw [h j (List.mem_range.1 hj)])
theorem sum2_push (w2 : Nat → Nat → Int) (P : List (Nat × Nat)) (i k : Nat) : sum2 w2 (P ++ [(i, k)]) = sum2 w2 P + w2 i k := by
  unfold sum2; rw [List.map_append, sumI_append]; simp
structure PairsOk (n i : Nat) (P : List (Nat × Nat)) : Prop where
  rng : ∀ q ∈ P, q.1 < q.2 ∧ q.2 < n ∧ q.1 < i
  asc : P.Pairwise (fun a b => a.1 < b.1)
  snd : P.Pairwise (fun a b => a.2 ≠ b.2)
  mix : ∀ a ∈ P, ∀ b ∈ P, a.1 ≠ b.2
structure UsedOk (n : Nat) (P : List (Nat × Nat)) (U : List Bool) : Prop where
  len : U.length = n
  iff : ∀ k, U.getD k false = true ↔ ∃ q ∈ P, q.2 = k
theorem PairsOk.nil (n i : Nat) : PairsOk n i [] := ⟨by simp, List.Pairwise.nil, List.Pairwise.nil, by simp⟩
theorem UsedOk.nil (n : Nat) : UsedOk n [] (List.replicate n false) := ⟨by simp, fun k => by
  constructor
  · intro h
    rw [List.getD_eq_getElem?_getD, List.getElem?_replicate] at h
    split at h <;> simp at h
  · rintro ⟨q, hq, _⟩; cases hq⟩
theorem PairsOk.next {n i : Nat} {P : List (Nat × Nat)} (h : PairsOk n i P) : PairsOk n (i + 1) P := ⟨fun q hq => by have := h.rng q hq; omega, h.asc, h.snd, h.mix⟩
theorem not_used {n : Nat} {P : List (Nat × Nat)} {U : List Bool} (hu : UsedOk n P U) {k : Nat} (h : U.getD k false = false) : ∀ q ∈ P, q.2 ≠ k := fun q hq e => by
  have := (hu.iff k).2 ⟨q, hq, e⟩
  rw [h] at this; cases this
theorem PairsOk.push {n i k : Nat} {P : List (Nat × Nat)} {U : List Bool} (h : PairsOk n i P) (hu : UsedOk n P U) (hi : U.getD i false = false) (hk : U.getD k false = false) (hik : i < k) (hkn : k < n) : PairsOk n (i + 1) (P ++ [(i, k)]) := by
  refine ⟨fun q hq => ?_, ?_, ?_, ?_⟩
  · rcases List.mem_append.1 hq with hq | hq
    · have := h.rng q hq; omega
    · rw [List.mem_singleton] at hq; subst hq; exact ⟨hik, hkn, by show i < i + 1; omega⟩
  · rw [List.pairwise_append]
    exact ⟨h.asc, by simp, fun a ha b hb => by rw [List.mem_singleton] at hb; subst hb; exact (h.rng a ha).2.2⟩
  · rw [List.pairwise_append]
    exact ⟨h.snd, by simp, fun a ha b hb => by rw [List.mem_singleton] at hb; subst hb; exact not_used hu hk a ha⟩
  · intro a ha b hb
    rcases List.mem_append.1 ha with ha | ha <;> rcases List.mem_append.1 hb with hb | hb
    · exact h.mix a ha b hb
    · rw [List.mem_singleton] at hb; subst hb; have := h.rng a ha; show a.1 ≠ k; omega
    · rw [List.mem_singleton] at ha; subst ha; exact fun e => not_used hu hi b hb e.symm
    · rw [List.mem_singleton] at ha hb; subst ha hb; show i ≠ k; omega
theorem UsedOk.push {n i k : Nat} {P : List (Nat × Nat)} {U : List Bool} (hu : UsedOk n P U) (hkn : k < n) : UsedOk n (P ++ [(i, k)]) (U.set k true) := by
  refine ⟨by rw [List.length_set]; exact hu.len, fun j => ?_⟩
  rw [List.getD_eq_getElem?_getD, List.getElem?_set]
  by_cases e : k = j
  · subst e
    rw [if_pos rfl, if_pos (by rw [hu.len]; exact hkn)]
    simp
  · rw [if_neg e, ← List.getD_eq_getElem?_getD, hu.iff j]
    constructor
    · rintro ⟨q, hq, h⟩; exact ⟨q, List.mem_append_left _ hq, h⟩
    · rintro ⟨q, hq, h⟩
      rcases List.mem_append.1 hq with hq | hq
      · exact ⟨q, hq, h⟩
      · rw [List.mem_singleton] at hq; subst hq; exact absurd h e
theorem inP_used {n i : Nat} {P : List (Nat × Nat)} {U : List Bool} (hp : PairsOk n i P) (hu : UsedOk n P U) : inP P i = U.getD i false := by
  cases h : U.getD i false
  · unfold inP
    rw [List.any_eq_false]
    intro q hq
    have h1 := hp.rng q hq
    have h2 := not_used hu h q hq
    simp; omega
  · obtain ⟨q, hq, e⟩ := (hu.iff i).1 h
    unfold inP
    rw [List.any_eq_true]
    exact ⟨q, hq, by simp [e]⟩
section
variable {w1 : Nat → Int} {w2 : Nat → Nat → Int} {n : Nat}
def scoreP (w1 : Nat → Int) (w2 : Nat → Nat → Int) (n : Nat) (P : List (Nat × Nat)) : Int := sum2 w2 P + rest1 w1 P n
/-- What is known of a state of the search. -/
def Good (w1 : Nat → Int) (w2 : Nat → Nat → Int) (n : Nat) (S : Sr) : Prop := S.most = -1 ∨ (PairsOk n n S.best ∧ S.most = scoreP w1 w2 n S.best)
theorem visitF_good {m : Nat} {U : List Bool} {P : List (Nat × Nat)} {p : Int} {S : Sr} (hm : m ≤ n) (hp : PairsOk n (n - m) P) (hu : UsedOk n P U) (he : p = sum2 w2 P + rest1 w1 P (n - m)) (hg : Good w1 w2 n S) :
    Good w1 w2 n (visitF w1 w2 n m U P p S) ∧ S.most ≤ (visitF w1 w2 n m U P p S).most := by
  induction m generalizing U P p S with
  | zero =>
    rw [visitF_zero]
    unfold leafF
    split
    · rename_i h
      exact ⟨.inr ⟨hp, he⟩, by simp only; omega⟩
    · exact ⟨hg, Int.le_refl _⟩
  | succ m ih =>
    have hi1 : n - (m + 1) + 1 = n - m := by omega
    have hch : ∀ (u : List Bool) (q : List (Nat × Nat)) (x : Int) (T : Sr), PairsOk n (n - m) q → UsedOk n q u → x = sum2 w2 q + rest1 w1 q (n - m) → Good w1 w2 n T → Good w1 w2 n (childF (visitF w1 w2 n m u q) x T) ∧ T.most ≤ (childF (visitF w1 w2 n m u q) x T).most := fun u q x T h1 h2 h3 h4 => by
      by_cases h0 : T.c ≤ 0
      · rw [childF_dead h0]; exact ⟨h4, Int.le_refl _⟩
      · rw [childF_live (by omega)]
        exact ih (S := ⟨T.best, T.most, T.c - 1⟩) (by omega) h1 h2 h3 h4
    have hin := inP_used hp hu
    cases hui : U.getD (n - (m + 1)) false
    · rw [visitF_node hui]
      rw [hui] at hin
      have hf : ∀ k, k ≤ n → Good w1 w2 n (foldK w2 (visitF w1 w2 n m) U P (n - (m + 1)) p S k) ∧ S.most ≤ (foldK w2 (visitF w1 w2 n m) U P (n - (m + 1)) p S k).most := fun k => by
        induction k with
        | zero => exact fun _ => ⟨hg, Int.le_refl _⟩
        | succ k ih2 =>
          intro hk
          have h2 := ih2 (by omega)
          rw [foldK_succ, stepF]
          split
          · rename_i hc
            have h3 := hch (U.set k true) (P ++ [(n - (m + 1), k)]) (p + w2 (n - (m + 1)) k) _ (by rw [← hi1]; exact hp.push hu hui hc.2 hc.1 (by omega)) (hu.push (by omega)) (by
              rw [sum2_push, ← hi1, rest1_in (by rw [inP_append]; simp [inP]), he]
              rw [rest1_congr (P := P ++ [(n - (m + 1), k)]) (Q := P) (fun j hj => by
                rw [inP_append]
                have : inP [(n - (m + 1), k)] j = false := by unfold inP; simp; omega
                rw [this, Bool.or_false])]
              omega) h2.1
            exact ⟨h3.1, Int.le_trans h2.2 h3.2⟩
          · exact h2
      have h2 := hf n (Nat.le_refl _)
      have h3 := hch U P (p + w1 (n - (m + 1))) _ (by rw [← hi1]; exact hp.next) hu (by rw [← hi1, rest1_out hin, he]; omega) h2.1
      exact ⟨h3.1, Int.le_trans h2.2 h3.2⟩
    · rw [visitF_skip hui]
      rw [hui] at hin
      exact ih (by omega) (by rw [← hi1]; exact hp.next) hu (by rw [← hi1, rest1_in hin]; exact he) hg
/-- No pairs at all are among what was tried. -/
theorem visitF_alone {m : Nat} {U : List Bool} {P : List (Nat × Nat)} {p : Int} {S : Sr} (hm : m ≤ n) (hU : ∀ k, U.getD k false = false) (hc : -1 ≤ S.c) (h0 : 0 ≤ (visitF w1 w2 n m U P p S).c) :
    p + (((List.range m).map fun j => w1 (n - m + j))).sum ≤ (visitF w1 w2 n m U P p S).most := by
  induction m generalizing P p S with
  | zero =>
    rw [visitF_zero]
    unfold leafF
    simp only [List.range_zero, List.map_nil, List.sum_nil]
    split
    · simp only; omega
    · rename_i h
      have : ¬ S.most < p := fun e => h (.inl e)
      omega
  | succ m ih =>
    rw [visitF_node (hU _)] at h0 ⊢
    generalize hT : foldK w2 (visitF w1 w2 n m) U P (n - (m + 1)) p S n = T at *
    by_cases hd : T.c ≤ 0
    · rw [childF_dead hd] at h0; simp only at h0; omega
    · rw [childF_live (by omega)] at h0 ⊢
      have h2 := ih (P := P) (p := p + w1 (n - (m + 1))) (S := ⟨T.best, T.most, T.c - 1⟩) (by omega) (by simp only; omega) h0
      rw [List.range_succ_eq_map, List.map_cons, List.sum_cons, List.map_map]
      have e : ((List.range m).map ((fun j => w1 (n - (m + 1) + j)) ∘ Nat.succ)) = (List.range m).map fun j => w1 (n - m + j) := List.map_congr_left (fun j hj => by
        show w1 (n - (m + 1) + (j + 1)) = _
        congr 1; omega)
      rw [e, Nat.add_zero]
      omega
/-- The search over all groups. -/
def bestF (w1 : Nat → Int) (w2 : Nat → Nat → Int) (n : Nat) (budget : Int) : Sr := visitF w1 w2 n n (List.replicate n false) [] 0 ⟨[], -1, budget⟩
theorem bestF_ok {budget : Int} (hb : 0 ≤ budget) (hw : ∀ j, 0 ≤ w1 j) (hc : 0 ≤ (bestF w1 w2 n budget).c) :
    PairsOk n n (bestF w1 w2 n budget).best ∧ (bestF w1 w2 n budget).most = scoreP w1 w2 n (bestF w1 w2 n budget).best ∧ ((List.range n).map w1).sum ≤ (bestF w1 w2 n budget).most := by
  have h1 := visitF_good (w1 := w1) (w2 := w2) (n := n) (m := n) (U := List.replicate n false) (P := []) (p := 0) (S := ⟨[], -1, budget⟩) (Nat.le_refl _) (by rw [Nat.sub_self]; exact PairsOk.nil _ _) (UsedOk.nil n) (by rw [Nat.sub_self]; rfl) (.inl rfl)
  have h2 := visitF_alone (w1 := w1) (w2 := w2) (n := n) (m := n) (U := List.replicate n false) (P := []) (p := 0) (S := ⟨[], -1, budget⟩) (Nat.le_refl _) (fun k => by
    rw [List.getD_eq_getElem?_getD, List.getElem?_replicate]; split <;> rfl) (by simp only; omega) hc
  have e : ((List.range n).map fun j => w1 (n - n + j)) = (List.range n).map w1 := List.map_congr_left (fun j _ => by rw [Nat.sub_self, Nat.zero_add])
  rw [e, Int.zero_add] at h2
  have h3 : 0 ≤ ((List.range n).map w1).sum := by
    generalize List.range n = L
    induction L with
    | nil => simp
    | cons a L ih => simp only [List.map_cons, List.sum_cons]; have := hw a; omega
  unfold bestF at *
  rcases h1.1 with h | ⟨h, h'⟩
  · omega
  · exact ⟨h, h', h2⟩
end
end Go.Proofs.Ytjfaafoldllppaa

namespace Go.Proofs.Ytjfaafoldllppaa
open Go.RowKit
set_option linter.unusedVariables false

def totInt64S (xs : List Int) : Nat := xs.length



set_option maxRecDepth 100000 in
set_option maxHeartbeats 400000 in
theorem eqInt64S_any (v v' : Value) (xs : List Int) (fp fp' : List Nat) (w : World) (hx : Sl fInt.cod w v xs fp) (hy : Sl fInt.cod w v' xs fp') :
    Calls Try.prog 34 #[v, v'] w fun e w' => YesR w e w' := by
  obtain ⟨A, cap, rfl, hlen, hcap⟩ := hx.form
  obtain ⟨A', cap', rfl, hlen', hcap'⟩ := hy.form
  go_enter Try.func34, Try.ntmps34
  go_wp2
  go_loopw [5] (fun i wr => ∃ k : Nat, k ≤ xs.length ∧ i = .int .i64 k ∧ ∃ n, wr = w.drewN n) (fun i _ => xs.length - (intOf i).toNat)
  case atStart => exact ⟨0, Nat.zero_le _, rfl, 0, rfl⟩
  case round =>
    obtain ⟨k, hk, rfl, n, rfl⟩ := hrel
    by_cases hlt : k < xs.length
    · obtain ⟨b, off, rfl, _, hok, hc, _⟩ := hx.cell1 rfl hlt rfl
      obtain ⟨b', off', rfl, _, hok', hc', _⟩ := hy.cell1 rfl hlt rfl
      go_wp2
      go_quiet (fail)
      go_wp2
      go_roundw
      case rel => exact ⟨k + 1, by omega, by go_num, _, rfl⟩
      case measure => simp [intOf]; omega
    · go_wp2
      go_ret
      exact ⟨rfl, below_drewN (Below.refl _ _) _⟩

def mkInt64 (k : Int) : Int := k
def marksInt64 (k : Int) (n : Nat) : List Int := (List.range n).map fun (i : Nat) => mkInt64 (k + 1 * (i : Int))

theorem marksInt64_get (k0 : Int) (n i : Nat) (h : i < (marksInt64 k0 n).length) : (marksInt64 k0 n)[i] = mkInt64 (k0 + 1 * (i : Int)) := by
  simp [marksInt64]
theorem marksInt64_len (k0 : Int) (n : Nat) : (marksInt64 k0 n).length = n := by simp [marksInt64]

set_option maxRecDepth 100000 in
set_option maxHeartbeats 2000000 in
theorem markInt64S_any (v : Value) (xs : List Int) (fp : List Nat) (k0 : Int) (w : World) (hx : Sl fInt.cod w v xs fp) (h0 : 0 ≤ k0) (h1 : k0 + 1 * (xs.length : Int) ≤ 1000000000000) :
    Calls Try.prog 37 #[v, .int .i64 k0] w fun e w' => MarkR fInt.cod fp w (k0 + 1 * (xs.length : Int)) v (marksInt64 k0 xs.length) e w' := by
  obtain ⟨A, cap, rfl, hlen, hcap⟩ := hx.form
  by_cases hne : xs.length = 0
  · have : xs = [] := List.eq_nil_of_length_eq_zero hne
    subst this
    go_enter Try.func37, Try.ntmps37
    go_wp2
    go_loop [1, 5] (fun n i => i = .int .i64 0 ∧ n = .int .i64 k0) (fun _ _ => 0)
    case atStart => exact ⟨rfl, rfl⟩
    case round =>
      obtain ⟨rfl, rfl⟩ := hrel
      go_wp2
      go_ret
      exact ⟨ret_int (by simp), hx, .refl _ _⟩
  · obtain ⟨b, off, rfl, rfl, hbs, hcs0⟩ := hx.cells (by omega)
    go_enter Try.func37, Try.ntmps37
    go_wp2
    go_loopw [1, 5] (fun n i wr => ∃ k : Nat, k ≤ xs.length ∧ i = .int .i64 k ∧ ∃ q : Int, n = .int .i64 q ∧ 0 ≤ q ∧ Hid (q = k0 + 1 * (k : Int)) ∧ Cells wr b off (((List.range k).map fun (i : Nat) => mkInt64 (k0 + 1 * (i : Int))).flatMap fInt.enc ++ (xs.drop k).flatMap fInt.enc) ∧ Only [b] w wr) (fun _ i _ => xs.length - (intOf i).toNat)
    case atStart => exact ⟨0, Nat.zero_le _, rfl, k0, rfl, h0, by show _ = _; simp, by simpa using hcs0, .refl _ _⟩
    case round =>
      obtain ⟨k, hk, rfl, q, rfl, hq0, HQ, hcs, ho⟩ := hrel
      by_cases hlt : k < xs.length
      · have hq1 : q + 1 ≤ 1000000000000 := by have := HQ.out; omega
        have HC : Cells wr b off (((List.range k).map fun (i : Nat) => mkInt64 (k0 + 1 * (i : Int))).flatMap fInt.enc ++ ((.int .i64 xs[k] : Value) :: (xs.drop (k + 1)).flatMap fInt.enc)) := by
          have := hcs
          rw [List.drop_eq_getElem_cons hlt, List.flatMap_cons] at this
          exact this
        generalize HP : ((List.range k).map fun (i : Nat) => mkInt64 (k0 + 1 * (i : Int))).flatMap fInt.enc = pre at *
        have HL : pre.length = k * 1 := by rw [← HP, flat_len fInt.enc 1 _ (fun _ _ => rfl)]; simp
        generalize HR : (xs.drop (k + 1)).flatMap fInt.enc = post at *
        have HPH := Lib.hid HP
        clear HP hcs
        have HRH := Lib.hid HR
        clear HR
        have HLH := Lib.hid HL
        clear HL
        have hu0 := HC.at_mid (m := k * 1) (j := 0) (p := off + k) HLH.out (by omega) (by simp) rfl
        have hz0 := HC.free_mid (m := k * 1) (j := 0) (p := off + k) HLH.out (by omega) (by simp)
        go_wp2
        have HC0 := HC.put (m := k * 1) (j := 0) (p := off + k) HLH.out (by omega) (by simp) (.int .i64 (q))
        have ho_ := ho.set (off + k) (.int .i64 (q))
        clear hu0 hz0 ho
        have ho := ho_
        clear ho_
        clear HC
        go_roundw
        case rel => exact ⟨k + 1, by omega, by go_num, q + 1, by go_num, by omega, by have := HQ.out; show _ = _; omega, marks_step (f := fun (i : Nat) => mkInt64 (k0 + 1 * (i : Int))) HPH.out HRH.out (by rw [← HQ.out] <;> rfl) HC0, ho⟩
        case measure => simp [intOf]; omega
      · have hk' : k = xs.length := by omega
        subst hk'
        rw [List.drop_length, List.flatMap_nil, List.append_nil] at hcs
        go_wp2
        go_ret
        have hsz := ho.size
        have hm := Sl.of_cells (E := fInt) (cap := cap) (xs := marksInt64 k0 xs.length) (by rw [marksInt64_len]; exact hlen) hcap (by omega) hcs (by intro x hx; simp [marksInt64] at hx; obtain ⟨i, hi, rfl⟩ := hx; exact (by simp only [fInt, mkInt64]; omega)) (by rw [marksInt64_len]; omega)
        rw [marksInt64_len] at hm
        exact ⟨ret_int HQ.out, hm, ho⟩

set_option maxRecDepth 100000 in
set_option maxHeartbeats 2000000 in
theorem heldInt64S_any (v : Value) (n0 : Nat) (fp : List Nat) (k0 : Int) (w : World) (hx0 : Sl fInt.cod w v (marksInt64 k0 n0) fp) (h0 : 0 ≤ k0) (h1 : k0 + 1 * (n0 : Int) ≤ 1000000000000) :
    Calls Try.prog 38 #[v, .int .i64 k0] w fun e w' => e = .returned (.int .i64 (k0 + 1 * (n0 : Int))) ∧ Below w.heap.size w w' := by
  have hn0 : (marksInt64 k0 n0).length = n0 := marksInt64_len _ _
  obtain ⟨xs, hxs⟩ : ∃ xs, xs = marksInt64 k0 n0 := ⟨_, rfl⟩
  rw [← hxs] at hx0 hn0
  have hx := hx0
  clear hx0
  rw [← hn0] at h1
  have HN := Lib.hid hn0
  clear hn0
  have HXS := Lib.hid hxs
  clear hxs
  obtain ⟨A, cap, rfl, hlen, hcap⟩ := hx.form
  go_enter Try.func38, Try.ntmps38
  go_wp2
  go_loopw [1, 5] (fun n i wr => ∃ k : Nat, k ≤ xs.length ∧ i = .int .i64 k ∧ ∃ q : Int, n = .int .i64 q ∧ 0 ≤ q ∧ Hid (q = k0 + 1 * (k : Int)) ∧ Below w.heap.size w wr) (fun _ i _ => xs.length - (intOf i).toNat)
  case atStart => exact ⟨0, Nat.zero_le _, rfl, k0, rfl, h0, by show _ = _; omega, Below.refl _ _⟩
  case round =>
    obtain ⟨k, hk, rfl, q, rfl, hq0, HQ, hb⟩ := hrel
    by_cases hlt : k < xs.length
    · have hq1 : q + 1 ≤ 1000000000000 := by have := HQ.out; omega
      obtain ⟨b, off, rfl, _⟩ := hx.at_ hlt
      have hget : xs[k] = mkInt64 (k0 + 1 * (k : Int)) := by
        have hxs := HXS.out
        subst hxs
        exact marksInt64_get _ _ _ _
      rw [← HQ.out] at hget
      have HG := Lib.hid hget
      clear hget
      have hc0 : wr.cell? ⟨b, off + k, none⟩ = some (.int .i64 (q)) := by
        have h := (hx.below' hb).atk hlt (j := 0) (by decide)
        rw [HG.out, show off + k * fInt.n + 0 = off + k from by (show off + k * 1 + 0 = _); omega] at h
        exact h
      go_wp2
      go_roundw
      case rel => exact ⟨k + 1, by omega, by go_num, q + 1, by go_num, by omega, by have := HQ.out; show _ = _; omega, hb⟩
      case measure => simp [intOf]; omega
    · have hk' : k = xs.length := by omega
      go_wp2
      go_ret
      exact ⟨ret_int (by rw [HQ.out, hk', HN.out]), hb⟩

end Go.Proofs.Ytjfaafoldllppaa

namespace Go.Proofs.Ytjfaafoldllppaa
open Go.RowKit
set_option linter.unusedVariables false

set_option maxRecDepth 100000 in
set_option maxHeartbeats 1000000 in
theorem eqInt64SS_any (v v' : Value) (xs : List (List Int)) (fp fp' : List Nat) (w : World) (hx : Sl fInt.cod.slice w v xs fp) (hy : Sl fInt.cod.slice w v' xs fp') :
    Calls Try.prog 9 #[v, v'] w fun e w' => YesR w e w' := by
  obtain ⟨A, cap, rfl, hlen, hcap⟩ := hx.form
  obtain ⟨A', cap', rfl, hlen', hcap'⟩ := hy.form
  go_enter Try.func9, Try.ntmps9
  go_wp2
  go_loopw [5] (fun i wr => ∃ k : Nat, k ≤ xs.length ∧ i = .int .i64 k ∧ Below w.heap.size w wr) (fun i _ => xs.length - (intOf i).toNat)
  case atStart => exact ⟨0, Nat.zero_le _, rfl, Below.refl _ _⟩
  case round =>
    obtain ⟨k, hk, rfl, hb⟩ := hrel
    by_cases hlt : k < xs.length
    · obtain ⟨b, off, vk, fk, rfl, hc0, hs0, _⟩ := (hx.below' hb).elem hlt
      obtain ⟨b', off', vk', fk', rfl, hc1, hs1, _⟩ := (hy.below' hb).elem hlt
      go_wp2
      have ghc0 := cell_regrown hc0
      have ghc1 := cell_regrown hc1
      refine wp_region_mix (C := fun w' => ∃ p : Regrown, w' = Go.Sort.grow (redrawn wr p.d) p.os) [true, true, true, true, true, true, true, true, false, true] (by kernel_rfl) (by kernel_rfl) (by kernel_rfl) (fun _ _ d _ _ h => by cases d <;> exact h) (regrown_of_below (Below.drew (Below.refl _ _))) ?_
      have hS0 : Below (wr.heap.size) wr wr.drew := Below.drew (Below.refl _ _)
      refine wpMix_pure (by kernel_rfl) (fun K hK => ?_); go_big_quiet_op; refine hK _ ?_; clear hK K
      refine wpMix_pure (by kernel_rfl) (fun K hK => ?_); go_big_quiet_op; refine hK _ ?_; clear hK K
      refine wpMix_pure (by kernel_rfl) (fun K hK => ?_); go_big_quiet_op; refine hK _ ?_; clear hK K
      refine wpMix_pure (by kernel_rfl) (fun K hK => ?_); go_big_quiet_op; refine hK _ ?_; clear hK K
      refine wpMix_pure (by kernel_rfl) (fun K hK => ?_); go_big_quiet_op; refine hK _ ?_; clear hK K
      refine wpMix_pure (by kernel_rfl) (fun K hK => ?_); go_big_quiet_op; refine hK _ ?_; clear hK K
      refine wpMix_pure (by kernel_rfl) (fun K hK => ?_); go_big_quiet_op; refine hK _ ?_; clear hK K
      refine wpMix_pure (by kernel_rfl) (fun K hK => ?_); go_big_quiet_op; refine hK _ ?_; clear hK K
      refine wpMix_act (by kernel_rfl) (fun K hK => ?_)
      go_big_op
      refine (eqInt64S_any _ _ _ _ _ _ (hs0.below' hS0) (hs1.below' hS0)).mono ?_
      rintro e wr1 ⟨rfl, hbr1⟩
      have hbr1S : Below (wr.heap.size) wr wr1 := hS0.trans (hbr1.mono hS0.size)
      refine hK _ _ (regrown_of_below hbr1S) ?_
      clear hK K
      refine wpMix_pure (by kernel_rfl) (fun K hK => ?_); go_big_quiet_op; refine hK _ ?_; clear hK K
      refine wpMix_nil ?_
      have hbb := hb.trans (hbr1S.mono hb.size)
      go_wp2
      go_roundw
      case rel => exact ⟨k + 1, by omega, by go_num, hbb⟩
      case measure => simp [intOf]; omega
    · go_wp2
      go_ret
      exact ⟨rfl, hb⟩

def marksInt64S (k0 : Int) (ns : List Nat) : List (List Int) := (List.range ns.length).map (fun i => marksInt64 (k0 + 1 * (preS ns i : Int)) (ns.getD i 0))
theorem marksInt64S_len (k0 : Int) (ns : List Nat) : (marksInt64S k0 ns).length = ns.length := by simp [marksInt64S]
theorem marksInt64S_get (k0 : Int) (ns : List Nat) (i : Nat) (h : i < (marksInt64S k0 ns).length) : (marksInt64S k0 ns)[i] = marksInt64 (k0 + 1 * (preS ns i : Int)) (ns.getD i 0) := by simp [marksInt64S]
def lensS {α : Type} (xss : List (List α)) : List Nat := xss.map List.length
set_option maxRecDepth 100000 in
set_option maxHeartbeats 2000000 in
theorem markInt64SS_any (v : Value) (xs : List (List Int)) (fp : List Nat) (k0 : Int) (w : World) (hx : Sl fInt.cod.slice w v xs fp) (hnd : fp.Nodup) (h0 : 0 ≤ k0) (h1 : k0 + 1 * ((lensS xs).sum : Int) ≤ 1000000000000) :
    Calls Try.prog 12 #[v, .int .i64 k0] w fun e w' => MarkR fInt.cod.slice fp w (k0 + 1 * ((lensS xs).sum : Int)) v (marksInt64S k0 (lensS xs)) e w' := by
  obtain ⟨A, cap, rfl, hlen, hcap⟩ := hx.form
  rcases Nat.eq_zero_or_pos xs.length with hz | hz
  · obtain rfl := List.eq_nil_of_length_eq_zero hz
    go_enter Try.func12, Try.ntmps12
    go_wp2
    go_loop [1, 5] (fun n i => i = .int .i64 0 ∧ n = .int .i64 k0) (fun _ _ => 0)
    case atStart => exact ⟨rfl, rfl⟩
    case round =>
      obtain ⟨rfl, rfl⟩ := hrel
      go_wp2
      go_ret
      exact ⟨ret_int (by simp [lensS]), hx, .refl _ _⟩
  · obtain ⟨b, off, V, F, rfl, hbw, rfl, hr⟩ := hx.rows hz
    obtain ⟨hap1, hap2, hap3⟩ := rows_apart hnd
    obtain ⟨ns, hns⟩ : ∃ ns, ns = lensS xs := ⟨_, rfl⟩
    have hnl : ns.length = xs.length := by rw [hns]; simp [lensS]
    have hng : ∀ k, (h : k < xs.length) → ns[k]? = some xs[k].length := fun k h => by rw [hns]; simp [lensS, h]
    rw [← hns] at h1 ⊢
    have hsum := fun k => preS_le ns k
    clear hns
    go_enter Try.func12, Try.ntmps12
    go_wp2
    go_loopw [1, 5] (fun n i wr => ∃ k : Nat, k ≤ xs.length ∧ i = .int .i64 k ∧ ∃ q : Int, n = .int .i64 q ∧ 0 ≤ q ∧ Hid (q = k0 + 1 * (preS ns k : Int)) ∧ NRows fInt.cod wr b off xs.length V (fun i => if i < k then marksInt64 (k0 + 1 * (preS ns i : Int)) (ns.getD i 0) else xs.getD i []) F ∧ Only (b :: (List.range xs.length).flatMap F) w wr) (fun _ i _ => xs.length - (intOf i).toNat)
    case atStart => exact ⟨0, Nat.zero_le _, rfl, k0, rfl, h0, by show _ = _; simp [preS], by simpa using hr, .refl _ _⟩
    case round =>
      obtain ⟨k, hk, rfl, q, rfl, hq0, HQ, hrw, ho⟩ := hrel
      have hbw' : b < wr.heap.size := Nat.lt_of_lt_of_le hbw ho.size
      by_cases hlt : k < xs.length
      · have hc0 := hrw.cell k hlt
        have hs0 := hrw.rd k hlt
        have hrk : xs.getD k [] = xs[k] := by simp [List.getD_eq_getElem?_getD, hlt]
        rw [if_neg (Nat.lt_irrefl k), hrk] at hs0
        have hnk : ns[k]'(by omega) = xs[k].length := by have := hng k hlt; rw [List.getElem?_eq_getElem (by omega)] at this; exact Option.some.inj this
        have hps : preS ns (k + 1) = preS ns k + xs[k].length := by rw [preS_succ (by omega), hnk]
        have hgd : ns.getD k 0 = xs[k].length := by rw [List.getD_eq_getElem?_getD, hng k hlt]; rfl
        have hq1 : q + 1 * (xs[k].length : Int) ≤ 1000000000000 := by have := hsum (k + 1); have := HQ.out; omega
        have HQ2 : Hid (q + (xs[k].length : Int) = k0 + 1 * (preS ns (k + 1) : Int)) := by show _ = _; have := HQ.out; omega
        have HM : Hid (marksInt64 q xs[k].length = marksInt64 (k0 + 1 * (preS ns k : Int)) (ns.getD k 0)) := by show _ = _; rw [HQ.out, hgd]
        clear hnk hps hgd hrk
        go_wp2_with fail
        refine (markInt64S_any _ _ _ _ _ hs0 hq0 hq1).mono ?_
        rintro e w2 ⟨rfl, hs2, ho2⟩
        have hr2 := hrw.step hnd hbw' hlt hs2 ho2
        have ho3 : Only (b :: (List.range xs.length).flatMap F) w w2 := ho.trans (ho2.sub (fun c hc => List.mem_cons_of_mem _ (List.mem_flatMap.2 ⟨k, by simpa using hlt, hc⟩)))
        have hq2 : 0 ≤ q + (xs[k].length : Int) := by omega
        clear hs2 ho2 hs0 hc0
        go_wp2
        go_roundw
        case rel =>
          refine ⟨k + 1, by omega, by go_num, _, rfl, hq2, HQ2, hr2.congr (fun i hi => ?_), ho3⟩
          show (if i = k then marksInt64 q xs[k].length else if i < k then _ else _) = _
          by_cases e1 : i = k
          · subst e1; rw [if_pos rfl, if_pos (by omega)]; exact HM.out
          · rw [if_neg e1]
            by_cases e2 : i < k
            · rw [if_pos e2, if_pos (by omega)]
            · rw [if_neg e2, if_neg (by omega)]
        case measure => simp [intOf]; omega
      · have hke : k = xs.length := by omega
        subst hke
        have hfin : Sl fInt.cod.slice wr (.slice (some ⟨b, off, none⟩) xs.length cap) (marksInt64S k0 ns) (b :: (List.range xs.length).flatMap F) :=
          hrw.sl hbw' ((marksInt64S_len _ _).trans hnl) (fun i hi => by rw [marksInt64S_get, if_pos (by rw [marksInt64S_len] at hi; omega)]) hlen (by unfold maxLen; exact hcap)
        have hpf : preS ns xs.length = ns.sum := preS_full (by omega)
        have HR : Hid (q = k0 + 1 * (ns.sum : Int)) := by show _ = _; rw [HQ.out, hpf]
        clear hrw hpf
        go_wp2
        go_ret
        exact ⟨ret_int HR.out, hfin, ho⟩
set_option maxRecDepth 100000 in
set_option maxHeartbeats 2000000 in
theorem heldInt64SS_any (v : Value) (ns : List Nat) (fp : List Nat) (k0 : Int) (w : World) (hx : Sl fInt.cod.slice w v (marksInt64S k0 ns) fp) (h0 : 0 ≤ k0) (h1 : k0 + 1 * (ns.sum : Int) ≤ 1000000000000) :
    Calls Try.prog 13 #[v, .int .i64 k0] w fun e w' => e = .returned (.int .i64 (k0 + 1 * (ns.sum : Int))) ∧ Below w.heap.size w w' := by
  obtain ⟨A, cap, rfl, hlen, hcap⟩ := hx.form
  rw [marksInt64S_len] at hlen
  obtain ⟨M, hM⟩ : ∃ M, M = marksInt64S k0 ns := ⟨_, rfl⟩
  have hMl : M.length = ns.length := by rw [hM, marksInt64S_len]
  have hMg : ∀ k (h : k < M.length), M[k] = marksInt64 (k0 + 1 * (preS ns k : Int)) (ns.getD k 0) := fun k h => by subst hM; exact marksInt64S_get _ _ _ h
  rw [← hM] at hx ⊢
  obtain ⟨n, hn⟩ : ∃ n, M.length = n := ⟨_, rfl⟩
  rw [hn] at hx ⊢
  have Hn := Lib.hid hn
  have hsum := fun k => preS_le ns k
  clear hM hn
  go_enter Try.func13, Try.ntmps13
  go_wp2
  go_loopw [1, 5] (fun m i wr => ∃ k : Nat, k ≤ n ∧ i = .int .i64 k ∧ ∃ q : Int, m = .int .i64 q ∧ 0 ≤ q ∧ Hid (q = k0 + 1 * (preS ns k : Int)) ∧ Below w.heap.size w wr) (fun _ i _ => n - (intOf i).toNat)
  case atStart => exact ⟨0, Nat.zero_le _, rfl, k0, rfl, h0, by show _ = _; simp [preS], Below.refl _ _⟩
  case round =>
    obtain ⟨k, hk, rfl, q, rfl, hq0, HQ, hb⟩ := hrel
    by_cases hlt : k < n
    · have hkM : k < M.length := by have := Hn.out; omega
      obtain ⟨b, off, vk, fk, rfl, hc0, hs0, _⟩ := (hx.below' hb).elem hkM
      rw [hMg k hkM, ← HQ.out] at hs0
      have hkn : k < ns.length := by omega
      have hps := preS_succ hkn
      have hgd : ns.getD k 0 = ns[k] := by rw [List.getD_eq_getElem?_getD, List.getElem?_eq_getElem hkn]; rfl
      rw [hgd] at hs0
      have hq1 : q + 1 * (ns[k] : Int) ≤ 1000000000000 := by have := hsum (k + 1); have := HQ.out; omega
      have HQ2 : Hid (q + (ns[k] : Int) = k0 + 1 * (preS ns (k + 1) : Int)) := by show _ = _; have := HQ.out; omega
      have hq2 : 0 ≤ q + (ns[k] : Int) := by omega
      have hq3 : ¬ (q + 1 * (ns[k] : Int) < 0) := by omega
      clear hps hgd
      go_wp2_with fail
      refine (heldInt64S_any _ _ _ _ _ hs0 hq0 hq1).mono ?_
      rintro e w2 ⟨rfl, hb2⟩
      have hb3 := hb.trans (hb2.mono hb.size)
      clear hs0 hc0
      go_wp2
      go_roundw
      case rel => exact ⟨k + 1, by omega, by go_num, _, rfl, hq2, HQ2, hb3⟩
      case measure => simp [intOf]; omega
    · have hke : preS ns k = ns.sum := preS_full (by have := Hn.out; omega)
      have HR : Hid (q = k0 + 1 * (ns.sum : Int)) := by show _ = _; rw [HQ.out, hke]
      clear hke
      go_wp2
      go_ret
      exact ⟨ret_int HR.out, hb⟩

def totInt64SS (xs : List (List Int)) : Nat := xs.length + (xs.map totInt64S).sum
theorem totInt64SS_mem {xs : List (List Int)} {r : List Int} (h : r ∈ xs) : totInt64S r ≤ totInt64SS xs := by
  unfold totInt64SS
  have : totInt64S r ≤ (xs.map totInt64S).sum := by
    obtain ⟨i, hi, rfl⟩ := List.getElem_of_mem h
    have h1 := sum_take_step_ totInt64S xs i hi
    have h2 : ((xs.take (i + 1)).map totInt64S).sum ≤ (xs.map totInt64S).sum := by
      have h3 := congrArg (fun l => (l.map totInt64S).sum) (List.take_append_drop (i + 1) xs)
      simp only [List.map_append, List.sum_append] at h3
      omega
    omega
  omega
theorem lens_le_Int64 : ∀ xs : List (List Int), (lensS xs).sum ≤ (xs.map totInt64S).sum
  | [] => Nat.le_refl _
  | r :: xs => by
    have := lens_le_Int64 xs
    unfold lensS at *
    rw [List.map_cons, List.map_cons, List.sum_cons, List.sum_cons]
    have h : r.length ≤ totInt64S r := by unfold totInt64S; omega
    omega
theorem lensS_tot (xs : List (List Int)) : (lensS xs).sum ≤ totInt64SS xs := by
  have := lens_le_Int64 xs
  unfold totInt64SS; omega

end Go.Proofs.Ytjfaafoldllppaa

namespace Go.Proofs.Ytjfaafoldllppaa
open Go.RowKit
set_option linter.unusedVariables false

theorem asc_len {n : Nat} : ∀ (P : List (Nat × Nat)) (lo : Nat), P.Pairwise (fun a b => a.1 < b.1) → (∀ q ∈ P, lo ≤ q.1 ∧ q.1 < n) → P.length ≤ n - lo
  | [], _, _, _ => Nat.zero_le _
  | a :: P, lo, h, hb => by
    have h1 := List.pairwise_cons.1 h
    have ha := hb a (by simp)
    have := asc_len P (a.1 + 1) h1.2 (fun q hq => ⟨h1.1 q hq, (hb q (by simp [hq])).2⟩)
    rw [List.length_cons]; omega
theorem wOne_pos {xs : List DGroup} {lvl : Int} (hv : groupsB xs = true) (j : Nat) : 0 ≤ wOne xs lvl j := by
  unfold wOne
  split
  · rcases Nat.lt_or_ge j xs.length with h | h
    · rw [getD_of_lt h]
      have := groupB_people (groupsB_one hv h); omega
    · rw [List.getD_eq_getElem?_getD, List.getElem?_eq_none h]; exact Int.le_refl _
  · exact Int.le_refl _
theorem bp_code {xs : List DGroup} {lvl bud : Int} (h : bpC xs lvl bud = 0) : groupsB xs = true ∧ levelB lvl = true ∧ inB bud 1 20000 = true ∧ 0 ≤ (bpT xs lvl bud).c ∧ bpR xs lvl bud = ⟨(bpT xs lvl bud).best, (bpT xs lvl bud).most, 0⟩ := by
  unfold bpC at h
  cases h0 : groupsB xs
  · rw [bpR_1 h0] at h; exact absurd h (by decide)
  · cases h1 : (levelB lvl && inB bud 1 20000)
    · rw [bpR_2 h0 h1] at h; exact absurd h (by decide)
    · have h2 := Bool.and_eq_true_iff.1 h1
      by_cases h3 : (bpT xs lvl bud).c < 0
      · rw [bpR_3 h0 h1 h3] at h; exact absurd h (by decide)
      · exact ⟨rfl, h2.1, h2.2, by omega, bpR_4 h0 h1 h3⟩
theorem bp_bad {xs : List DGroup} {lvl bud : Int} (h : bpC xs lvl bud ≠ 0) : bpF xs lvl bud = [] ∧ bpM xs lvl bud = 0 := by
  unfold bpF bpM
  unfold bpC at h
  cases h0 : groupsB xs
  · rw [bpR_1 h0]; exact ⟨rfl, rfl⟩
  · cases h1 : (levelB lvl && inB bud 1 20000)
    · rw [bpR_2 h0 h1]; exact ⟨rfl, rfl⟩
    · by_cases h3 : (bpT xs lvl bud).c < 0
      · rw [bpR_3 h0 h1 h3]; exact ⟨rfl, rfl⟩
      · rw [bpR_4 h0 h1 h3] at h; exact absurd rfl h
theorem bp_good {xs : List DGroup} {lvl bud : Int} (h : bpC xs lvl bud = 0) :
    PairsOk xs.length xs.length (bpT xs lvl bud).best ∧ (bpT xs lvl bud).most = scoreP (wOne xs lvl) (wTwo xs lvl) xs.length (bpT xs lvl bud).best ∧ ((List.range xs.length).map (wOne xs lvl)).sum ≤ (bpT xs lvl bud).most := by
  obtain ⟨hv, _, hb, hc, _⟩ := bp_code h
  exact bestF_ok (w1 := wOne xs lvl) (w2 := wTwo xs lvl) (n := xs.length) (budget := bud) (by have := inB_true.1 hb; omega) (wOne_pos hv) hc
theorem bpF_len (xs : List DGroup) (lvl bud : Int) : (bpF xs lvl bud).length ≤ 8 := by
  by_cases h : bpC xs lvl bud = 0
  · obtain ⟨hv, _, _, _, hr⟩ := bp_code h
    have hp := (bp_good h).1
    have hn := groupsB_len hv
    unfold bpF
    rw [hr, List.length_map]
    have := asc_len _ 0 hp.asc (fun q hq => ⟨Nat.zero_le _, (hp.rng q hq).2.2⟩)
    show (bpT xs lvl bud).best.length ≤ 8
    omega
  · rw [(bp_bad h).1]; exact Nat.zero_le _
theorem bpF_sum (xs : List DGroup) (lvl bud : Int) : (lensS (bpF xs lvl bud)).sum ≤ 100000000000 := by
  have h1 : (lensS (bpF xs lvl bud)).sum = 2 * (bpF xs lvl bud).length := by
    unfold bpF lensS
    generalize (bpR xs lvl bud).ps = P
    induction P with
    | nil => rfl
    | cons a P ih =>
      simp only [List.map_cons, List.sum_cons, List.length_cons, List.length_map, List.map_map] at ih ⊢
      rw [ih]
      show 2 + _ = _
      omega
  have := bpF_len xs lvl bud
  omega
end Go.Proofs.Ytjfaafoldllppaa

namespace Go.Proofs.Ytjfaafoldllppaa
open Go.RowKit
set_option linter.unusedVariables false

def ggC (xs : List DGroup) (n : Int) : Int := if groupsB xs then (if levelB n then 0 else 2) else 1
def ggF (xs : List DGroup) (n : Int) : List ByteArray := if groupsB xs && levelB n then (xs.filter (fun x => goesB x n)).map (fun x => x.id) else []
theorem ggF_len {xs : List DGroup} {n : Int} (h : xs.length ≤ 1048576) : (ggF xs n).length ≤ 100000000000 := by
  unfold ggF; split
  · rw [List.length_map]; have := List.length_filter_le (fun x => goesB x n) xs; omega
  · simp
set_option maxRecDepth 100000 in
set_option maxHeartbeats 4000000 in
theorem implGoingGroups_any (v : Value) (xs : List DGroup) (fp : List Nat) (n : Int) (w : World) (hx : Sl fGroup.cod w v xs fp) :
    Calls Try.prog 16 #[v, .int .i64 n] w fun e w' => NewR2 fStr.cod w (ggF xs n) (ggC xs n) e w' := by
  obtain ⟨A, cap, rfl, hlen, hcap⟩ := hx.form
  obtain ⟨i0, hi, hz0, hz1, hz2⟩ := info_parts infoStr0
  go_enter Try.func16, Try.ntmps16
  go_wp2_with fail
  refine (validGroups_any _ xs fp _ hx).mono ?_
  rintro e w1 ⟨rfl, hb1⟩
  cases h0 : groupsB xs
  · go_wp2
    go_ret2
    exact ⟨_, by rw [ggC, h0]; rfl, by rw [ggF, h0]; exact New.nil hb1⟩
  · cases h1 : levelB n
    · go_wp2_with (go_at_call 31; refine (levelOk_any _ _).mono ?_; rintro e w' ⟨rfl, rfl⟩)
      go_ret2
      exact ⟨_, by rw [ggC, h0, h1]; rfl, by rw [ggF, h0, h1]; exact New.nil hb1⟩
    · have HC := Lib.hid (show ggC xs n = 0 from by rw [ggC, h0, h1]; rfl)
      have HF := Lib.hid (show ggF xs n = (xs.filter (fun x => goesB x n)).map (fun x => x.id) from by rw [ggF, h0, h1]; rfl)
      have HOK : ∀ x ∈ ggF xs n, fStr.ok x := by
        rw [HF.out]; intro x hxm
        obtain ⟨g, hg, rfl⟩ := List.mem_map.1 hxm
        exact (hx.oks g ((List.mem_filter.1 hg).1)).1
      have hlen8 := groupsB_len h0
      go_wp2_with (go_at_call 31; refine (levelOk_any _ _).mono ?_; rintro e w' ⟨rfl, rfl⟩)
      go_loopw [6, 19] (fun v i wr => ∃ k : Nat, k ≤ xs.length ∧ i = .int .i64 k ∧ Own fStr wr w.heap.size 9 v (keptL (fun x => goesB x n) (fun x => x.id) xs k) ∧ Below w.heap.size w wr) (fun _ i _ => xs.length - (intOf i).toNat)
      case atStart => exact ⟨0, Nat.zero_le _, rfl, Own.nil fStr _ _ _, hb1⟩
      case round =>
        obtain ⟨k, hk, rfl, ho, hb⟩ := hrel
        by_cases hlt : k < xs.length
        · obtain ⟨b, off, rfl, _, hok, hp⟩ := PGroup.elem (hx.below' hb) hlt
          have hpe := groupB_people (groupsB_one h0 hlt)
          have hid : xs[k].id.size ≤ 9223372036854775807 := hok.1
          have hkl := keptL_len (p := fun x => goesB x n) (f := fun x : DGroup => x.id) (xs := xs) (k := k)
          obtain ⟨c0, c1, c2, c3, c4, c5, c6⟩ := id hp
          have hpW := PGroup.box wr xs[k] 43
          go_wp2_with fail
          refine (implGoes_any xs[k] n _ hok hpe).mono ?_
          rintro e w2 ⟨rfl, hb2⟩
          have hbW : Below wr.heap.size wr w2 := ((Below.refl _ _).alloc (Nat.le_refl _) _).trans (hb2.mono (by simp))
          have hb' := hb.trans (hbW.mono hb.size)
          have ho' := ho.below hbW
          clear c0 c1 c2 c3 c4 c5 c6
          cases hgo : goesB xs[k] n
          · have ho2 : Own fStr w2 w.heap.size 9 u6 (keptL (fun x => goesB x n) (fun x => x.id) xs (k + 1)) := by rw [keptL_no hlt hgo]; exact ho'
            clear hpW
            go_wp2
            go_roundw
            case rel => exact ⟨k + 1, by omega, by go_num, ho2, hb'⟩
            case measure => simp [intOf]; omega
          · have c0 := (hpW.below' hb2).c0
            have hs2 := hb'.size
            have ho3 : w2.ownsRow w.heap.size 9 1 u6 (keptL (fun x => goesB x n) (fun x => x.id) xs k).length ((keptL (fun x => goesB x n) (fun x => x.id) xs k).flatMap fStr.enc) := ho'
            clear ho ho'
            clear hpW
            go_wp2_with (at_builtin; refine wpList_append_one rfl _ _ 38 rfl w.heap.size 9 i0 (.string ⟨#[]⟩) 1 16 Try.underlying38 hi hz0 hz1 hz2 rfl (by decide) u6 (keptL (fun x => goesB x n) (fun x => x.id) xs k).length _ rfl ho3 [.string xs[k].id] rfl (by intro u hu; rw [List.mem_singleton] at hu; subst hu; rfl) rfl (by omega) (by decide) hs2 ?_)
            intro v' u hown hbu _ _
            have hbu' := hb'.trans hbu
            have ho2 : Own fStr u w.heap.size 9 v' (keptL (fun x => goesB x n) (fun x => x.id) xs (k + 1)) := by rw [keptL_yes hlt hgo]; exact Own.push _ rfl hown
            clear hown
            go_wp2
            go_roundw
            case rel => exact ⟨k + 1, by omega, by go_num, ho2, hbu'⟩
            case measure => simp [intOf]; omega
        · have ho2 : Own fStr wr w.heap.size 9 u6 (ggF xs n) := by rw [HF.out, ← keptL_full (k := k) (by omega)]; exact ho
          clear ho
          go_wp2
          go_ret2
          exact ⟨_, by rw [HC.out]; rfl, ho2.new hb HOK⟩

end Go.Proofs.Ytjfaafoldllppaa

namespace Go.Proofs.Ytjfaafoldllppaa
open Go.RowKit
set_option linter.unusedVariables false

theorem gOk_step {xs : List DGroup} (h : groupsB xs = true) {m : Nat} (hm : m + 1 < xs.length) : ltS xs[m].id xs[m + 1].id = true := by
  unfold groupsB at h
  rw [Bool.and_eq_true] at h
  have := allIdx_true.1 h.1 (m + 1) hm
  rw [gOk_succ hm, Bool.and_eq_true] at this
  exact this.2
theorem ids_lt {xs : List DGroup} (h : groupsB xs = true) {i : Nat} (hi : i < xs.length) : ∀ d, (hj : i + 1 + d < xs.length) → ltS xs[i].id xs[i + 1 + d].id = true
  | 0, hj => gOk_step h hj
  | d + 1, hj => ltS_trans (ids_lt h hi d (by omega)) (gOk_step h (m := i + 1 + d) hj)
theorem ids_ne {xs : List DGroup} (h : groupsB xs = true) {i j : Nat} (hi : i < xs.length) (hj : j < xs.length) (he : xs[i].id = xs[j].id) : i = j := by
  rcases Nat.lt_trichotomy i j with hl | hl | hl
  · have h1 := ids_lt h hi (j - i - 1) (by omega)
    have e : i + 1 + (j - i - 1) = j := by omega
    simp only [e] at h1
    rw [he, ltS_irrefl] at h1
    cases h1
  · exact hl
  · have h1 := ids_lt h hj (i - j - 1) (by omega)
    have e : j + 1 + (i - j - 1) = i := by omega
    simp only [e] at h1
    rw [he, ltS_irrefl] at h1
    cases h1
theorem guidesF_mono {p l : Int} (hp : 1 ≤ p) (hl : 1 ≤ l) (h5 : l + 1 ≤ 5) : guidesF p l ≤ guidesF p (l + 1) := by
  unfold guidesF
  have hc : l = 1 ∨ l = 2 ∨ l = 3 ∨ l = 4 := by omega
  rcases hc with rfl | rfl | rfl | rfl <;> simp <;> omega
theorem goesB_less {x : DGroup} {l : Int} (hp : 1 ≤ x.people) (hl : 1 ≤ l) (h5 : l + 1 ≤ 5) (h : goesB x (l + 1) = true) : goesB x l = true := by
  unfold goesB at *
  simp only [Bool.and_eq_true, decide_eq_true_eq] at *
  have := guidesF_mono hp hl h5
  refine ⟨⟨h.1.1, ?_⟩, ?_⟩ <;> omega
/-- How many of the pairs hold j. -/
def cntP (P : List (Nat × Nat)) (j : Nat) : Int := ((P.filter fun q => q.1 == j || q.2 == j).length : Nat)
theorem cntP_nil (j : Nat) : cntP [] j = 0 := rfl
theorem cntP_push (P : List (Nat × Nat)) (a b j : Nat) : cntP (P ++ [(a, b)]) j = cntP P j + if a = j ∨ b = j then 1 else 0 := by
  unfold cntP
  rw [List.filter_append, List.length_append]
  by_cases h : a = j ∨ b = j
  · rw [if_pos h, List.filter_cons_of_pos (by simpa using h)]; simp
  · rw [if_neg h, List.filter_cons_of_neg (by simpa using h)]; simp
theorem cntP_bounds (P : List (Nat × Nat)) (j : Nat) : 0 ≤ cntP P j ∧ cntP P j ≤ P.length := by
  unfold cntP
  have := List.length_filter_le (fun q : Nat × Nat => q.1 == j || q.2 == j) P
  omega
theorem cntP_zero {P : List (Nat × Nat)} {j : Nat} : cntP P j = 0 ↔ inP P j = false := by
  unfold cntP inP
  constructor
  · intro h
    have h2 : (P.filter fun q => q.1 == j || q.2 == j) = [] := List.eq_nil_of_length_eq_zero (by omega)
    rw [List.filter_eq_nil_iff] at h2
    rw [List.any_eq_false]
    exact h2
  · intro h
    rw [List.any_eq_false] at h
    have h2 := List.filter_eq_nil_iff.2 h
    rw [h2]; rfl
theorem cntP_one {n : Nat} {P : List (Nat × Nat)} (h : PairsOk n n P) (j : Nat) : cntP P j ≤ 1 := by
  unfold cntP
  obtain ⟨_, ha, hs, hm⟩ := h
  have key : ∀ L : List (Nat × Nat), (∀ q ∈ L, q ∈ P) → L.Pairwise (fun a b => a.1 < b.1) → L.Pairwise (fun a b => a.2 ≠ b.2) → (L.filter fun q => q.1 == j || q.2 == j).length ≤ 1 := by
    intro L
    induction L with
    | nil => intro _ _ _; simp
    | cons q L ih =>
      intro hin h1 h2
      have h1' := List.pairwise_cons.1 h1
      have h2' := List.pairwise_cons.1 h2
      have hi := ih (fun r hr => hin r (by simp [hr])) h1'.2 h2'.2
      by_cases hq : (q.1 == j || q.2 == j) = true
      · rw [List.filter_cons_of_pos (p := fun q : Nat × Nat => q.1 == j || q.2 == j) hq]
        have he : (L.filter fun r => r.1 == j || r.2 == j) = [] := by
          rw [List.filter_eq_nil_iff]
          intro r hr hrj
          simp only [Bool.or_eq_true, beq_iff_eq] at hq hrj
          have hlt := h1'.1 r hr
          have hne := h2'.1 r hr
          have m1 := hm q (hin q (by simp)) r (hin r (by simp [hr]))
          have m2 := hm r (hin r (by simp [hr])) q (hin q (by simp))
          omega
        rw [he]; simp
      · rw [List.filter_cons_of_neg (p := fun q : Nat × Nat => q.1 == j || q.2 == j) hq]; exact hi
  have := key P (fun q hq => hq) ha hs
  omega
def cntL (n : Nat) (P : List (Nat × Nat)) : List Int := (List.range n).map (cntP P)
theorem cntL_len (n : Nat) (P : List (Nat × Nat)) : (cntL n P).length = n := by unfold cntL; simp
theorem cntL_get {n : Nat} {P : List (Nat × Nat)} {j : Nat} (h : j < n) : (cntL n P)[j]? = some (cntP P j) := by unfold cntL; simp [h]
theorem cntL_push {n a b : Nat} {P : List (Nat × Nat)} (ha : a < n) (hb : b < n) (hab : a ≠ b) : ((cntL n P).set a (cntP P a + 1)).set b (cntP P b + 1) = cntL n (P ++ [(a, b)]) := by
  refine List.ext_getElem? (fun i => ?_)
  rw [List.getElem?_set, List.getElem?_set]
  simp only [List.length_set, cntL_len]
  rcases Nat.lt_or_ge i n with hi | hi
  · rw [cntL_get hi, cntL_get hi, cntP_push]
    by_cases h1 : b = i
    · subst h1; rw [if_pos rfl, if_pos hb, if_pos (.inr rfl)]
    · rw [if_neg h1]
      by_cases h2 : a = i
      · subst h2; rw [if_pos rfl, if_pos ha, if_pos (.inl rfl)]
      · rw [if_neg h2, if_neg (by rintro (h | h); exact h2 h; exact h1 h), Int.add_zero]
  · rw [List.getElem?_eq_none (by rw [cntL_len]; exact hi), List.getElem?_eq_none (by rw [cntL_len]; exact hi)]
    by_cases h1 : b = i
    · omega
    · rw [if_neg h1]
      by_cases h2 : a = i
      · omega
      · rw [if_neg h2]
theorem sum2_take {w2 : Nat → Nat → Int} {P : List (Nat × Nat)} {i : Nat} (h : i < P.length) : sum2 w2 (P.take (i + 1)) = sum2 w2 (P.take i) + w2 P[i].1 P[i].2 := by
  rw [List.take_succ_eq_append_getElem h]
  exact sum2_push w2 (P.take i) P[i].1 P[i].2
theorem sumUp (w1 : Nat → Int) (i : Nat) : ((List.range (i + 1)).map w1).sum = ((List.range i).map w1).sum + w1 i := by
  rw [List.range_succ, List.map_append, sumI_append]; simp
theorem wTwo_bounds {xs : List DGroup} {lvl : Int} (i k : Nat) : 0 ≤ wTwo xs lvl i k ∧ wTwo xs lvl i k ≤ 1000 := by
  have h := morG_bounds (x := sumG (xs.getD i gpD) (xs.getD k gpD) (xs.getD i gpD).id) (lvl := lvl)
  unfold wTwo
  unfold morG at h
  exact h
theorem wOne_bounds {xs : List DGroup} {lvl : Int} (hv : groupsB xs = true) (j : Nat) : 0 ≤ wOne xs lvl j ∧ wOne xs lvl j ≤ 1000 := by
  refine ⟨wOne_pos hv j, ?_⟩
  unfold wOne
  split
  · rcases Nat.lt_or_ge j xs.length with h | h
    · rw [getD_of_lt h]
      exact (groupB_people (groupsB_one hv h)).2
    · rw [List.getD_eq_getElem?_getD, List.getElem?_eq_none h]; show (0 : Int) ≤ 1000; omega
  · omega
theorem sum2_bounds {xs : List DGroup} {lvl : Int} (P : List (Nat × Nat)) : 0 ≤ sum2 (wTwo xs lvl) P ∧ sum2 (wTwo xs lvl) P ≤ 1000 * P.length := by
  unfold sum2
  induction P with
  | nil => simp
  | cons a P ih =>
    have := wTwo_bounds (xs := xs) (lvl := lvl) a.1 a.2
    simp only [List.map_cons, List.sum_cons, List.length_cons]
    omega
theorem sumOne_bounds {xs : List DGroup} {lvl : Int} (hv : groupsB xs = true) (L : List Nat) : 0 ≤ (L.map (wOne xs lvl)).sum ∧ (L.map (wOne xs lvl)).sum ≤ 1000 * L.length := by
  induction L with
  | nil => simp
  | cons a L ih =>
    have := wOne_bounds (lvl := lvl) hv a
    simp only [List.map_cons, List.sum_cons, List.length_cons]
    omega
end Go.Proofs.Ytjfaafoldllppaa

namespace Go.Proofs.Ytjfaafoldllppaa
open Go.RowKit
set_option linter.unusedVariables false

/-! ### strings in a list -/
def memS (s : ByteArray) (xs : List ByteArray) : Bool := xs.any fun x => decide (x = s)
def NotS (xs : List ByteArray) (s : ByteArray) (k : Nat) : Prop := ∀ j (hj : j < k) (h : j < xs.length), xs[j] ≠ s
theorem NotS.zero {xs : List ByteArray} {s : ByteArray} : NotS xs s 0 := fun j hj => absurd hj (Nat.not_lt_zero _)
theorem NotS.step {xs : List ByteArray} {s : ByteArray} {k : Nat} (h : k < xs.length) (he : xs[k] ≠ s) (h0 : NotS xs s k) : NotS xs s (k + 1) := by
  intro j hj hl
  by_cases e : j = k
  · subst e; exact he
  · exact h0 j (by omega) hl
theorem NotS.none {xs : List ByteArray} {s : ByteArray} {k : Nat} (h : xs.length ≤ k) (h0 : NotS xs s k) : memS s xs = false := by
  unfold memS
  rw [List.any_eq_false]
  intro x hm
  obtain ⟨j, hj, e⟩ := List.getElem_of_mem hm
  have := h0 j (by omega) hj
  rw [e] at this
  simpa using this
theorem inS {xs : List ByteArray} {s : ByteArray} {k : Nat} (h : k < xs.length) (he : xs[k] = s) : memS s xs = true := by
  unfold memS
  rw [List.any_eq_true]
  exact ⟨xs[k], List.getElem_mem h, by simpa using he⟩
theorem memS_true {xs : List ByteArray} {s : ByteArray} : memS s xs = true ↔ s ∈ xs := by
  unfold memS; rw [List.any_eq_true]
  constructor
  · rintro ⟨x, hx, he⟩
    have he := of_decide_eq_true he
    subst he; exact hx
  · intro h; exact ⟨s, h, decide_eq_true rfl⟩
def memI (n : Int) (xs : List Int) : Bool := xs.any fun x => decide (x = n)
def NotI (xs : List Int) (n : Int) (k : Nat) : Prop := ∀ j (hj : j < k) (h : j < xs.length), xs[j] ≠ n
theorem NotI.zero {xs : List Int} {n : Int} : NotI xs n 0 := fun j hj => absurd hj (Nat.not_lt_zero _)
theorem NotI.step {xs : List Int} {n : Int} {k : Nat} (h : k < xs.length) (he : xs[k] ≠ n) (h0 : NotI xs n k) : NotI xs n (k + 1) := by
  intro j hj hl
  by_cases e : j = k
  · subst e; exact he
  · exact h0 j (by omega) hl
theorem NotI.none {xs : List Int} {n : Int} {k : Nat} (h : xs.length ≤ k) (h0 : NotI xs n k) : memI n xs = false := by
  unfold memI
  rw [List.any_eq_false]
  intro x hm
  obtain ⟨j, hj, e⟩ := List.getElem_of_mem hm
  have := h0 j (by omega) hj
  rw [e] at this
  simpa using this
theorem inI {xs : List Int} {n : Int} {k : Nat} (h : k < xs.length) (he : xs[k] = n) : memI n xs = true := by
  unfold memI
  rw [List.any_eq_true]
  exact ⟨xs[k], List.getElem_mem h, by simpa using he⟩
theorem memI_true {xs : List Int} {n : Int} : memI n xs = true ↔ n ∈ xs := by
  unfold memI; rw [List.any_eq_true]
  constructor
  · rintro ⟨x, hx, he⟩
    have he := of_decide_eq_true he
    subst he; exact hx
  · intro h; exact ⟨n, h, decide_eq_true rfl⟩
end Go.Proofs.Ytjfaafoldllppaa

namespace Go.Proofs.Ytjfaafoldllppaa
open Go.RowKit
set_option linter.unusedVariables false

set_option maxRecDepth 100000 in
set_option maxHeartbeats 400000 in
theorem b10Long_any (v : Value) (xs : List UInt8) (fp : List Nat) (w : World) (hx : Sl fByte.cod w v xs fp) :
    Calls Try.prog 14 #[v] w fun e w' => e = .returned (.bool (decide (1048576 < xs.length))) ∧ w = w' := by
  obtain ⟨A, cap, rfl, hlen, hcap⟩ := hx.form
  go_enter Try.func14, Try.ntmps14
  go_wp2
  go_ret
  refine ⟨?_, rfl⟩
  show Ending.returned (.bool _) = _
  congr 2
  rw [Bool.eq_iff_iff]
  simp <;> omega
/-- The number at index i lies in 0 .. n-1, and is greater than the one before it. -/
def riseAt (xs : List Int) (n : Int) (i : Nat) : Bool := inB (xs.getD i 0) 0 (n - 1) && (i == 0 || decide (xs.getD (i - 1) 0 < xs.getD i 0))
def risesB (xs : List Int) (n : Int) : Bool := allIdx (riseAt xs n) xs.length
theorem riseAt_in {xs : List Int} {n : Int} {k : Nat} (h : k < xs.length) : riseAt xs n k = (inB xs[k] 0 (n - 1) && (k == 0 || decide (xs.getD (k - 1) 0 < xs[k]))) := by
  unfold riseAt; rw [getD_of_lt h]
theorem riseAt_neg {xs : List Int} {n : Int} {k : Nat} (h : k < xs.length) (h1 : xs[k] < 0) : riseAt xs n k = false := by
  rw [riseAt_in h]; unfold inB; rw [decide_eq_false (by omega)]; rfl
theorem riseAt_far {xs : List Int} {n : Int} {k : Nat} (h : k < xs.length) (h1 : n ≤ xs[k]) : riseAt xs n k = false := by
  rw [riseAt_in h]; unfold inB; rw [decide_eq_false (by omega : ¬ xs[k] ≤ n - 1)]; simp
theorem riseAt_low {xs : List Int} {n : Int} {m : Nat} (h : m + 1 < xs.length) (h1 : xs[m + 1] ≤ xs[m]) : riseAt xs n (m + 1) = false := by
  rw [riseAt_in h, show m + 1 - 1 = m from rfl, getD_of_lt (by omega : m < xs.length), decide_eq_false (by omega)]
  simp
theorem riseAt_zero {xs : List Int} {n : Int} (h : 0 < xs.length) (h0 : (0 : Int) ≤ xs[0]) (h1 : xs[0] < n) : riseAt xs n 0 = true := by
  rw [riseAt_in h]; unfold inB; rw [decide_eq_true h0, decide_eq_true (by omega)]; rfl
theorem riseAt_ok {xs : List Int} {n : Int} {m : Nat} (h : m + 1 < xs.length) (h0 : (0 : Int) ≤ xs[m + 1]) (h1 : xs[m + 1] < n) (h2 : xs[m] < xs[m + 1]) : riseAt xs n (m + 1) = true := by
  rw [riseAt_in h, show m + 1 - 1 = m from rfl, getD_of_lt (by omega : m < xs.length), decide_eq_true h2]
  unfold inB; rw [decide_eq_true h0, decide_eq_true (by omega)]; simp
set_option maxRecDepth 100000 in
set_option maxHeartbeats 2000000 in
theorem b10Inside_any (v : Value) (xs : List ByteArray) (fp : List Nat) (s : ByteArray) (w : World) (hx : Sl fStr.cod w v xs fp) :
    Calls Try.prog 18 #[v, .string s] w fun e w' => e = .returned (.bool (memS s xs)) ∧ w = w' := by
  obtain ⟨A, cap, rfl, hlen, hcap⟩ := hx.form
  go_enter Try.func18, Try.ntmps18
  go_wp2
  go_loop [5] (fun i => ∃ k : Nat, k ≤ xs.length ∧ i = .int .i64 k ∧ Hid (NotS xs s k)) (fun i => xs.length - (intOf i).toNat)
  case atStart => exact ⟨0, Nat.zero_le _, rfl, NotS.zero⟩
  case round =>
    obtain ⟨k, hk, rfl, H0⟩ := hrel
    by_cases hlt : k < xs.length
    · obtain ⟨b, off, rfl, _, hok, hc, _⟩ := hx.cell1 rfl hlt rfl
      by_cases he : xs[k] = s
      · have HF := Lib.hid (inS hlt he)
        have e6 : (xs[k].toList == s.toList) = true := eqS_true.2 he
        clear he
        go_wp2
        go_ret
        exact ⟨ret_bool HF.out.symm, rfl⟩
      · have HS := Lib.hid (NotS.step hlt he H0.out)
        have e6 : (xs[k].toList == s.toList) = false := bytes_beq_false he
        clear he
        go_wp2
        go_round
        case rel => exact ⟨k + 1, by omega, by go_num, HS⟩
        case measure => simp [intOf]; omega
    · have HF := Lib.hid (NotS.none (by omega) H0.out)
      go_wp2
      go_ret
      exact ⟨ret_bool HF.out.symm, rfl⟩
end Go.Proofs.Ytjfaafoldllppaa

namespace Go.Proofs.Ytjfaafoldllppaa
open Go.RowKit Go.WideShapes Go.ChangeShapes Go.ChangeAt

theorem Try.own : ownKnob Try.prog.godebug = none := by kernel_rfl
theorem Try.laidOut : laidOutB Try.prog = true := by kernel_rfl

section
variable {H : Type} {enc : TypeId × Value → H} {P : Program}
theorem post_of_below {f : Func} {s : ChangeSpec} {apart fresh handsOn again : Bool} {W W' : World} {args : Array Value} {v : Value} {ds gs : List (DataW H)} {before pa pv : List MemPlace}
    (hW : DataW.Whole enc P f.params.toList s.vars apart W args.toList ds gs before)
    (hres : ∀ (b : Nat) (sp : Nat → Bool) (hd : Bool), DataW.TrodAll enc P W' b sp hd f.resultTypes.toList (v.resultList f.resultTypes.size) (s.fn H (ds ++ gs)).results [])
    (hargs : ∀ sp : Nat → Bool, (∀ p ∈ before, sp p.block = true) → DataW.TrodAll enc P W' 0 sp true f.params.toList args.toList (s.fn H (ds ++ gs)).args pa)
    (hvars : ∀ sp : Nat → Bool, (∀ p ∈ before, sp p.block = true) → DataW.TrodVars enc P W' sp s.vars (s.fn H (ds ++ gs)).vars pv)
    (hps : before = pa ++ pv) (hb : Below W.heap.size W W')
    (hok : ∀ (j : Nat) (t : TypeId) (r : Value), f.resultTypes[j]? = some t → (v.resultList f.resultTypes.size)[j]? = some r → Value.okWide P W' .any 0 t r) :
    s.post enc P f apart fresh handsOn again W args v W' := by
  have hlt : ∀ p ∈ before, p.block < W.heap.size := fun p hp => hW.lt p hp
  have hold : ∀ p ∈ before, (fun b => decide (b < W.heap.size)) p.block = true := fun p hp => by simpa using hlt p hp
  refine ⟨ds, gs, before, [], pa, pv, hW, hres _ _ _, hargs _ hold, hvars _ hold, World.keptBut_mono (fun p hp => ⟨hp, ?_⟩) (hb.frame (· ∈ before)), fun _ => ?_⟩
  · rw [hps, List.mem_append] at hp
    exact Or.inr hp
  · obtain ⟨_, _, _, _, _, hz, hn⟩ := hW
    refine ⟨hok, _, _, ([] ++ pa) ++ pv, ⟨[] ++ pa, pv, trodAll_append (hargs _ (fun _ _ => rfl)) (hres _ _ _), hvars _ (fun _ _ => rfl), rfl, ?_, ?_⟩, ?_⟩
    · intro b off hp
      have hin : MemPlace.cell b off ∈ before := by rw [hps]; simpa using hp
      rw [hb.frozen (hlt _ hin)]
      exact hz b off hin
    · intro ha
      have := hn ha
      rw [hps] at this
      simpa using this
    · intro p hp _
      rw [hps]
      simpa using hp
end

theorem trodAll_below {H : Type} {enc : TypeId × Value → H} {P : Program} (hl : laidOutB P = true) {W W' : World} (hb : Below W.heap.size W W') {sp : Nat → Bool} :
    ∀ (ts : List TypeId) (vs : List Value) (ds : List (DataW H)) (ps : List MemPlace), (∀ t ∈ ts, P.readableRec t = true ∧ t < P.types.size) → DataW.TrodAll enc P W 0 (fun _ => true) true ts vs ds ps → (∀ x ∈ ps, x.block < W.heap.size) → (∀ x ∈ ps, sp x.block = true) → DataW.TrodAll enc P W' 0 sp true ts vs ds ps
  | [], [], [], ps, _, h, _, _ => h
  | t :: ts, v :: vs, d :: ds, ps, hr, h, hlt, hsp => by
    obtain ⟨p, q, h1, h2, rfl⟩ := h
    obtain ⟨r1, r2⟩ := hr t (by simp)
    exact ⟨p, q, WideElems.Trod_stays hl r1 r2 h1 (fun x hx => hb.same (hlt x (by simp [hx]))) (fun x hx => hsp x (by simp [hx])), trodAll_below hl hb ts vs ds q (fun t ht => hr t (by simp [ht])) h2 (fun x hx => hlt x (by simp [hx])) (fun x hx => hsp x (by simp [hx])), rfl⟩
  | [], _ :: _, _, _, _, h, _, _ => by cases h
  | [], [], _ :: _, _, _, h, _, _ => by cases h
  | _ :: _, [], _, _, _, h, _, _ => by cases h
  | _ :: _, _ :: _, [], _, _, h, _, _ => by cases h

theorem trodAll_len {H : Type} {enc : TypeId × Value → H} {P : Program} {W : World} {b : Nat} {sp : Nat → Bool} {hd : Bool} : ∀ (ts : List TypeId) (vs : List Value) (ds : List (DataW H)) (ps : List MemPlace), DataW.TrodAll enc P W b sp hd ts vs ds ps → ds.length = ts.length
  | [], [], [], _, _ => rfl
  | _ :: ts, _ :: vs, _ :: ds, _, h => by obtain ⟨p, q, h1, h2, rfl⟩ := h; simp [trodAll_len ts vs ds q h2]
  | [], _ :: _, _, _, h => by cases h
  | [], [], _ :: _, _, h => by cases h
  | _ :: _, [], _, _, h => by cases h
  | _ :: _, _ :: _, [], _, h => by cases h

set_option maxRecDepth 100000 in
theorem law_lifted {F : FuncId} {fn : Func} {s : ChangeSpec} (os : Os) (started : os.Started) (H : Type) (enc : TypeId × Value → H)
    (hfn : Try.checked.prog.funcs[F]? = some fn) (noInit : Try.checked.prog.inits.idxOf? F = none)
    (witness : ∃ (w : World) (tape : Tape) (i : Input), w.os = os ∧ (w.forCall tape i).Shaped Try.checked.prog ∧ i.vars = [] ∧ Input.okWide Try.checked.prog (w.forCall tape i) .any w.heap.size F i ∧
      s.pre6 enc Try.checked.prog fn [] false (w.forCall tape i).memory i.args ∧ ({} : Assume).holds Try.checked.prog (lone (Frame.enter Try.checked.prog F i.args .normal) [] (w.forCall tape i)))
    (hs : s.vars = []) (hres : fn.resultTypes = #[4]) (hread : ∀ t ∈ fn.params.toList, Try.prog.readableRec t = true ∧ t < Try.prog.types.size)
    (hspec : ∀ ds : List (DataW H), ds.length = fn.params.toList.length → s.fn H ds = { results := [.lit (.bool true)], args := ds })
    (walk : ∀ (W : World) (args : Array Value) (ds : List (DataW H)) (p : List MemPlace), (∀ (j : Nat) t v, fn.params[j]? = some t → args[j]? = some v → ∃ base, Value.okWide Try.prog W .any base t v) →
      DataW.TrodAll enc Try.prog W 0 (fun _ => true) true fn.params.toList args.toList ds p → W.noneFrozen p → Calls Try.prog F args W fun e W' => e = .returned (.bool true) ∧ Below W.heap.size W W') :
    ReturnsInHanded {} Try.checked os F .any (s.pre6 enc Try.checked.prog fn [] false) (s.post enc Try.checked.prog fn false true false false) := by
  refine returnsInHanded_of_change (C := Try.checked) Try.own started noInit hfn witness ?_
  intro W base args ds gs before hval hW hcnd _
  have hW' := hW
  obtain ⟨p, q, hA, hV, hpq, hfz, hnd⟩ := hW
  rw [hs] at hV
  obtain ⟨rfl, rfl⟩ := trodVars_none hV
  rw [List.append_nil] at hpq
  subst hpq
  refine (walk W args ds _ (fun j t v h1 h2 => ⟨base, hval j t v h1 h2⟩) hA hfz).mono fun e W' ⟨he, hb⟩ => ?_
  subst he
  have hsp : s.fn H (ds ++ []) = { results := [.lit (.bool true)], args := ds } := by
    rw [List.append_nil]; exact hspec ds (trodAll_len _ _ _ _ hA)
  have hlt := fun x hx => hW'.lt x hx
  refine ⟨_, rfl, post_of_below (pa := before) (pv := []) hW' (fun b sp hd => ?_) (fun sp h => ?_) (fun sp h => ?_) (by simp) hb ?_⟩
  · rw [hsp, hres]; exact trodAll_mk1 (shut_bool Try.underlying4 _)
  · rw [hsp]; exact trodAll_below Try.laidOut hb _ _ _ _ hread hA hlt h
  · rw [hsp, hs]; rfl
  · rw [hres]; exact fun j t r h1 h2 => ok_one (f := fn) hres rfl (okWide_bool_mk Try.underlying4 _) j t r (by rw [hres]; exact h1) (by rw [hres]; exact h2)

end Go.Proofs.Ytjfaafoldllppaa
