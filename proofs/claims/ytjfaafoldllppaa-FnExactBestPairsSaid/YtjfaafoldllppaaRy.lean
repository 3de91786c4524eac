
/- The program's search for the best pairs. Written by wip/gen/ry.py. -/
import Derived.Test.YtjfaafoldllppaaRu
import Derived.Test.YtjfaafoldllppaaCw
import Derived.Test.YtjfaafoldllppaaCi
import Derived.Test.YtjfaafoldllppaaGm
import Derived.Test.YtjfaafoldllppaaGq
import Derived.Deep.CutRange
import Derived.Deep.AppendLies
namespace Go.Proofs.Ytjfaafoldllppaa
open Go.RowKit
set_option linter.unusedVariables false
set_option linter.unusedSimpArgs false

/-- The searcher of the program: its fields, the rows by their values. -/
def boxI (lv : Value) (lvl : Int) (gu n : Nat) (b most : Int) (vp vb : Value) : List Value :=
  [lv, .int .i64 lvl, .int .i64 b, .slice (some ⟨gu, 0, none⟩) n n, vp, vb, .int .i64 most]
def SMI (w : World) (B g gu : Nat) (lv : Value) (lvl b : Int) (U : List Bool) (P : List (Nat × Nat)) (S : Sr) : Prop :=
  ∃ vp vb Vp Gp Vb Gb, SMem w B g gu (boxI lv lvl gu U.length b S.most) U P S.best vp vb Vp Gp Vb Gb
/-- The program's budget goes on below nought; the reference's count stands at -1. -/
def bRel (b c : Int) : Prop := (0 ≤ c → b = c) ∧ (c < 0 → b < 0)
def morG (x : DGroup) (lvl : Int) : Int := if groupB x && goesB x lvl then x.people else 0
theorem morG_bounds {x : DGroup} {lvl : Int} : 0 ≤ morG x lvl ∧ morG x lvl ≤ 1000 := by
  unfold morG
  cases h : (groupB x && goesB x lvl)
  · simp
  · rw [Bool.and_eq_true] at h
    have := groupB_people h.1
    simp only [if_true]; omega
def IPost (xs : List DGroup) (B g gu : Nat) (lv : Value) (lvl bud : Int) (U : List Bool) (P : List (Nat × Nat)) (S : Sr) (lim : Int) (w : World) (e : Ending) (w' : World) : Prop :=
  e = .returned (.tuple #[]) ∧ ∃ b, SMI w' B g gu lv lvl b U P S ∧ bRel b S.c ∧ lim ≤ b ∧ SrOk xs.length bud S ∧ Below B w w'
def VisitI (xs : List DGroup) (B g gu : Nat) (lv : Value) (fpl : List Nat) (lvl bud : Int) (m : Nat) : Prop :=
  ∀ (U : List Bool) (P : List (Nat × Nat)) (S : Sr) (people : Int) (w : World), m ≤ xs.length → U.length = xs.length → SmallN xs.length P → P.length + m ≤ xs.length → SmallN xs.length S.best → 0 ≤ S.c → S.c ≤ bud → 0 ≤ people → people + 1000 * (m : Int) ≤ 100000 → -1 ≤ S.most ∧ S.most ≤ 100000 →
      Sl fGroup.cod w lv xs fpl → SMI w B g gu lv lvl S.c U P S →
    Calls Try.prog 33 #[.pointer (some ⟨g, 0, none⟩), .int .i64 ((xs.length - m : Nat) : Int), .int .i64 people] w
      (IPost xs B g gu lv lvl bud U P (visitF (wOne xs lvl) (wTwo xs lvl) xs.length m U P people S) (-(9 * (m : Int))) w)
def NodeI (xs : List DGroup) (B g gu : Nat) (lv : Value) (fpl : List Nat) (lvl bud : Int) (m : Nat) : Prop :=
  ∀ (U : List Bool) (P : List (Nat × Nat)) (S : Sr) (people b : Int) (x : DGroup) (i : Nat) (w : World), i + (m + 1) = xs.length → U.length = xs.length → SmallN xs.length P → P.length + m ≤ xs.length → SmallN xs.length S.best → -1 ≤ S.c → S.c ≤ bud → bRel b S.c → -1000 ≤ b → 0 ≤ people → people + 1000 * ((m : Int) + 1) ≤ 100000 → -1 ≤ S.most ∧ S.most ≤ 100000 → fGroup.ok x →
      Sl fGroup.cod w lv xs fpl → SMI w B g gu lv lvl b U P S →
    Calls Try.prog 59 #[.pointer (some ⟨g, 0, none⟩), .int .i64 (i : Int), .int .i64 people, .agg #[.string x.id, .int .i64 x.people, .int .i64 x.guides, .int .i64 x.beacons, .int .i64 x.shovels, .int .i64 x.probes, .int .i64 x.skill]] w
      (IPost xs B g gu lv lvl bud U P (childF (visitF (wOne xs lvl) (wTwo xs lvl) xs.length m U P) (people + morG x lvl) S) (if b ≤ 0 then b - 1 else -(9 * (m : Int))) w)
set_option maxRecDepth 100000 in
set_option maxHeartbeats 8000000 in
theorem node_of_visitI (xs : List DGroup) (B g gu : Nat) (lv : Value) (fpl : List Nat) (hfl : ∀ b ∈ fpl, b < B) (lvl bud : Int) (hbud : bud ≤ 1000000000000) (hn8 : xs.length ≤ 8) (m : Nat) (ih : VisitI xs B g gu lv fpl lvl bud m) : NodeI xs B g gu lv fpl lvl bud m := by
  intro U Pp S people b x i w him hU hP hPm hQ hc0 hcb hbr hb1 hp0 hp1 hmo hx hlist hM0
  obtain ⟨vp, vb, Vp, Gp, Vb, Gb, hM00⟩ := hM0
  have hM1 := hM00.field (box' := boxI lv lvl gu U.length (b - 1) S.most) 2 (.int .i64 (b - 1)) rfl
  have hgl := hM00.bx.lt
  have hgB := hM00.gB
  have c2 : w.cell? ⟨g, 2, none⟩ = some (.int .i64 b) := hM00.bx.cell 2 _ rfl
  have z2 := hM00.bx.frz 2 (by show 2 < 7; decide)
  have hBw : B ≤ w.heap.size := Nat.le_trans hgB (Nat.le_of_lt hgl)
  have hbS := (Below.refl B w).setCell (p := ⟨g, 2, none⟩) hgB (.int .i64 (b - 1))
  have hA : Below (w.setCell ⟨g, 2, none⟩ (.int .i64 (b - 1))).heap.size (w.setCell ⟨g, 2, none⟩ (.int .i64 (b - 1))) ((w.setCell ⟨g, 2, none⟩ (.int .i64 (b - 1))).alloc (.cells #[.string x.id, .int .i64 x.people, .int .i64 x.guides, .int .i64 x.beacons, .int .i64 x.shovels, .int .i64 x.probes, .int .i64 x.skill] 43)) := (Below.refl _ _).alloc (Nat.le_refl _) _
  have hM2 := hM1.below hA
  have hb2 : Below B w ((w.setCell ⟨g, 2, none⟩ (.int .i64 (b - 1))).alloc (.cells #[.string x.id, .int .i64 x.people, .int .i64 x.guides, .int .i64 x.beacons, .int .i64 x.shovels, .int .i64 x.probes, .int .i64 x.skill] 43)) := hbS.alloc (by rw [World.size_setCell]; exact hBw) _
  have hpx : PGroup ((w.setCell ⟨g, 2, none⟩ (.int .i64 (b - 1))).alloc (.cells #[.string x.id, .int .i64 x.people, .int .i64 x.guides, .int .i64 x.beacons, .int .i64 x.shovels, .int .i64 x.probes, .int .i64 x.skill] 43)) w.heap.size 0 x := by
    have h := PGroup.box (w.setCell ⟨g, 2, none⟩ (.int .i64 (b - 1))) x 43
    rw [World.size_setCell] at h; exact h
  have hbb : b ≤ 1000000000000 := by
    rcases Int.lt_or_le S.c 0 with h | h
    · have := hbr.2 h; omega
    · have := hbr.1 h; omega
  have hdec : wrap64 (b - 1) = b - 1 := by unfold wrap64; omega
  clear hA hM1 hbS hdec
  go_enter Try.func59, Try.ntmps59
  by_cases hb0' : b ≤ 0
  · have hlt : b - 1 < 0 := by omega
    have hc : S.c ≤ 0 := by
      rcases Int.lt_or_le S.c 0 with h | h
      · omega
      · have := hbr.1 h; omega
    have c2' : ((w.setCell ⟨g, 2, none⟩ (.int .i64 (b - 1))).alloc (.cells #[.string x.id, .int .i64 x.people, .int .i64 x.guides, .int .i64 x.beacons, .int .i64 x.shovels, .int .i64 x.probes, .int .i64 x.skill] 43)).cell? ⟨g, 2, none⟩ = some (.int .i64 (b - 1)) := hM2.bx.cell 2 _ rfl
    go_wp2
    refine bodyPost_ret (results_none rfl _ _ _) rfl ?_
    rw [childF_dead hc]
    try rw [if_pos hb0']
    exact ⟨rfl, b - 1, ⟨_, _, _, _, _, _, hM2⟩, ⟨fun h => absurd h (by show ¬ (0 : Int) ≤ -1; omega), fun _ => hlt⟩, Int.le_refl _, ⟨hQ, ⟨by show (-1 : Int) ≤ -1; omega, by show (-1 : Int) ≤ bud; omega⟩, hmo⟩, hb2⟩
  · have hlt : 0 ≤ b - 1 := by omega
    have hc : 0 < S.c := by
      rcases Int.lt_or_le S.c 0 with h | h
      · have := hbr.2 h; omega
      · have := hbr.1 h; omega
    have hbc : b = S.c := hbr.1 (by omega)
    have HC := Lib.hid (childF_live (f := visitF (wOne xs lvl) (wTwo xs lvl) xs.length m U Pp) (p := people + morG x lvl) (S := S) hc)
    rw [if_neg hb0']
    have hgp := fun h : groupB x = true => groupB_people h
    subst hbc
    go_upto_region 3 with fail
    refine at_world (fun W => SMem W B g gu (boxI lv lvl gu U.length (S.c - 1) S.most) U Pp S.best vp vb Vp Gp Vb Gb ∧ Below B w W ∧ PGroup W w.heap.size 0 x) ⟨hM2, hb2, hpx⟩ ?_
    clear hM2 hb2 hpx c2 z2 hM00
    rintro W ⟨hM, hb0, hpx⟩
    generalize w.heap.size = bx at *
    have hBW : B ≤ W.heap.size := Nat.le_trans hgB (Nat.le_of_lt hM.bx.lt)
    obtain ⟨k0, k1, k2, k3, k4, k5, k6⟩ := id hpx
    have c1 : W.cell? ⟨g, 1, none⟩ = some (.int .i64 lvl) := hM.bx.cell 1 _ rfl
    have gk0 := cell_regrown k0
    have gk1 := cell_regrown k1
    have gk2 := cell_regrown k2
    have gk3 := cell_regrown k3
    have gk4 := cell_regrown k4
    have gk5 := cell_regrown k5
    have gk6 := cell_regrown k6
    have gc1 := cell_regrown c1
    refine wp_region_mix (C := fun w' => ∃ p : Regrown, w' = Go.Sort.grow (redrawn W p.d) p.os) [true, false, true, true, true, true, true, true, false, true] (by kernel_rfl) (by kernel_rfl) (by kernel_rfl) (fun _ _ d _ _ h => by cases d <;> exact h) (regrown_of_below (Below.drew (Below.refl _ _))) ?_
    have hS0 : Below (W.heap.size) W W.drew := Below.drew (Below.refl _ _)
    refine wpMix_pure (by kernel_rfl) (fun K hK => ?_)
    go_big_quiet_op
    refine hK _ ?_; clear hK K
    refine wpMix_act (by kernel_rfl) (fun K hK => ?_)
    go_big_op
    refine (implValid_any x W.drew hx).mono ?_
    rintro e wr1 ⟨rfl, hbr1⟩
    have hbr1S : Below (W.heap.size) W wr1 := hS0.trans (hbr1.mono hS0.size)
    refine hK _ _ (regrown_of_below hbr1S) ?_
    clear hK K
    cases hq1 : groupB x
    · skip
      refine wpMix_pure (by kernel_rfl) (fun K hK => ?_)
      go_big_quiet_op
      refine hK _ ?_; clear hK K
      refine wpMix_skip (by kernel_rfl) (fun K hK => ?_)
      simp only [Act.put, List.setIfInBounds_toArray, List.set_cons_zero, List.set_cons_succ]
      refine hK _ ?_; clear hK K
      refine wpMix_skip (by kernel_rfl) (fun K hK => ?_)
      simp only [Act.put, List.setIfInBounds_toArray, List.set_cons_zero, List.set_cons_succ]
      refine hK _ ?_; clear hK K
      refine wpMix_skip (by kernel_rfl) (fun K hK => ?_)
      simp only [Act.put, List.setIfInBounds_toArray, List.set_cons_zero, List.set_cons_succ]
      refine hK _ ?_; clear hK K
      refine wpMix_skip (by kernel_rfl) (fun K hK => ?_)
      simp only [Act.put, List.setIfInBounds_toArray, List.set_cons_zero, List.set_cons_succ]
      refine hK _ ?_; clear hK K
      refine wpMix_skip (by kernel_rfl) (fun K hK => ?_)
      simp only [Act.put, List.setIfInBounds_toArray, List.set_cons_zero, List.set_cons_succ]
      refine hK _ ?_; clear hK K
      refine wpMix_skip (by kernel_rfl) (fun K hK => ?_)
      simp only [Act.put, List.setIfInBounds_toArray, List.set_cons_zero, List.set_cons_succ]
      refine hK _ ?_; clear hK K
      refine wpMix_pure (by kernel_rfl) (fun K hK => ?_)
      go_big_quiet_op
      refine hK _ ?_; clear hK K
      refine wpMix_nil ?_
      have hM9 := hM.below hbr1S
      have hb9 := hb0.trans (hbr1S.mono hBW)
      have hl9 := hlist.below hb9 hfl
      have hmr : morG x lvl = 0 := by unfold morG; rw [hq1]; rfl
      have HC2 := Lib.hid (HC.out.trans (show _ = visitF (wOne xs lvl) (wTwo xs lvl) xs.length m U Pp (people) ⟨S.best, S.most, S.c - 1⟩ by rw [hmr, Int.add_zero]))
      clear HC

      have hpp : 0 ≤ people ∧ people + 1000 * (m : Int) ≤ 100000 := by omega
      have hi8 : i ≤ 8 := by omega

      have hvs := ih U Pp ⟨S.best, S.most, S.c - 1⟩ (people) _ (by omega) hU hP hPm hQ (by show 0 ≤ S.c - 1; omega) (by show S.c - 1 ≤ bud; omega) hpp.1 hpp.2 hmo hl9 ⟨_, _, _, _, _, _, hM9⟩
      have hat : ((xs.length - m : Nat) : Int) = (i : Int) + 1 := by omega
      rw [hat] at hvs
      clear hmr hat hq1 gk0 gk1 gk2 gk3 gk4 gk5 gk6 gc1 k0 k1 k2 k3 k4 k5 k6 hM9 hpp hgp
      go_wp2_with fail
      refine hvs.mono ?_
      rintro e wz ⟨rfl, b', hmz, hbz, hlz, hSz, hBz⟩
      go_wp2
      refine bodyPost_end (results_none rfl _ _ _) rfl ?_
      exact ⟨rfl, b', by rw [HC2.out]; exact hmz, by rw [HC2.out]; exact hbz, hlz, by rw [HC2.out]; exact hSz, hb9.trans hBz⟩
    · skip
      refine wpMix_pure (by kernel_rfl) (fun K hK => ?_)
      go_big_quiet_op
      refine hK _ ?_; clear hK K
      refine wpMix_pure (by kernel_rfl) (fun K hK => ?_)
      go_big_quiet_op
      refine hK _ ?_; clear hK K
      refine wpMix_pure (by kernel_rfl) (fun K hK => ?_)
      go_big_quiet_op
      refine hK _ ?_; clear hK K
      refine wpMix_pure (by kernel_rfl) (fun K hK => ?_)
      go_big_quiet_op
      refine hK _ ?_; clear hK K
      refine wpMix_pure (by kernel_rfl) (fun K hK => ?_)
      go_big_quiet_op
      refine hK _ ?_; clear hK K
      refine wpMix_pure (by kernel_rfl) (fun K hK => ?_)
      go_big_quiet_op
      refine hK _ ?_; clear hK K
      refine wpMix_act (by kernel_rfl) (fun K hK => ?_)
      go_big_op
      refine (implGoes_any x lvl wr1 hx (hgp hq1)).mono ?_
      rintro e wr2 ⟨rfl, hbr2⟩
      have hbr2S : Below (W.heap.size) W wr2 := hbr1S.trans (hbr2.mono hbr1S.size)
      refine hK _ _ (regrown_of_below hbr2S) ?_
      clear hK K
      cases hq8 : goesB x lvl
      · skip
        refine wpMix_pure (by kernel_rfl) (fun K hK => ?_)
        go_big_quiet_op
        refine hK _ ?_; clear hK K
        refine wpMix_nil ?_
        have hM9 := hM.below hbr2S
        have hb9 := hb0.trans (hbr2S.mono hBW)
        have hl9 := hlist.below hb9 hfl
        have hmr : morG x lvl = 0 := by unfold morG; rw [hq1, hq8]; rfl
        have HC2 := Lib.hid (HC.out.trans (show _ = visitF (wOne xs lvl) (wTwo xs lvl) xs.length m U Pp (people) ⟨S.best, S.most, S.c - 1⟩ by rw [hmr, Int.add_zero]))
        clear HC

        have hpp : 0 ≤ people ∧ people + 1000 * (m : Int) ≤ 100000 := by omega
        have hi8 : i ≤ 8 := by omega

        have hvs := ih U Pp ⟨S.best, S.most, S.c - 1⟩ (people) _ (by omega) hU hP hPm hQ (by show 0 ≤ S.c - 1; omega) (by show S.c - 1 ≤ bud; omega) hpp.1 hpp.2 hmo hl9 ⟨_, _, _, _, _, _, hM9⟩
        have hat : ((xs.length - m : Nat) : Int) = (i : Int) + 1 := by omega
        rw [hat] at hvs
        clear hmr hat hq1 hq8 gk0 gk1 gk2 gk3 gk4 gk5 gk6 gc1 k0 k1 k2 k3 k4 k5 k6 hM9 hpp hgp
        go_wp2_with fail
        refine hvs.mono ?_
        rintro e wz ⟨rfl, b', hmz, hbz, hlz, hSz, hBz⟩
        go_wp2
        refine bodyPost_end (results_none rfl _ _ _) rfl ?_
        exact ⟨rfl, b', by rw [HC2.out]; exact hmz, by rw [HC2.out]; exact hbz, hlz, by rw [HC2.out]; exact hSz, hb9.trans hBz⟩
      · skip
        refine wpMix_pure (by kernel_rfl) (fun K hK => ?_)
        go_big_quiet_op
        refine hK _ ?_; clear hK K
        refine wpMix_nil ?_
        have hM9 := hM.below hbr2S
        have hb9 := hb0.trans (hbr2S.mono hBW)
        have hl9 := hlist.below hb9 hfl
        have hmr : morG x lvl = x.people := by unfold morG; rw [hq1, hq8]; rfl
        have HC2 := Lib.hid (HC.out.trans (show _ = visitF (wOne xs lvl) (wTwo xs lvl) xs.length m U Pp (people + x.people) ⟨S.best, S.most, S.c - 1⟩ by rw [hmr]))
        clear HC
        have k1n : wr2.cell? ⟨bx, 1, none⟩ = some (.int .i64 x.people) := (hpx.below hbr2S hpx.lt).c1
        have hpp : 0 ≤ people + x.people ∧ people + x.people + 1000 * (m : Int) ≤ 100000 := by have := hgp hq1; omega
        have hi8 : i ≤ 8 := by omega
        have hpb := hgp hq1
        have hvs := ih U Pp ⟨S.best, S.most, S.c - 1⟩ (people + x.people) _ (by omega) hU hP hPm hQ (by show 0 ≤ S.c - 1; omega) (by show S.c - 1 ≤ bud; omega) hpp.1 hpp.2 hmo hl9 ⟨_, _, _, _, _, _, hM9⟩
        have hat : ((xs.length - m : Nat) : Int) = (i : Int) + 1 := by omega
        rw [hat] at hvs
        clear hmr hat hq1 hq8 gk0 gk1 gk2 gk3 gk4 gk5 gk6 gc1 k0 k1 k2 k3 k4 k5 k6 hM9 hpp hgp
        go_wp2_with fail
        refine hvs.mono ?_
        rintro e wz ⟨rfl, b', hmz, hbz, hlz, hSz, hBz⟩
        go_wp2
        refine bodyPost_end (results_none rfl _ _ _) rfl ?_
        exact ⟨rfl, b', by rw [HC2.out]; exact hmz, by rw [HC2.out]; exact hbz, hlz, by rw [HC2.out]; exact hSz, hb9.trans hBz⟩
/-- What a round of the copy reads. -/
structure Row1 (w : World) (g : Nat) (a : Value) : Prop where
  c5 : w.cell? ⟨g, 5, none⟩ = some a
theorem Row1.ltg {w : World} {g : Nat} {a : Value} (h : Row1 w g a) : g < w.heap.size := block_lt_of_cell h.c5
theorem Row1.keep {w w' : World} {g : Nat} {a : Value} (h : Row1 w g a) (h1 : w'.heap[g]? = w.heap[g]?) : Row1 w' g a := ⟨(World.cell?_of_block (a := ⟨g, 5, none⟩) h1).trans h.c5⟩
theorem Row1.below {w w' : World} {g : Nat} {a : Value} (h : Row1 w g a) (hb : Below w.heap.size w w') : Row1 w' g a := h.keep (hb.block g h.ltg)
set_option maxRecDepth 100000 in
set_option maxHeartbeats 16000000 in
theorem visitI_any (xs : List DGroup) (hv : groupsB xs = true) (B g gu : Nat) (lv : Value) (fpl : List Nat) (hfl : ∀ b ∈ fpl, b < B) (lvl bud : Int) (hbud : 0 ≤ bud ∧ bud ≤ 1000000000000) (m : Nat) : VisitI xs B g gu lv fpl lvl bud m := by
  have hn8 := groupsB_len hv
  obtain ⟨i1, hi1, hy0, hy1, hy2⟩ := info_parts infoRowI
  induction m using Nat.strongRecOn with | _ m ih => ?_
  intro U Pp S people w hm hU hP hPm hQ hc0 hcb hp0 hp1 hmo hlist hM
  obtain ⟨vp, vb, Vp, Gp, Vb, Gb, hS⟩ := hM
  have hgl := hS.bx.lt
  have c0 : w.cell? ⟨g, 0, none⟩ = some lv := hS.bx.cell 0 _ rfl
  obtain ⟨A, cap, rfl, hle, hca⟩ := hlist.form
  have c3 : w.cell? ⟨g, 3, none⟩ = some (.slice (some ⟨gu, 0, none⟩) U.length U.length) := hS.bx.cell 3 _ rfl
  go_enter Try.func33, Try.ntmps33
  go_wp2
  go_loop [1] (fun a => ∃ m' : Nat, m' ≤ m ∧ a = .int .i64 ((xs.length - m' : Nat) : Int) ∧ Hid (visitF (wOne xs lvl) (wTwo xs lvl) xs.length m U Pp people S = visitF (wOne xs lvl) (wTwo xs lvl) xs.length m' U Pp people S)) (fun a => xs.length - (intOf a).toNat)
  case atStart => exact ⟨m, Nat.le_refl _, rfl, rfl⟩
  case round =>
    obtain ⟨m', hm', rfl, HV⟩ := hrel
    cases m' with
    | zero =>
      simp only [Nat.sub_zero]
      have hsP := hP.small hn8
      have hsQ := hQ.small hn8
      obtain ⟨A3, k3, rfl⟩ := hS.pr.form
      have c6 : w.cell? ⟨g, 6, none⟩ = some (.int .i64 S.most) := hS.bx.cell 6 _ rfl
      have c4 : w.cell? ⟨g, 4, none⟩ = some (.slice A3 Pp.length k3) := hS.bx.cell 4 _ rfl
      have c5 : w.cell? ⟨g, 5, none⟩ = some vb := hS.bx.cell 5 _ rfl
      have HVz : Hid (visitF (wOne xs lvl) (wTwo xs lvl) xs.length m U Pp people S = leafF Pp people S) := HV
      have hcbb := cmpP_bounds Pp S.best
      clear HV
      go_upto_region 3 with fail
      go_cut [59] from 9 (fun s wx => s = .bool (updB Pp people S) ∧ Below w.heap.size w wx)
      case first =>
        have gc6 := cell_regrown c6
        have gc4 := cell_regrown c4
        have gc5 := cell_regrown c5
        refine wp_region_mix (C := fun w' => ∃ p : Regrown, w' = Go.Sort.grow (redrawn w p.d) p.os) [true, true, true, true, true, true, true, true, true, true, true, true, true, true, true, true, true, true, true, true, true, true, false, true, true, true] (by kernel_rfl) (by kernel_rfl) (by kernel_rfl) (fun _ _ d _ _ h => by cases d <;> exact h) (regrown_of_below (Below.drew (Below.refl _ _))) ?_
        have hS0 : Below (w.heap.size) w w.drew := Below.drew (Below.refl _ _)
        refine wpMix_pure (by kernel_rfl) (fun K hK => ?_)
        go_big_quiet_op
        refine hK _ ?_; clear hK K
        refine wpMix_pure (by kernel_rfl) (fun K hK => ?_)
        go_big_quiet_op
        refine hK _ ?_; clear hK K
        refine wpMix_pure (by kernel_rfl) (fun K hK => ?_)
        go_big_quiet_op
        refine hK _ ?_; clear hK K
        refine wpMix_pure (by kernel_rfl) (fun K hK => ?_)
        go_big_quiet_op
        refine hK _ ?_; clear hK K
        refine wpMix_pure (by kernel_rfl) (fun K hK => ?_)
        go_big_quiet_op
        refine hK _ ?_; clear hK K
        by_cases hq5 : S.most < people
        · skip
          refine wpMix_pure (by kernel_rfl) (fun K hK => ?_)
          go_big_quiet_op
          refine hK _ ?_; clear hK K
          refine wpMix_pure (by kernel_rfl) (fun K hK => ?_)
          go_big_quiet_op
          refine hK _ ?_; clear hK K
          refine wpMix_skip (by kernel_rfl) (fun K hK => ?_)
          simp only [Act.put, List.setIfInBounds_toArray, List.set_cons_zero, List.set_cons_succ]
          refine hK _ ?_; clear hK K
          refine wpMix_skip (by kernel_rfl) (fun K hK => ?_)
          simp only [Act.put, List.setIfInBounds_toArray, List.set_cons_zero, List.set_cons_succ]
          refine hK _ ?_; clear hK K
          refine wpMix_skip (by kernel_rfl) (fun K hK => ?_)
          simp only [Act.put, List.setIfInBounds_toArray, List.set_cons_zero, List.set_cons_succ]
          refine hK _ ?_; clear hK K
          refine wpMix_skip (by kernel_rfl) (fun K hK => ?_)
          simp only [Act.put, List.setIfInBounds_toArray, List.set_cons_zero, List.set_cons_succ]
          refine hK _ ?_; clear hK K
          refine wpMix_skip (by kernel_rfl) (fun K hK => ?_)
          simp only [Act.put, List.setIfInBounds_toArray, List.set_cons_zero, List.set_cons_succ]
          refine hK _ ?_; clear hK K
          refine wpMix_skip (by kernel_rfl) (fun K hK => ?_)
          simp only [Act.put, List.setIfInBounds_toArray, List.set_cons_zero, List.set_cons_succ]
          refine hK _ ?_; clear hK K
          refine wpMix_skip (by kernel_rfl) (fun K hK => ?_)
          simp only [Act.put, List.setIfInBounds_toArray, List.set_cons_zero, List.set_cons_succ]
          refine hK _ ?_; clear hK K
          refine wpMix_skip (by kernel_rfl) (fun K hK => ?_)
          simp only [Act.put, List.setIfInBounds_toArray, List.set_cons_zero, List.set_cons_succ]
          refine hK _ ?_; clear hK K
          refine wpMix_skip (by kernel_rfl) (fun K hK => ?_)
          simp only [Act.put, List.setIfInBounds_toArray, List.set_cons_zero, List.set_cons_succ]
          refine hK _ ?_; clear hK K
          refine wpMix_skip (by kernel_rfl) (fun K hK => ?_)
          simp only [Act.put, List.setIfInBounds_toArray, List.set_cons_zero, List.set_cons_succ]
          refine hK _ ?_; clear hK K
          refine wpMix_skip (by kernel_rfl) (fun K hK => ?_)
          simp only [Act.put, List.setIfInBounds_toArray, List.set_cons_zero, List.set_cons_succ]
          refine hK _ ?_; clear hK K
          refine wpMix_skip (by kernel_rfl) (fun K hK => ?_)
          simp only [Act.put, List.setIfInBounds_toArray, List.set_cons_zero, List.set_cons_succ]
          refine hK _ ?_; clear hK K
          refine wpMix_skip (by kernel_rfl) (fun K hK => ?_)
          simp only [Act.put, List.setIfInBounds_toArray, List.set_cons_zero, List.set_cons_succ]
          refine hK _ ?_; clear hK K
          refine wpMix_skip (by kernel_rfl) (fun K hK => ?_)
          simp only [Act.put, List.setIfInBounds_toArray, List.set_cons_zero, List.set_cons_succ]
          refine hK _ ?_; clear hK K
          refine wpMix_skip (by kernel_rfl) (fun K hK => ?_)
          simp only [Act.put, List.setIfInBounds_toArray, List.set_cons_zero, List.set_cons_succ]
          refine hK _ ?_; clear hK K
          refine wpMix_skip (by kernel_rfl) (fun K hK => ?_)
          simp only [Act.put, List.setIfInBounds_toArray, List.set_cons_zero, List.set_cons_succ]
          refine hK _ ?_; clear hK K
          refine wpMix_skip (by kernel_rfl) (fun K hK => ?_)
          simp only [Act.put, List.setIfInBounds_toArray, List.set_cons_zero, List.set_cons_succ]
          refine hK _ ?_; clear hK K
          refine wpMix_skip (by kernel_rfl) (fun K hK => ?_)
          simp only [Act.put, List.setIfInBounds_toArray, List.set_cons_zero, List.set_cons_succ]
          refine hK _ ?_; clear hK K
          refine wpMix_pure (by kernel_rfl) (fun K hK => ?_)
          go_big_quiet_op
          refine hK _ ?_; clear hK K
          refine wpMix_nil ?_
          go_wp2
          go_meet
          case rel => exact ⟨by rw [show updB Pp people S = true from by unfold updB; rw [decide_eq_true hq5]; rfl], hS0⟩
        · skip
          refine wpMix_pure (by kernel_rfl) (fun K hK => ?_)
          go_big_quiet_op
          refine hK _ ?_; clear hK K
          refine wpMix_pure (by kernel_rfl) (fun K hK => ?_)
          go_big_quiet_op
          refine hK _ ?_; clear hK K
          refine wpMix_pure (by kernel_rfl) (fun K hK => ?_)
          go_big_quiet_op
          refine hK _ ?_; clear hK K
          refine wpMix_pure (by kernel_rfl) (fun K hK => ?_)
          go_big_quiet_op
          refine hK _ ?_; clear hK K
          refine wpMix_pure (by kernel_rfl) (fun K hK => ?_)
          go_big_quiet_op
          refine hK _ ?_; clear hK K
          refine wpMix_pure (by kernel_rfl) (fun K hK => ?_)
          go_big_quiet_op
          refine hK _ ?_; clear hK K
          refine wpMix_pure (by kernel_rfl) (fun K hK => ?_)
          go_big_quiet_op
          refine hK _ ?_; clear hK K
          by_cases hq12 : people = S.most
          · skip
            have e12 : (people == S.most) = true := beq_iff_eq.2 hq12
            replace hq12 := Lib.hid hq12
            refine wpMix_pure (by kernel_rfl) (fun K hK => ?_)
            go_big_quiet_op
            refine hK _ ?_; clear hK K
            refine wpMix_pure (by kernel_rfl) (fun K hK => ?_)
            go_big_quiet_op
            refine hK _ ?_; clear hK K
            refine wpMix_pure (by kernel_rfl) (fun K hK => ?_)
            go_big_quiet_op
            refine hK _ ?_; clear hK K
            refine wpMix_pure (by kernel_rfl) (fun K hK => ?_)
            go_big_quiet_op
            refine hK _ ?_; clear hK K
            refine wpMix_pure (by kernel_rfl) (fun K hK => ?_)
            go_big_quiet_op
            refine hK _ ?_; clear hK K
            refine wpMix_pure (by kernel_rfl) (fun K hK => ?_)
            go_big_quiet_op
            refine hK _ ?_; clear hK K
            refine wpMix_pure (by kernel_rfl) (fun K hK => ?_)
            go_big_quiet_op
            refine hK _ ?_; clear hK K
            refine wpMix_pure (by kernel_rfl) (fun K hK => ?_)
            go_big_quiet_op
            refine hK _ ?_; clear hK K
            refine wpMix_pure (by kernel_rfl) (fun K hK => ?_)
            go_big_quiet_op
            refine hK _ ?_; clear hK K
            refine wpMix_pure (by kernel_rfl) (fun K hK => ?_)
            go_big_quiet_op
            refine hK _ ?_; clear hK K
            refine wpMix_act (by kernel_rfl) (fun K hK => ?_)
            go_big_op
            refine (compareP_any _ (hS.below hS0).pr (hS.below hS0).bs hsP hsQ).mono ?_
            rintro e w' ⟨rfl, rfl⟩
            refine hK _ _ (regrown_of_below hS0) ?_
            clear hK K
            by_cases hq23 : cmpP Pp S.best < 0
            · skip
              refine wpMix_pure (by kernel_rfl) (fun K hK => ?_)
              go_big_quiet_op
              refine hK _ ?_; clear hK K
              refine wpMix_pure (by kernel_rfl) (fun K hK => ?_)
              go_big_quiet_op
              refine hK _ ?_; clear hK K
              refine wpMix_pure (by kernel_rfl) (fun K hK => ?_)
              go_big_quiet_op
              refine hK _ ?_; clear hK K
              refine wpMix_nil ?_
              go_wp2
              go_meet
              case rel => exact ⟨by rw [show updB Pp people S = true from by unfold updB; rw [decide_eq_false (show ¬ S.most < people by omega), decide_eq_true hq12.out, ← cmpP_lt, decide_eq_true hq23]; rfl], hS0⟩
            · skip
              refine wpMix_pure (by kernel_rfl) (fun K hK => ?_)
              go_big_quiet_op
              refine hK _ ?_; clear hK K
              refine wpMix_pure (by kernel_rfl) (fun K hK => ?_)
              go_big_quiet_op
              refine hK _ ?_; clear hK K
              refine wpMix_pure (by kernel_rfl) (fun K hK => ?_)
              go_big_quiet_op
              refine hK _ ?_; clear hK K
              refine wpMix_nil ?_
              go_wp2
              go_meet
              case rel => exact ⟨by rw [show updB Pp people S = false from by unfold updB; rw [decide_eq_false (show ¬ S.most < people by omega), decide_eq_true hq12.out, ← cmpP_lt, decide_eq_false (show ¬ cmpP Pp S.best < 0 by omega)]; rfl], hS0⟩
          · skip
            have e12 : (people == S.most) = false := beq_eq_false_iff_ne.2 hq12
            refine wpMix_pure (by kernel_rfl) (fun K hK => ?_)
            go_big_quiet_op
            refine hK _ ?_; clear hK K
            refine wpMix_pure (by kernel_rfl) (fun K hK => ?_)
            go_big_quiet_op
            refine hK _ ?_; clear hK K
            refine wpMix_skip (by kernel_rfl) (fun K hK => ?_)
            simp only [Act.put, List.setIfInBounds_toArray, List.set_cons_zero, List.set_cons_succ]
            refine hK _ ?_; clear hK K
            refine wpMix_skip (by kernel_rfl) (fun K hK => ?_)
            simp only [Act.put, List.setIfInBounds_toArray, List.set_cons_zero, List.set_cons_succ]
            refine hK _ ?_; clear hK K
            refine wpMix_skip (by kernel_rfl) (fun K hK => ?_)
            simp only [Act.put, List.setIfInBounds_toArray, List.set_cons_zero, List.set_cons_succ]
            refine hK _ ?_; clear hK K
            refine wpMix_skip (by kernel_rfl) (fun K hK => ?_)
            simp only [Act.put, List.setIfInBounds_toArray, List.set_cons_zero, List.set_cons_succ]
            refine hK _ ?_; clear hK K
            refine wpMix_skip (by kernel_rfl) (fun K hK => ?_)
            simp only [Act.put, List.setIfInBounds_toArray, List.set_cons_zero, List.set_cons_succ]
            refine hK _ ?_; clear hK K
            refine wpMix_skip (by kernel_rfl) (fun K hK => ?_)
            simp only [Act.put, List.setIfInBounds_toArray, List.set_cons_zero, List.set_cons_succ]
            refine hK _ ?_; clear hK K
            refine wpMix_skip (by kernel_rfl) (fun K hK => ?_)
            simp only [Act.put, List.setIfInBounds_toArray, List.set_cons_zero, List.set_cons_succ]
            refine hK _ ?_; clear hK K
            refine wpMix_skip (by kernel_rfl) (fun K hK => ?_)
            simp only [Act.put, List.setIfInBounds_toArray, List.set_cons_zero, List.set_cons_succ]
            refine hK _ ?_; clear hK K
            refine wpMix_skip (by kernel_rfl) (fun K hK => ?_)
            simp only [Act.put, List.setIfInBounds_toArray, List.set_cons_zero, List.set_cons_succ]
            refine hK _ ?_; clear hK K
            refine wpMix_skip (by kernel_rfl) (fun K hK => ?_)
            simp only [Act.put, List.setIfInBounds_toArray, List.set_cons_zero, List.set_cons_succ]
            refine hK _ ?_; clear hK K
            refine wpMix_pure (by kernel_rfl) (fun K hK => ?_)
            go_big_quiet_op
            refine hK _ ?_; clear hK K
            refine wpMix_pure (by kernel_rfl) (fun K hK => ?_)
            go_big_quiet_op
            refine hK _ ?_; clear hK K
            refine wpMix_nil ?_
            go_wp2
            go_meet
            case rel => exact ⟨by rw [show updB Pp people S = false from by unfold updB; rw [decide_eq_false (show ¬ S.most < people by omega), decide_eq_false (show ¬ people = S.most by first | exact hq12 | omega)]; rfl], hS0⟩
      case rest =>
        obtain ⟨rfl, hb⟩ := hcut
        have hS1 := hS.below hb
        have hBw : B ≤ w.heap.size := Nat.le_trans hS.gB (Nat.le_of_lt hgl)
        clear hcbb c6 c4 c5
        cases hup : updB Pp people S
        · have hlf : leafF Pp people S = S := by rw [leafF_upd, hup]; rfl
          have HL := Lib.hid (HVz.out.trans hlf)
          clear hlf HVz
          go_wp2
          refine bodyPost_ret (results_none rfl _ _ _) rfl ?_
          rw [HL.out]
          exact ⟨rfl, S.c, ⟨_, _, _, _, _, _, hS1⟩, ⟨fun _ => rfl, fun h => h⟩, by omega, ⟨hQ, ⟨by omega, hcb⟩, hmo⟩, hb.mono hBw⟩
        · have hlf : leafF Pp people S = ⟨Pp, people, S.c⟩ := by rw [leafF_upd, hup]; rfl
          have HL := Lib.hid (HVz.out.trans hlf)
          have c5' : wc.cell? ⟨g, 5, none⟩ = some vb := hS1.bx.cell 5 _ rfl
          have z5 := hS1.bx.frz 5 (by show 5 < 7; decide)
          have c6' : wc.cell? ⟨g, 6, none⟩ = some (.int .i64 S.most) := hS1.bx.cell 6 _ rfl
          have z6 := hS1.bx.frz 6 (by show 6 < 7; decide)
          have hBc : B ≤ wc.heap.size := Nat.le_trans hBw hb.size
          have hS3 := (hS1.clear (v' := .slice none 0 0) 5 (World.ownsRow_nil wc B 50 1) (fun b hb => by cases hb) rfl).field (box' := boxI (.slice A xs.length cap) lvl gu U.length S.c people) 6 (.int .i64 people) rfl
          have hbW : Below B wc ((wc.setCell ⟨g, 5, none⟩ (.slice none 0 0)).setCell ⟨g, 6, none⟩ (.int .i64 people)) := ((Below.refl B wc).setCell (p := ⟨g, 5, none⟩) hS.gB _).setCell (p := ⟨g, 6, none⟩) hS.gB _
          clear HVz hlf hup hS1
          go_upto_region 5 with fail
          generalize (wc.setCell ⟨g, 5, none⟩ (.slice none 0 0)).setCell ⟨g, 6, none⟩ (.int .i64 people) = W7 at *
          have c4' : W7.cell? ⟨g, 4, none⟩ = some (.slice A3 Pp.length k3) := hS3.bx.cell 4 _ rfl
          clear c5' z5 c6' z6
          go_wp2
          go_loopw [72] (fun i wr => ∃ k : Nat, k ≤ Pp.length ∧ i = .int .i64 k ∧ (∃ vb' Vb' Gb', SMem wr B g gu (boxI (.slice A xs.length cap) lvl gu U.length S.c people) U Pp (Pp.take k) (.slice A3 Pp.length k3) vb' Vp Gp Vb' Gb') ∧ Below B wc wr) (fun i _ => Pp.length - (intOf i).toNat)
          case atStart => exact ⟨0, Nat.zero_le _, rfl, ⟨_, _, _, hS3⟩, hbW⟩
          case round =>
            obtain ⟨k, hk, rfl, ⟨vb', Vb', Gb', hm⟩, hbr⟩ := hrel
            by_cases hlt : k < Pp.length
            · have hlt9 : (k : Int) < (Pp.length : Int) := by omega
              obtain ⟨gp, capp, cc, hvq, p0, hVk, p1, p2⟩ := PgW.pair hm.pr hsP hlt
              injection hvq with hvq _ hvc
              subst hvq hvc
              obtain ⟨fpk, hslk, _⟩ := PgW.at_ hm.pr hlt (rowX_ok hsP.2 k)
              rw [hVk] at hslk
              have hr3 : Row1 wr g vb' := ⟨hm.bx.cell 5 _ rfl⟩
              have hBr : B ≤ wr.heap.size := Nat.le_trans hm.gB (Nat.le_of_lt hm.bx.lt)
              have z5r := hm.bx.frz 5 (by show 5 < 7; decide)
              clear hVk
              go_wp2
              have gk5 : ∀ p : KeptW (B) wr (fun N => Row1 N g vb'), p.v.cell? ⟨g, 5, none⟩ = some (vb') := fun p => p.x.c5
              haveI hKne : Nonempty (KeptW (B) wr (fun N => Row1 N g vb')) := ⟨⟨_, Below.drew (Below.refl _ _), (hr3.below (Below.drew (Below.refl _ _)))⟩⟩
              refine wp_region_sink (C := fun w' => ∃ p : KeptW (B) wr (fun N => Row1 N g vb'), w' = p.v) [0, 1, 2, 3, 4, 5, 6, 7, 8, 9, 10, 11] [true, true, true, true, true, true, false, false, false, true, true, false] 11 (by kernel_rfl) (by kernel_rfl) (by kernel_rfl) (fun _ _ d _ _ h => by cases d <;> exact h) ⟨⟨_, Below.drew (Below.refl _ _), (hr3.below (Below.drew (Below.refl _ _)))⟩, rfl⟩ ?_
              simp only [List.map_cons, List.map_nil, List.getD_cons_zero, List.getD_cons_succ]
              have hS0 : Below (B) wr wr.drew := Below.drew (Below.refl _ _)
              refine wpMixS_pure (by kernel_rfl) (fun K hK => ?_)
              go_big_quiet_op
              refine hK _ ?_; clear hK K
              refine wpMixS_pure (by kernel_rfl) (fun K hK => ?_)
              go_big_quiet_op
              refine hK _ ?_; clear hK K
              refine wpMixS_pure (by kernel_rfl) (fun K hK => ?_)
              go_big_quiet_op
              refine hK _ ?_; clear hK K
              refine wpMixS_pure (by kernel_rfl) (fun K hK => ?_)
              go_big_quiet_op
              refine hK _ ?_; clear hK K
              refine wpMixS_pure (by kernel_rfl) (fun K hK => ?_)
              go_big_quiet_op
              refine hK _ ?_; clear hK K
              refine wpMixS_pure (by kernel_rfl) (fun K hK => ?_)
              go_big_quiet_op
              refine hK _ ?_; clear hK K
              refine wpMixS_act (by kernel_rfl) (fun K hK => ?_)
              go_big_op
              refine (cloneI_any _ (rowX Pp k) fpk wr.drew (hslk.below' (Below.drew (Below.refl _ _))) (by unfold rowX; simp)).mono ?_
              rintro e wr1 ⟨y, rfl, hyo, hbr1⟩
              have hbr1S : Below (B) wr wr1 := hS0.trans (hbr1.mono (Nat.le_trans hBr hS0.size))
              refine hK _ _ ⟨⟨_, hbr1S, (((hr3.below (Below.drew (Below.refl _ _)))).below hbr1)⟩, rfl⟩ ?_
              clear hK K
              obtain ⟨gy, cy, hyf⟩ : ∃ gy cy, y = .slice (some ⟨gy, 0, none⟩) 2 cy := by
                rcases hyo.2 with ⟨_, e⟩ | ⟨gy, cy, cur, e, _⟩
                · unfold rowX at e; simp at e
                · exact ⟨gy, cy, e⟩
              subst hyf
              refine wpMixS_act (by kernel_rfl) (fun K hK => ?_)
              go_big_op
              refine hK _ _ ⟨⟨_, (hbr1S.alloc (Nat.le_trans hBr hbr1S.size) _), (((((hr3.below (Below.drew (Below.refl _ _)))).below hbr1)).below ((Below.refl _ _).alloc (Nat.le_refl _) _))⟩, rfl⟩ ?_
              clear hK K
              refine mixS_world (fun N => Below (B) wr N ∧ Row1 N g vb' ∧ SMem N B g gu (boxI (.slice A xs.length cap) lvl gu U.length S.c people) U Pp (Pp.take k) (.slice (some ⟨gp, 0, none⟩) Pp.length k3) vb' Vp Gp Vb' Gb' ∧ Own fInt N wr.drew.heap.size 2 (.slice (some ⟨gy, 0, none⟩) 2 cy) (rowX Pp k) ∧ N.cell? ⟨wr1.heap.size, 0, none⟩ = some (.slice (some ⟨gy, 0, none⟩) 2 cy) ∧ wr1.heap.size < N.heap.size) ⟨hbr1S.alloc (Nat.le_trans hBr hbr1S.size) _, ⟨((hr3.below (Below.drew (Below.refl _ _))).below hbr1).below ((Below.refl _ _).alloc (Nat.le_refl _) _), ((hm.below (Below.drew (Below.refl _ _))).below hbr1).below ((Below.refl _ _).alloc (Nat.le_refl _) _), ((hyo.below ((Below.refl _ _).alloc (Nat.le_refl _) _))), by simp, by simp⟩⟩ ?_
              rintro wr2 ⟨hbr2S, hbr2F⟩
              refine wpMixS_act (by kernel_rfl) (fun K hK => ?_)
              obtain ⟨hr6, hm6, hy6, hc6, hl6⟩ := hbr2F
              have hkl : (Pp.take k).length = k := by rw [List.length_take]; omega
              have hown6 := hm6.bs.own
              rw [hkl] at hown6
              refine wp_append_at2 _ _ _ 24 rfl B 50 i1 (.slice none 0 0) 1 24 Try.underlying24 hi1 hy0 hy1 hy2 rfl (by decide) vb' k _ rfl hown6 [.slice (some ⟨gy, 0, none⟩) 2 cy] rfl (by intro u hu; rw [List.mem_singleton] at hu; subst hu; rfl) wr1.heap.size rfl (by intro j u hj; match j, hj with | 0, hj => (injection hj with hj; subst hj; exact hc6) | j + 1, hj => (simp at hj)) (by omega) (by decide) (Nat.le_trans hBr hbr2S.size) ?_
              intro v' u hown hbu hgr hli
              have hru : Row1 u g vb' := hr6.keep (hgr.block g hr6.ltg (fun e => (hm6.nb g (.inl e.symm)).1 rfl))
              have hbuS : Below (B) wr u := hbr2S.trans hbu
              try simp only [Act.put, List.setIfInBounds_toArray, List.set_cons_zero, List.set_cons_succ]
              refine hK _ _ ⟨⟨_, hbuS, hru⟩, rfl⟩ ?_
              clear hK K
              refine wpMixS_pure (by kernel_rfl) (fun K hK => ?_)
              go_big_quiet_op
              refine hK _ ?_; clear hK K
              refine wpMixS_pure (by kernel_rfl) (fun K hK => ?_)
              go_big_quiet_op
              refine hK _ ?_; clear hK K
              refine wpMixS_last (by kernel_rfl) (fun K hK => ?_)
              have x5u : u.cell? ⟨g, 5, none⟩ = some vb' := hru.c5
              have z5u := (hm6.bx.keep (hgr.block g hr6.ltg (fun e => (hm6.nb g (.inl e.symm)).1 rfl)) hgr.size).frz 5 (by show 5 < 7; decide)
              obtain ⟨A9, c9, hv9⟩ : ∃ A c, v' = .slice A (k + 1) c := by
                rcases hown.2 with ⟨_, e2⟩ | ⟨g9, cap9, cur9, e, _⟩
                · exact absurd e2 (by omega)
                · exact ⟨_, _, e⟩
              subst hv9
              go_big_op
              try simp only [Act.put, List.setIfInBounds_toArray, List.set_cons_zero, List.set_cons_succ]
              refine hK _ _ ?_
              clear hK K
              have hyl := own_at hy6 (g := gy) rfl
              have hwd : wr.drew.heap.size = wr.heap.size := rfl
              rw [hwd] at hyl
              have hownQ := hown
              rw [← hkl] at hownQ
              have hg3 := hm.bx.lt
              have hu3 := hm.us.lt
              have hm9 := hm6.pushB (u := u) (a := gy) (m := (Pp.getD k (0, 0)).1) (k := (Pp.getD k (0, 0)).2) 5 (y := .slice (some ⟨gy, 0, none⟩) 2 cy) (own_low hy6 (by rw [hwd]; exact hBr)) rfl (by omega) (by omega) (fun e => by have := (hm.pr.lt e).2; omega) (fun e => by have := (hm.bs.lt e).2; omega) hownQ hgr (by rw [hkl]; exact hli) rfl
              rw [hkl] at hm9
              have htk : Pp.take k ++ [((Pp.getD k (0, 0)).1, (Pp.getD k (0, 0)).2)] = Pp.take (k + 1) := by rw [getD_of_lt hlt, List.take_succ_eq_append_getElem hlt]
              rw [htk] at hm9
              have hb9 := fun x => (hbr.trans hbuS).setCell (p := ⟨g, 5, none⟩) hm.gB x
              go_wp2
              go_roundw
              case rel => exact ⟨k + 1, by omega, by go_num, ⟨_, _, _, hm9⟩, hb9 _⟩
              case measure => simp [intOf]; omega
            · obtain rfl : k = Pp.length := by omega
              rw [List.take_length] at hm
              go_wp2
              refine bodyPost_ret (results_none rfl _ _ _) rfl ?_
              rw [HL.out]
              exact ⟨rfl, S.c, ⟨_, _, _, _, _, _, hm⟩, ⟨fun _ => rfl, fun h => h⟩, by show _ ≤ S.c; omega, ⟨hP, ⟨by show -1 ≤ S.c; omega, hcb⟩, by show -1 ≤ people ∧ people ≤ 100000; omega⟩, (hb.mono hBw).trans hbr⟩
    | succ m' =>
      have hi : xs.length - (m' + 1) < U.length := by omega
      have cu : w.cell? ⟨gu, xs.length - (m' + 1), none⟩ = some (.bool (U[xs.length - (m' + 1)]'hi)) := hS.us.cell _ _ (by rw [List.getElem?_map, List.getElem?_eq_getElem hi]; rfl)
      cases hu : U[xs.length - (m' + 1)]'hi
      · have hb0 : U.getD (xs.length - (m' + 1)) false = false := by rw [getD_of_lt hi]; exact hu
        have HN := Lib.hid (HV.out.trans (visitF_node hb0))
        have hin : xs.length - (m' + 1) < xs.length := by omega
        have him : xs.length - (m' + 1) + (m' + 1) = xs.length := by omega
        have ND := Lib.hid (node_of_visitI xs B g gu (.slice A xs.length cap) fpl hfl lvl bud hbud.2 hn8 m' (ih m' (by omega)))
        rw [hu] at cu
        clear HV hu hb0 ih
        generalize xs.length - (m' + 1) = i at *
        have hlt : (i : Int) < (xs.length : Int) := by omega
        have hni : ((i : Int) == (xs.length : Int)) = false := by rw [beq_eq_false_iff_ne]; omega
        have hi8 : i ≤ 8 := by omega
        have HIM := Lib.hid him
        clear him
        go_wp2
        go_loopw [8] (fun kv wr => ∃ k : Nat, i + 1 ≤ k ∧ k ≤ xs.length ∧ kv = .int .i64 k ∧ ∃ T b, Hid (foldK (wTwo xs lvl) (visitF (wOne xs lvl) (wTwo xs lvl) xs.length m') U Pp i people S k = T) ∧ SrOk xs.length bud T ∧ SMI wr B g gu (.slice A xs.length cap) lvl b U Pp T ∧ bRel b T.c ∧ Hid (-(9 * (m' : Int)) - ((k : Int) - i - 1) ≤ b) ∧ Below B w wr) (fun kv _ => xs.length - (intOf kv).toNat)
        case atStart => exact ⟨i + 1, Nat.le_refl _, by omega, by go_num, S, S.c, foldK_low (Nat.le_refl _), ⟨hQ, ⟨by omega, hcb⟩, hmo⟩, ⟨vp, vb, Vp, Gp, Vb, Gb, hS⟩, ⟨fun _ => rfl, fun h => h⟩, Lib.hid (by omega), Below.refl _ _⟩
        case round =>
          obtain ⟨k, hk1, hk, rfl, T, b, HT, hT, ⟨vp9, vb9, Vp9, Gp9, Vb9, Gb9, hm⟩, hrb, HLIM, hbr⟩ := hrel
          have hBw : B ≤ w.heap.size := Nat.le_trans hS.gB (Nat.le_of_lt hgl)
          have hlw : Sl fGroup.cod wr (.slice A xs.length cap) xs fpl := hlist.keep (fun b hb => hbr.block b (hfl b hb)) hbr.size
          clear cu c0 c3 hS
          by_cases hkn : k < xs.length
          · have hkU : k < U.length := by omega
            have cu : wr.cell? ⟨gu, k, none⟩ = some (.bool (U[k]'hkU)) := hm.us.cell _ _ (by rw [List.getElem?_map, List.getElem?_eq_getElem hkU]; rfl)
            have c3 : wr.cell? ⟨g, 3, none⟩ = some (.slice (some ⟨gu, 0, none⟩) U.length U.length) := hm.bx.cell 3 _ rfl
            have c0 : wr.cell? ⟨g, 0, none⟩ = some (.slice A xs.length cap) := hm.bx.cell 0 _ rfl
            have hkn9 : (k : Int) < (xs.length : Int) := by omega
            cases huk : U[k]'hkU
            · have hgf : U.getD k false = false := by rw [getD_of_lt hkU]; exact huk
              have HCh := Lib.hid ((foldK_child (w2 := wTwo xs lvl) (g := visitF (wOne xs lvl) (wTwo xs lvl) xs.length m') (used := U) (pairs := Pp) (i := i) (people := people) (S := S) (by omega) hgf).trans (by rw [HT.out]))
              rw [huk] at cu
              obtain ⟨A3, k3, rfl⟩ := hm.pr.form
              have zk := hm.us.frz k (by simpa using hkU)
              have hm8 := hm.mark k true
              have hb08 := hbr.setCell (p := ⟨gu, k, none⟩) hm.guB (.bool true)
              clear huk HT
              go_upto_region 15 with fail
              generalize wr.setCell ⟨gu, k, none⟩ (.bool true) = w8 at *
              clear hm hbr c3 c0 cu zk hlw
              have hgl8 := hm8.bx.lt
              have hul8 := hm8.us.lt
              have hA2 : Below w8.heap.size w8 ((w8.alloc (.cells #[.int .i64 (i : Int), .int .i64 (k : Int)] 2)).alloc (.cells #[.slice (some ⟨w8.heap.size, 0, none⟩) 2 2] 50)) := ((Below.refl _ _).alloc (Nat.le_refl _) _).alloc (by simp) _
              have hm9 := hm8.below hA2
              have hown9 := hm9.pr.own
              have hyy : Own fInt ((w8.alloc (.cells #[.int .i64 (i : Int), .int .i64 (k : Int)] 2)).alloc (.cells #[.slice (some ⟨w8.heap.size, 0, none⟩) 2 2] 50)) B 2 (.slice (some ⟨w8.heap.size, 0, none⟩) 2 2) [(i : Int), (k : Int)] := (own_lit2 (Nat.le_trans hm8.gB (Nat.le_of_lt hgl8)) (i : Int) (k : Int) 2).below ((Below.refl _ _).alloc (Nat.le_refl _) _)
              have hszB : ((w8.alloc (.cells #[.int .i64 (i : Int), .int .i64 (k : Int)] 2)).alloc (.cells #[.slice (some ⟨w8.heap.size, 0, none⟩) 2 2] 50)).heap.size = w8.heap.size + 2 := by simp
              have hBB : B ≤ ((w8.alloc (.cells #[.int .i64 (i : Int), .int .i64 (k : Int)] 2)).alloc (.cells #[.slice (some ⟨w8.heap.size, 0, none⟩) 2 2] 50)).heap.size := by rw [hszB]; have := hm8.gB; omega
              have hbB : Below B w8 ((w8.alloc (.cells #[.int .i64 (i : Int), .int .i64 (k : Int)] 2)).alloc (.cells #[.slice (some ⟨w8.heap.size, 0, none⟩) 2 2] 50)) := hA2.mono (Nat.le_trans hm8.gB (Nat.le_of_lt hgl8))
              have hcJ := cell_one_new (w8.alloc (.cells #[.int .i64 (i : Int), .int .i64 (k : Int)] 2)) (.slice (some ⟨w8.heap.size, 0, none⟩) 2 2) 50
              rw [World.size_alloc] at hcJ
              have c4 : w8.cell? ⟨g, 4, none⟩ = some (.slice A3 Pp.length k3) := hm8.bx.cell 4 _ rfl
              have hPl9 : Pp.length ≤ 8 := by have := hP.1; omega
              have hk8 : k ≤ 8 := by omega
              go_wp2_with (at_builtin; go_loud (refine wpList_append_lies _ rfl _ _ 24 rfl B 50 i1 (.slice none 0 0) 1 24 Try.underlying24 hi1 hy0 hy1 hy2 rfl (by decide) (.slice A3 Pp.length k3) Pp.length _ rfl hown9 _ 1 1 [.slice (some ⟨w8.heap.size, 0, none⟩) 2 2] rfl rfl hcJ (by intro u hu; rw [List.mem_singleton] at hu; subst hu; rfl) (by decide) (by unfold maxLen; omega) (by omega) (by (try simp); have := hm8.gB; omega) (w8.heap.size + 2) (by simp) ?_))
              intro gq cq u hownU hgr hli hltu
              have hl9 : (Value.slice (some ⟨gq, 0, none⟩) (Pp.length + 1) cq).ownBlock = (Value.slice A3 Pp.length k3).ownBlock ∨ (Value.slice (some ⟨gq, 0, none⟩) (Pp.length + 1) cq).ownBlock = some ((w8.alloc (.cells #[.int .i64 (i : Int), .int .i64 (k : Int)] 2)).alloc (.cells #[.slice (some ⟨w8.heap.size, 0, none⟩) 2 2] 50)).heap.size := by
                rcases hli with h | h
                · exact .inl h.symm
                · exact .inr (by rw [hszB, ← h]; rfl)
              have hbU := hbB.trans ((Below.refl B _).grown hgr hBB (fun k hk => (hown9.lt k hk).1))
              have hm10 := hm9.push (a := w8.heap.size) 4 hyy (fun e => by omega) (fun e => by omega) (fun e => by have := (hm8.pr.lt e).2; omega) (fun e => by have := (hm8.bs.lt e).2; omega) hownU hgr hl9 rfl
              have hgg9 : (Value.slice A3 Pp.length k3).ownBlock ≠ some g := fun e => (hm9.np g (.inl e)).1 rfl
              have hbxu := hm9.bx.keep (hgr.block g hm9.bx.lt (fun e => hgg9 e.symm)) hgr.size
              have c4u : u.cell? ⟨g, 4, none⟩ = some (.slice A3 Pp.length k3) := hbxu.cell 4 _ rfl
              have z4u := hbxu.frz 4 (by show 4 < 7; decide)
              have hbV := (hb08.trans hbU).setCell (p := ⟨g, 4, none⟩) hm8.gB (.slice (some ⟨gq, 0, none⟩) (Pp.length + 1) cq)
              clear hownU hgr hli hl9 hbU hgg9 hbxu hm9 hm8 hcJ hbB hBB hszB hyy hown9 hA2 hb08 hul8 hgl8 hltu c4
              go_upto_region 16 with fail
              generalize u.setCell ⟨g, 4, none⟩ (.slice (some ⟨gq, 0, none⟩) (Pp.length + 1) cq) = w10 at *
              clear c4u z4u
              have hUl : (U.set k true).length = U.length := List.length_set
              have hl10 := hlist.below hbV hfl
              have hPP := hP.push (i := i) (k := k) (by have := HIM.out; omega) hin hkn
              have hB10 : B ≤ w10.heap.size := Nat.le_trans hBw hbV.size
              rw [← hUl] at hm10
              obtain ⟨bb, off, rfl, _, _, hpx⟩ := PGroup.elem hl10 hin
              obtain ⟨bb2, off2, hbb, _, _, hpz⟩ := PGroup.elem hl10 hkn
              obtain ⟨rfl, rfl⟩ : bb2 = bb ∧ off2 = off := by
                cases hbb; exact ⟨rfl, rfl⟩
              have hgx := GrpIn.of (groupsB_one hv hin)
              have hgz := GrpIn.of (groupsB_one hv hkn)
              have hwx : wTwo xs lvl i k = morG (sumG xs[i] xs[k] xs[i].id) lvl := by unfold wTwo morG; rw [getD_of_lt hin, getD_of_lt hkn]
              have hlim := HLIM.out
              have him := HIM.out
              generalize xs[i] = x at *
              generalize xs[k] = z at *
              have xl : w10.cell? ⟨g, 0, none⟩ = some (.slice (some ⟨bb2, off2, none⟩) xs.length cap) := hm10.bx.cell 0 _ rfl
              obtain ⟨x0, x1, x2, x3, x4, x5, x6⟩ := hpx
              obtain ⟨z0, z1, z2, z3, z4, z5, z6⟩ := hpz
              have him := Lib.hid him
              have gxl := cell_regrown xl
              have gx0 := cell_regrown x0
              have gx1 := cell_regrown x1
              have gx2 := cell_regrown x2
              have gx3 := cell_regrown x3
              have gx4 := cell_regrown x4
              have gx5 := cell_regrown x5
              have gx6 := cell_regrown x6
              have gz0 := cell_regrown z0
              have gz1 := cell_regrown z1
              have gz2 := cell_regrown z2
              have gz3 := cell_regrown z3
              have gz4 := cell_regrown z4
              have gz5 := cell_regrown z5
              have gz6 := cell_regrown z6
              refine wp_region_sink (C := fun w' => ∃ p : Regrown, w' = Go.Sort.grow (redrawn w10 p.d) p.os) [0, 1, 2, 3, 4, 5, 6, 7, 8, 9, 10, 11, 12, 13, 14, 15, 16, 17, 18, 19, 20, 21, 22, 23, 24, 25, 26] [true, true, true, true, true, true, true, true, true, true, true, true, true, true, true, true, true, true, true, true, true, true, true, true, true, false, false] 26 (by kernel_rfl) (by kernel_rfl) (by kernel_rfl) (fun _ _ d _ _ h => by cases d <;> exact h) (regrown_of_below (Below.drew (Below.refl _ _))) ?_
              simp only [List.map_cons, List.map_nil, List.getD_cons_zero, List.getD_cons_succ]
              have hS0 : Below (w10.heap.size) w10 w10.drew := Below.drew (Below.refl _ _)
              refine wpMixS_pure (by kernel_rfl) (fun K hK => ?_)
              go_big_quiet_op
              refine hK _ ?_; clear hK K
              refine wpMixS_pure (by kernel_rfl) (fun K hK => ?_)
              go_big_quiet_op
              refine hK _ ?_; clear hK K
              refine wpMixS_pure (by kernel_rfl) (fun K hK => ?_)
              go_big_quiet_op
              refine hK _ ?_; clear hK K
              refine wpMixS_pure (by kernel_rfl) (fun K hK => ?_)
              go_big_quiet_op
              refine hK _ ?_; clear hK K
              refine wpMixS_pure (by kernel_rfl) (fun K hK => ?_)
              go_big_quiet_op
              refine hK _ ?_; clear hK K
              refine wpMixS_pure (by kernel_rfl) (fun K hK => ?_)
              go_big_quiet_op
              refine hK _ ?_; clear hK K
              refine wpMixS_pure (by kernel_rfl) (fun K hK => ?_)
              go_big_quiet_op
              refine hK _ ?_; clear hK K
              refine wpMixS_pure (by kernel_rfl) (fun K hK => ?_)
              go_big_quiet_op
              refine hK _ ?_; clear hK K
              refine wpMixS_pure (by kernel_rfl) (fun K hK => ?_)
              go_big_quiet_op
              refine hK _ ?_; clear hK K
              refine wpMixS_pure (by kernel_rfl) (fun K hK => ?_)
              go_big_quiet_op
              refine hK _ ?_; clear hK K
              refine wpMixS_pure (by kernel_rfl) (fun K hK => ?_)
              go_big_quiet_op
              refine hK _ ?_; clear hK K
              refine wpMixS_pure (by kernel_rfl) (fun K hK => ?_)
              go_big_quiet_op
              refine hK _ ?_; clear hK K
              refine wpMixS_pure (by kernel_rfl) (fun K hK => ?_)
              go_big_quiet_op
              refine hK _ ?_; clear hK K
              refine wpMixS_pure (by kernel_rfl) (fun K hK => ?_)
              go_big_quiet_op
              refine hK _ ?_; clear hK K
              refine wpMixS_pure (by kernel_rfl) (fun K hK => ?_)
              go_big_quiet_op
              refine hK _ ?_; clear hK K
              refine wpMixS_pure (by kernel_rfl) (fun K hK => ?_)
              go_big_quiet_op
              refine hK _ ?_; clear hK K
              refine wpMixS_pure (by kernel_rfl) (fun K hK => ?_)
              go_big_quiet_op
              refine hK _ ?_; clear hK K
              refine wpMixS_pure (by kernel_rfl) (fun K hK => ?_)
              go_big_quiet_op
              refine hK _ ?_; clear hK K
              refine wpMixS_pure (by kernel_rfl) (fun K hK => ?_)
              go_big_quiet_op
              refine hK _ ?_; clear hK K
              refine wpMixS_pure (by kernel_rfl) (fun K hK => ?_)
              go_big_quiet_op
              refine hK _ ?_; clear hK K
              refine wpMixS_pure (by kernel_rfl) (fun K hK => ?_)
              go_big_quiet_op
              refine hK _ ?_; clear hK K
              refine wpMixS_pure (by kernel_rfl) (fun K hK => ?_)
              go_big_quiet_op
              refine hK _ ?_; clear hK K
              refine wpMixS_pure (by kernel_rfl) (fun K hK => ?_)
              go_big_quiet_op
              refine hK _ ?_; clear hK K
              refine wpMixS_pure (by kernel_rfl) (fun K hK => ?_)
              go_big_quiet_op
              refine hK _ ?_; clear hK K
              refine wpMixS_pure (by kernel_rfl) (fun K hK => ?_)
              go_big_quiet_op
              refine hK _ ?_; clear hK K
              refine wpMixS_act (by kernel_rfl) (fun K hK => ?_)
              go_big_op
              refine (with_any x z x.id w10.drew hgx hgz).mono ?_
              rintro e wr1 ⟨rfl, hbr1⟩
              have hbr1S : Below (w10.heap.size) w10 wr1 := hS0.trans (hbr1.mono hS0.size)
              refine hK _ _ (regrown_of_below hbr1S) ?_
              clear hK K
              refine wpMixS_last (by kernel_rfl) (fun K hK => ?_)
              go_big_op
              refine (ND.out (U.set k true) (Pp ++ [(i, k)]) T people b (sumG x z x.id) i _ him (hUl.trans hU) hPP (by rw [List.length_append]; show Pp.length + 1 + m' ≤ _; omega) hT.1 hT.2.1.1 hT.2.1.2 hrb (by omega) hp0 (by omega) hT.2.2 (sumG_ok hgx hgz hgx.id) (hl10.below ((hbr1S).mono hB10) hfl) ⟨_, _, _, _, _, _, hm10.below hbr1S⟩).mono ?_
              rintro e w11 ⟨rfl, b1, ⟨vp1, vb1, Vp1, Gp1, Vb1, Gb1, hm11⟩, hrb1, hlz, hT11, hb11⟩
              have hb12 := hbV.trans (((hbr1S).mono hB10).trans hb11)
              have hlb1 : -(9 * (m' : Int)) - ((k : Int) + 1 - i - 1) ≤ b1 := by split at hlz <;> omega
              try simp only [Act.put, List.setIfInBounds_toArray, List.set_cons_zero, List.set_cons_succ]
              refine hK _ _ ?_
              clear hK K
              have HC1 := HCh.out
              rw [hwx] at HC1
              generalize childF (visitF (wOne xs lvl) (wTwo xs lvl) xs.length m' (U.set k true) (Pp ++ [(i, k)])) (people + morG (sumG x z x.id) lvl) T = T1 at hm11 hT11 HC1 hrb1
              have HC2 := Lib.hid HC1
              have hlp : (Pp ++ [(i, k)]).length = Pp.length + 1 := by simp
              clear HCh HC1 hl10 hPP hm10 hbV hb11 hlz hwx hgx hgz hrb hlim gxl xl gx0 gx1 gx2 gx3 gx4 gx5 gx6 gz0 gz1 gz2 gz3 gz4 gz5 gz6 x0 x1 x2 x3 x4 x5 x6 z0 z1 z2 z3 z4 z5 z6
              obtain ⟨gp, cp, rfl, hcp1, hcp2⟩ : ∃ gp cp, vp1 = .slice (some ⟨gp, 0, none⟩) (Pp.length + 1) cp ∧ Pp.length + 1 ≤ cp ∧ cp ≤ 9223372036854775807 := by
                rcases hm11.pr.own.2 with ⟨_, h0⟩ | ⟨g', cap', cur, hv, _, _, h1, h2, _⟩
                · rw [hlp] at h0; omega
                · rw [hlp] at hv h1; exact ⟨g', cap', hv, h1, h2⟩
              rw [hUl] at hm11
              clear hlp hUl
              have c4 : w11.cell? ⟨g, 4, none⟩ = some (.slice (some ⟨gp, 0, none⟩) (Pp.length + 1) cp) := hm11.bx.cell 4 _ rfl
              have z4 := hm11.bx.frz 4 (by show 4 < 7; decide)
              have hPl8 : Pp.length ≤ 8 := by have := hP.1; omega
              have hcp3 : Pp.length ≤ cp := by omega
              go_wp2
              have gc4 := cell_regrown c4
              refine wp_region_sink (C := fun w' => ∃ p : Regrown, w' = Go.Sort.grow (redrawn w11 p.d) p.os) [0, 1, 2, 3, 4, 5, 6, 7, 8, 9, 10, 11, 12, 13, 14] [true, true, true, true, true, true, true, true, true, true, true, true, true, true, false] 14 (by kernel_rfl) (by kernel_rfl) (by kernel_rfl) (fun _ _ d _ _ h => by cases d <;> exact h) (regrown_of_below (Below.drew (Below.refl _ _))) ?_
              simp only [List.map_cons, List.map_nil, List.getD_cons_zero, List.getD_cons_succ]
              have hS0 : Below (w11.heap.size) w11 w11.drew := Below.drew (Below.refl _ _)
              refine wpMixS_pure (by kernel_rfl) (fun K hK => ?_)
              go_big_quiet_op
              refine hK _ ?_; clear hK K
              refine wpMixS_pure (by kernel_rfl) (fun K hK => ?_)
              go_big_quiet_op
              refine hK _ ?_; clear hK K
              refine wpMixS_pure (by kernel_rfl) (fun K hK => ?_)
              go_big_quiet_op
              refine hK _ ?_; clear hK K
              refine wpMixS_pure (by kernel_rfl) (fun K hK => ?_)
              go_big_quiet_op
              refine hK _ ?_; clear hK K
              refine wpMixS_pure (by kernel_rfl) (fun K hK => ?_)
              go_big_quiet_op
              refine hK _ ?_; clear hK K
              refine wpMixS_pure (by kernel_rfl) (fun K hK => ?_)
              go_big_quiet_op
              refine hK _ ?_; clear hK K
              refine wpMixS_pure (by kernel_rfl) (fun K hK => ?_)
              go_big_quiet_op
              refine hK _ ?_; clear hK K
              refine wpMixS_pure (by kernel_rfl) (fun K hK => ?_)
              go_big_quiet_op
              refine hK _ ?_; clear hK K
              refine wpMixS_pure (by kernel_rfl) (fun K hK => ?_)
              go_big_quiet_op
              refine hK _ ?_; clear hK K
              refine wpMixS_pure (by kernel_rfl) (fun K hK => ?_)
              go_big_quiet_op
              refine hK _ ?_; clear hK K
              refine wpMixS_pure (by kernel_rfl) (fun K hK => ?_)
              go_big_quiet_op
              refine hK _ ?_; clear hK K
              refine wpMixS_pure (by kernel_rfl) (fun K hK => ?_)
              go_big_quiet_op
              refine hK _ ?_; clear hK K
              refine wpMixS_pure (by kernel_rfl) (fun K hK => ?_)
              go_big_quiet_op
              refine hK _ ?_; clear hK K
              refine wpMixS_pure (by kernel_rfl) (fun K hK => ?_)
              go_big_quiet_op
              refine hK _ ?_; clear hK K
              refine wpMixS_last (by kernel_rfl) (fun K hK => ?_)
              go_big_op
              try simp only [Act.put, List.setIfInBounds_toArray, List.set_cons_zero, List.set_cons_succ]
              refine hK _ _ ?_
              clear hK K
              have hm12 := (hm11.below hS0).cut 4 rfl
              have hb13 := (hb12.trans (hS0.mono (Nat.le_trans hm11.gB (Nat.le_of_lt hm11.bx.lt)))).setCell (p := ⟨g, 4, none⟩) hm11.gB (.slice (some ⟨gp, 0, none⟩) Pp.length cp)
              clear hm11 gc4 c4 z4 hb12 hS0
              have hq7 : w11.drew.setCell ⟨g, 4, none⟩ (.slice (some ⟨gp, 0, none⟩) Pp.length cp) = (w11.setCell ⟨g, 4, none⟩ (.slice (some ⟨gp, 0, none⟩) Pp.length cp)).drew := rfl
              rw [hq7] at hm12 hb13
              clear hq7
              revert hm12 hb13
              generalize (w11.setCell ⟨g, 4, none⟩ (.slice (some ⟨gp, 0, none⟩) Pp.length cp)).drew = w12
              intro hm12 hb13
              have c3 : w12.cell? ⟨g, 3, none⟩ = some (.slice (some ⟨gu, 0, none⟩) U.length U.length) := hm12.bx.cell 3 _ rfl
              have ck : w12.cell? ⟨gu, k, none⟩ = some (.bool true) := hm12.us.cell _ _ (by rw [List.getElem?_map, List.getElem?_set_self hkU]; rfl)
              have zk := hm12.us.frz k (by simpa using hkU)
              have hm13 := hm12.mark k false
              rw [set_back hkU hgf] at hm13
              have hb14 := hb13.setCell (p := ⟨gu, k, none⟩) hm12.guB (.bool false)
              clear hm12 hb13
              go_wp2
              go_roundw
              case rel => exact ⟨k + 1, by omega, by omega, by go_num, T1, b1, HC2, hT11, ⟨_, _, _, _, _, _, hm13⟩, hrb1, Lib.hid (by omega), hb14⟩
              case measure => simp [intOf]; omega
            · rw [huk] at cu
              have hg : U.getD k false = true := by rw [getD_of_lt hkU]; exact huk
              have HS := Lib.hid ((foldK_skip (w2 := wTwo xs lvl) (g := visitF (wOne xs lvl) (wTwo xs lvl) xs.length m') (used := U) (pairs := Pp) (i := i) (people := people) (S := S) hg).trans HT.out)
              have HL2 := Lib.hid (show -(9 * (m' : Int)) - (((k + 1 : Nat) : Int) - i - 1) ≤ b by have := HLIM.out; omega)
              clear hg huk
              go_wp2
              go_roundw
              case rel => exact ⟨k + 1, by omega, by omega, by go_num, T, b, HS, hT, ⟨vp9, vb9, Vp9, Gp9, Vb9, Gb9, hm⟩, hrb, HL2, hbr⟩
              case measure => simp [intOf]; omega
          · obtain rfl : k = xs.length := by omega
            have c0 : wr.cell? ⟨g, 0, none⟩ = some (.slice A xs.length cap) := hm.bx.cell 0 _ rfl
            obtain ⟨bb, off, rfl, _, hok, hpx⟩ := PGroup.elem hlw hin
            have hwx : wOne xs lvl i = morG xs[i] lvl := by unfold wOne morG; rw [getD_of_lt hin, groupsB_one hv hin, Bool.true_and]
            have HC := Lib.hid (HN.out.trans (by rw [HT.out, hwx]))
            have hlim := HLIM.out
            have hnd := ND.out U Pp T people b xs[i] i _ HIM.out hU hP (by omega) hT.1 hT.2.1.1 hT.2.1.2 hrb (by omega) hp0 (by omega) hT.2.2 hok hlw ⟨_, _, _, _, _, _, hm⟩
            have HI2 := Lib.hid (show -(9 * (m : Int)) ≤ -(9 * (m' : Int)) - 9 ∧ (xs.length : Int) - i ≤ 8 from by omega)
            generalize xs[i] = x at *
            obtain ⟨x0, x1, x2, x3, x4, x5, x6⟩ := hpx
            clear HN HT hwx hm ND hok
            go_wp2_with fail
            refine hnd.mono ?_
            rintro e wz ⟨rfl, b', hmz, hrz, hlz, hSz, hBz⟩
            go_wp2
            refine bodyPost_end (results_none rfl _ _ _) rfl ?_
            have hI2 := HI2.out
            exact ⟨rfl, b', by rw [HC.out]; exact hmz, by rw [HC.out]; exact hrz, by split at hlz <;> omega, by rw [HC.out]; exact hSz, hbr.trans hBz⟩
      · rw [hu] at cu
        have hg : U.getD (xs.length - (m' + 1)) false = true := by rw [getD_of_lt hi]; exact hu
        have HS := Lib.hid (HV.out.trans (visitF_skip hg))
        have e9 : xs.length - (m' + 1) + 1 = xs.length - m' := by omega
        have e8 : ((xs.length - (m' + 1) : Nat) : Int) + 1 = ((xs.length - m' : Nat) : Int) := by omega
        have hlt : ((xs.length - (m' + 1) : Nat) : Int) < (xs.length : Int) := by omega
        go_wp2
        go_round
        case rel => exact ⟨m', by omega, by first | rfl | (congr 1; omega) | go_num, HS⟩
        case measure => simp [intOf]; omega
end Go.Proofs.Ytjfaafoldllppaa
