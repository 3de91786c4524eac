
/- BestPairs, both sides. By hand. -/
import Derived.Test.YtjfaafoldllppaaRy
import Derived.Test.YtjfaafoldllppaaGg
namespace Go.Proofs.Ytjfaafoldllppaa
open Go.RowKit
set_option linter.unusedVariables false
set_option linter.unusedSimpArgs false

def bpT (xs : List DGroup) (lvl bud : Int) : Sr := visitF (wOne xs lvl) (wTwo xs lvl) xs.length xs.length (List.replicate xs.length false) [] 0 ⟨[], -1, bud⟩
structure BpA where
  ps : List (Nat × Nat)
  most : Int
  code : Int
def bpR (xs : List DGroup) (lvl bud : Int) : BpA :=
  if groupsB xs = false then ⟨[], 0, 1⟩ else if (levelB lvl && inB bud 1 20000) = false then ⟨[], 0, 2⟩ else if (bpT xs lvl bud).c < 0 then ⟨[], 0, 5⟩ else ⟨(bpT xs lvl bud).best, (bpT xs lvl bud).most, 0⟩
def bpF (xs : List DGroup) (lvl bud : Int) : List (List Int) := (bpR xs lvl bud).ps.map prL
def bpM (xs : List DGroup) (lvl bud : Int) : Int := (bpR xs lvl bud).most
def bpC (xs : List DGroup) (lvl bud : Int) : Int := (bpR xs lvl bud).code
def BpR (w : World) (xs : List DGroup) (lvl bud : Int) (e : Ending) (w' : World) : Prop := ∃ v, e = .returned (.tuple #[v, .int .i64 (bpM xs lvl bud), .int .i64 (bpC xs lvl bud)]) ∧ New fInt.cod.slice w v (bpF xs lvl bud) w'
theorem BpR.mk' {w w' : World} {xs : List DGroup} {lvl bud : Int} {v : Value} {a : BpA} (h : bpR xs lvl bud = a) (hn : New fInt.cod.slice w v (a.ps.map prL) w') : BpR w xs lvl bud (.returned (.tuple #[v, .int .i64 a.most, .int .i64 a.code])) w' := by
  subst h; exact ⟨v, rfl, hn⟩
theorem bpR_1 {xs : List DGroup} {lvl bud : Int} (h : groupsB xs = false) : bpR xs lvl bud = ⟨[], 0, 1⟩ := by unfold bpR; rw [if_pos h]
theorem bpR_2 {xs : List DGroup} {lvl bud : Int} (h : groupsB xs = true) (h2 : (levelB lvl && inB bud 1 20000) = false) : bpR xs lvl bud = ⟨[], 0, 2⟩ := by unfold bpR; rw [if_neg (by rw [h]; decide), if_pos h2]
theorem bpR_3 {xs : List DGroup} {lvl bud : Int} (h : groupsB xs = true) (h2 : (levelB lvl && inB bud 1 20000) = true) (h3 : (bpT xs lvl bud).c < 0) : bpR xs lvl bud = ⟨[], 0, 5⟩ := by unfold bpR; rw [if_neg (by rw [h]; decide), if_neg (by rw [h2]; decide), if_pos h3]
theorem bpR_4 {xs : List DGroup} {lvl bud : Int} (h : groupsB xs = true) (h2 : (levelB lvl && inB bud 1 20000) = true) (h3 : ¬ (bpT xs lvl bud).c < 0) : bpR xs lvl bud = ⟨(bpT xs lvl bud).best, (bpT xs lvl bud).most, 0⟩ := by unfold bpR; rw [if_neg (by rw [h]; decide), if_neg (by rw [h2]; decide), if_neg h3]
theorem madeB_list (n : Nat) : madeCells #[Value.bool false] n = ((List.replicate n false).map Value.bool).toArray := by
  have e2 : (madeCells #[Value.bool false] n).toList = List.replicate n (Value.bool false) := by
    unfold madeCells
    rw [Array.toList_map, Array.toList_range]
    refine List.ext_getElem (by simp) (fun i h1 h2 => ?_)
    simp [Nat.mod_one]
  rw [List.map_replicate, ← e2]
theorem pg_nil {w : World} {B : Nat} {v : Value} (hv : w.ownsRow B 50 1 v 0 []) : PgW w B v ([] : List (Nat × Nat)).length (fun _ => undef) (rowX []) (fun _ => 0) :=
  (PgW.nil (c := 0) hv).congr (fun i hi => absurd hi (Nat.not_lt_zero i))
theorem inPg_nil0 {b : Nat} : ¬ inPg (.slice none 0 0) ([] : List (Nat × Nat)).length (fun _ => 0) b := fun h => by
  rcases h with h | ⟨i, hi, _⟩
  · cases h
  · exact absurd hi (Nat.not_lt_zero i)
theorem best_new {w w' : World} {B : Nat} {v : Value} {V : Nat → Value} {G : Nat → Nat} {P : List (Nat × Nat)} (h : PgW w' B v P.length V (rowX P) G) (hs : Small P) (hB : w.heap.size ≤ B) (hb : Below w.heap.size w w') : New fInt.cod.slice w v (P.map prL) w' := by
  obtain ⟨fp, h1, h2, h3⟩ := h.sl (xss := P.map prL) (by
    refine List.ext_getElem (by simp) (fun i h1 h2 => ?_)
    rw [List.getElem_map, List.getElem_map, List.getElem_range]
    exact (rowX_pr (by simpa using h1)).symm) (fun i _ => rowX_ok hs.2 i)
  exact ⟨⟨fp, h1, fun b hb => Nat.le_trans hB (h2 b hb), h3⟩, hb⟩
theorem infoBoolR : (Try.prog.info? 4).map (fun i => (i.zero, i.size, i.bytes)) = some (some (.bool false), 1, 1) := by kernel_rfl
theorem mkB (n : Nat) (hn : n ≤ 1000) (W : World) : (Instr.makeSlice 59 (.int .i64 (n : Nat)) (.int .i64 (n : Nat))).run Try.prog W = .ok (.slice (some ⟨W.heap.size, 0, none⟩) n n) (W.alloc (.cells (madeCells #[Value.bool false] n) 4)) := by
  obtain ⟨k0, hk0, hb0', hb1', hb2'⟩ := info_parts infoBoolR
  have h := run_make_rowN (P := Try.prog) 59 4 k0 _ Try.underlying59 hk0 hb0' .i64 .i64 n n (Nat.le_refl _) (by rw [hb2']; omega) (by omega) W
  rw [hb1', Nat.mul_one] at h
  exact h
set_option maxRecDepth 100000 in
set_option maxHeartbeats 400000 in
theorem l22Budget_any (a : Int) (w : World) : Calls Try.prog 27 #[.int .i64 a] w fun e w' => e = .returned (.bool (inB a 1 20000)) ∧ w = w' := by
  go_enter Try.func27, Try.ntmps27
  go_wp2_with fail
  refine (l00InB_any _ _ _ _).mono ?_
  rintro e w' ⟨rfl, rfl⟩
  go_wp2
  go_ret
  exact ⟨rfl, rfl⟩
set_option maxRecDepth 100000 in
set_option maxHeartbeats 400000 in
theorem budgetValidG_any (a : Int) (w : World) : Calls Try.prog 32 #[.int .i64 a] w fun e w' => e = .returned (.bool (inB a 1 20000)) ∧ w = w' := by
  go_enter Try.func32, Try.ntmps32
  go_wp2_with (go_at_call 44; refine (withinB_any _ _ _ _).mono ?_; rintro e w' ⟨rfl, rfl⟩)
  go_ret
  exact ⟨rfl, rfl⟩
set_option maxRecDepth 100000 in
set_option maxHeartbeats 8000000 in
theorem specBestPairs_any (v : Value) (xs : List DGroup) (fp : List Nat) (lvl bud : Int) (w : World) (hx : Sl fGroup.cod w v xs fp) :
    Calls Try.prog 6 #[v, .int .i64 lvl, .int .i64 bud] w fun e w' => BpR w xs lvl bud e w' := by
  have hlt0 := hx.lt
  obtain ⟨A, cap, rfl, _, _⟩ := hx.form
  go_enter Try.func6, Try.ntmps6
  go_wp2_with fail
  refine (l24Ok_any _ _ _ _ hx).mono ?_
  rintro e w1 ⟨rfl, hb1⟩
  cases h0 : groupsB xs
  · have HA := Lib.hid (bpR_1 (lvl := lvl) (bud := bud) h0)
    go_wp2
    refine bodyPost_ret (v := .tuple #[.slice none 0 0, .int .i64 0, .int .i64 1]) (by simp [results, Try.results6, go_sem]) rfl ?_
    exact BpR.mk' HA.out (New.nil hb1)
  have hx1 := hx.below' hb1
  go_wp2_with fail
  refine (l17Is_any _ _).mono ?_
  rintro e w' ⟨rfl, rfl⟩
  cases h1 : levelB lvl
  · have HA := Lib.hid (bpR_2 (lvl := lvl) (bud := bud) h0 (by rw [h1]; rfl))
    go_wp2
    refine bodyPost_ret (v := .tuple #[.slice none 0 0, .int .i64 0, .int .i64 2]) (by simp [results, Try.results6, go_sem]) rfl ?_
    exact BpR.mk' HA.out (New.nil hb1)
  go_wp2_with fail
  refine (l22Budget_any _ _).mono ?_
  rintro e w' ⟨rfl, rfl⟩
  cases h2 : inB bud 1 20000
  · have HA := Lib.hid (bpR_2 (lvl := lvl) (bud := bud) h0 (by rw [h1, h2]; rfl))
    go_wp2
    refine bodyPost_ret (v := .tuple #[.slice none 0 0, .int .i64 0, .int .i64 2]) (by simp [results, Try.results6, go_sem]) rfl ?_
    exact BpR.mk' HA.out (New.nil hb1)
  have hbu := inB_true.1 h2
  have hn8 := groupsB_len h0
  have hmk := mkB xs.length (by omega)
  have HL := Lib.hid (show (levelB lvl && inB bud 1 20000) = true by rw [h1, h2]; rfl)
  have H0 := Lib.hid h0
  clear h1 h2 h0
  have hU := BoxL.new w1 ((List.replicate xs.length false).map Value.bool) 4 (madeCells #[Value.bool false] xs.length) (madeB_list _)
  have hA1 : Below w1.heap.size w1 (w1.alloc (.cells (madeCells #[Value.bool false] xs.length) 4)) := (Below.refl _ _).alloc (Nat.le_refl _) _
  have hA2 := hA1.alloc hA1.size (.cells #[] 50)
  have hz2 : ((w1.alloc (.cells (madeCells #[Value.bool false] xs.length) 4)).alloc (.cells #[] 50)).heap.size = w1.heap.size + 2 := by simp
  have hO : ((w1.alloc (.cells (madeCells #[Value.bool false] xs.length) 4)).alloc (.cells #[] 50)).ownsRow w1.heap.size 50 1 (.slice (some ⟨w1.heap.size + 1, 0, none⟩) 0 0) 0 [] := by
    have h := Own.lit0m fInt (w := w1.alloc (.cells (madeCells #[Value.bool false] xs.length) 4)) (base := w1.heap.size) hA1.size (e := 50)
    rw [World.size_alloc] at h
    exact h
  have hU2 := hU.below ((Below.refl _ _).alloc (Nat.le_refl _) (.cells #[] 50))
  have e1 : (if bud < 0 then bud else bud - bud) = 0 := by rw [if_neg (by omega)]; omega
  have e2 : decide (bud < 0) = false := decide_eq_false (by omega)
  generalize hW : (w1.alloc (.cells (madeCells #[Value.bool false] xs.length) 4)).alloc (.cells #[] 50) = W2 at *
  have hbx := BoxL.new W2 (boxS (.slice A xs.length cap) lvl w1.heap.size xs.length bud bud (-1) (.slice none 0 0) (.slice (some ⟨w1.heap.size + 1, 0, none⟩) 0 0)) 61 #[.slice A xs.length cap, .int .i64 lvl, .slice (some ⟨w1.heap.size, 0, none⟩) xs.length xs.length, .slice none 0 0, .slice (some ⟨w1.heap.size + 1, 0, none⟩) 0 0, .int .i64 (-1), .int .i64 0, .int .i64 bud, .bool false] (by unfold boxS; rw [e1, e2])
  have hA3 : Below W2.heap.size W2 (W2.alloc (.cells #[.slice A xs.length cap, .int .i64 lvl, .slice (some ⟨w1.heap.size, 0, none⟩) xs.length xs.length, .slice none 0 0, .slice (some ⟨w1.heap.size + 1, 0, none⟩) 0 0, .int .i64 (-1), .int .i64 0, .int .i64 bud, .bool false] 61)) := (Below.refl _ _).alloc (Nat.le_refl _) _
  have hM : SMem (W2.alloc (.cells #[.slice A xs.length cap, .int .i64 lvl, .slice (some ⟨w1.heap.size, 0, none⟩) xs.length xs.length, .slice none 0 0, .slice (some ⟨w1.heap.size + 1, 0, none⟩) 0 0, .int .i64 (-1), .int .i64 0, .int .i64 bud, .bool false] 61)) w1.heap.size (w1.heap.size + 2) w1.heap.size (boxS (.slice A xs.length cap) lvl w1.heap.size xs.length bud bud (-1)) (List.replicate xs.length false) [] [] (.slice none 0 0) (.slice (some ⟨w1.heap.size + 1, 0, none⟩) 0 0) (fun _ => undef) (fun _ => 0) (fun _ => undef) (fun _ => 0) := by
    refine ⟨?_, hU2.below hA3, pg_nil (World.ownsRow_nil _ _ _ _), (pg_nil hO).below hA3, by omega, Nat.le_refl _, by omega, fun b hb => absurd hb inPg_nil0, fun b hb => ?_⟩
    · rw [hz2] at hbx; exact hbx
    · rcases hb with hb | ⟨i, hi, _⟩
      · have e : w1.heap.size + 1 = b := by injection hb
        omega
      · exact absurd hi (Nat.not_lt_zero i)
  have hb13 : Below w1.heap.size w1 (W2.alloc (.cells #[.slice A xs.length cap, .int .i64 lvl, .slice (some ⟨w1.heap.size, 0, none⟩) xs.length xs.length, .slice none 0 0, .slice (some ⟨w1.heap.size + 1, 0, none⟩) 0 0, .int .i64 (-1), .int .i64 0, .int .i64 bud, .bool false] 61)) := hA2.trans (hA3.mono (by rw [hz2]; omega))
  subst hW
  clear hbx hU2 hU hA1 hA2 hA3 hO e1 e2
  have hx3 := hx1.below' hb13
  have hrun := specRun_any xs H0.out w1.heap.size (w1.heap.size + 2) w1.heap.size (.slice A xs.length cap) fp (fun b hb => Nat.lt_of_lt_of_le (hlt0 b hb) hb1.size) lvl bud ⟨by omega, by omega⟩ xs.length (List.replicate xs.length false) [] ⟨[], -1, bud⟩ 0 _ (Nat.le_refl _) List.length_replicate ⟨Nat.zero_le _, fun q hq => by cases hq⟩ (by simp) ⟨Nat.zero_le _, fun q hq => by cases hq⟩ (by show -1 ≤ bud; omega) (Int.le_refl _) (Int.le_refl _) (by omega) (by show (-1 : Int) ≤ -1 ∧ (-1 : Int) ≤ 100000; decide) hx3 (by
    rw [← List.length_replicate (n := xs.length) (a := false)] at hM
    exact ⟨_, _, _, _, _, _, by simpa using hM⟩)
  rw [Nat.sub_self] at hrun
  clear hM hx1
  go_wp2_with fail
  refine hrun.mono ?_
  rintro e w4 ⟨rfl, ⟨vp, vb, Vp, Gp, Vb, Gb, hm⟩, hT, hb4⟩
  have hw4 := hb1.trans ((hb13.trans hb4).mono hb1.size)
  have hT3 := fun h => bpR_3 (xs := xs) (lvl := lvl) (bud := bud) H0.out HL.out h
  have hT4 := fun h => bpR_4 (xs := xs) (lvl := lvl) (bud := bud) H0.out HL.out h
  unfold bpT at hT3 hT4
  clear hrun hb13 hb4 hmk hz2
  generalize visitF (wOne xs lvl) (wTwo xs lvl) xs.length xs.length (List.replicate xs.length false) [] 0 ⟨[], -1, bud⟩ = T at *
  have c8 : w4.cell? ⟨w1.heap.size + 2, 8, none⟩ = some (.bool (decide (T.c < 0))) := hm.bx.cell 8 _ rfl
  have c4 : w4.cell? ⟨w1.heap.size + 2, 4, none⟩ = some vb := hm.bx.cell 4 _ rfl
  have c5 : w4.cell? ⟨w1.heap.size + 2, 5, none⟩ = some (.int .i64 T.most) := hm.bx.cell 5 _ rfl
  by_cases hc : T.c < 0
  · have HA := Lib.hid (hT3 hc)
    rw [decide_eq_true hc] at c8
    clear hT3 hT4 hc
    go_wp2
    refine bodyPost_ret (v := .tuple #[.slice none 0 0, .int .i64 0, .int .i64 5]) (by simp [results, Try.results6, go_sem]) rfl ?_
    exact BpR.mk' HA.out (New.nil hw4)
  · have HA := Lib.hid (hT4 hc)
    rw [decide_eq_false hc] at c8
    have hpr := hm.bs
    have hsm := hT.1.small hn8
    clear hT3 hT4 hc hm
    go_wp2
    go_quiet (fail)
    go_wp2
    refine bodyPost_ret (v := .tuple #[vb, .int .i64 T.most, .int .i64 0]) (by simp [results, Try.results6, go_sem]) rfl ?_
    exact BpR.mk' HA.out (best_new (hpr.below (below_drewN (Below.refl _ _) _)) hsm hb1.size (hw4.trans (by repeat (first | exact Below.refl _ _ | assumption | refine Below.alloc ?_ (by first | omega | (simp <;> omega)) _ | refine Below.setCell ?_ (by first | (show _ ≤ _; omega) | (simp <;> omega)) _ | refine Below.drew ?_ | refine below_drewN ?_ _))))
theorem BoxL.stored {w : World} {b : Nat} {zs vs : List Value} (h : BoxL w b zs) (hl : zs.length = vs.length) : BoxL (w.setCells b 0 vs) b vs := by
  have hth : w.there b 0 vs.length := fun j hj => by
    rw [Nat.zero_add]
    exact ⟨isSome_of (h.cell j _ (List.getElem?_eq_getElem (by omega))), h.frz j (by omega)⟩
  have hr := World.rangeAt_setCells_same w b 0 vs hth
  refine ⟨fun j v hv => ?_, fun j hj => ?_, Nat.lt_of_lt_of_le h.lt (belowSetCells (Nat.le_refl b) vs 0 w).size⟩
  · have := hr j v hv
    rw [Nat.zero_add] at this; exact this
  · rw [World.frozen?_setCells]; exact h.frz j (by omega)
theorem BoxL.there {w : World} {b : Nat} {zs : List Value} (h : BoxL w b zs) : w.there b 0 zs.length := fun j hj => by
  rw [Nat.zero_add]
  exact ⟨isSome_of (h.cell j _ (List.getElem?_eq_getElem hj)), h.frz j hj⟩
theorem BoxL.other {w w' : World} {b B : Nat} {zs : List Value} (h : BoxL w b zs) (hb : Below B w w') (hB : b < B) : BoxL w' b zs := h.keep (hb.block b hB) hb.size
set_option maxRecDepth 100000 in
set_option maxHeartbeats 8000000 in
theorem implBestPairs_any (v : Value) (xs : List DGroup) (fp : List Nat) (lvl bud : Int) (w : World) (hx : Sl fGroup.cod w v xs fp) :
    Calls Try.prog 8 #[v, .int .i64 lvl, .int .i64 bud] w fun e w' => BpR w xs lvl bud e w' := by
  have hlt0 := hx.lt
  obtain ⟨A, cap, rfl, _, _⟩ := hx.form
  go_enter Try.func8, Try.ntmps8
  go_wp2_with fail
  refine (validGroups_any _ _ _ _ hx).mono ?_
  rintro e w1 ⟨rfl, hb1⟩
  cases h0 : groupsB xs
  · have HA := Lib.hid (bpR_1 (lvl := lvl) (bud := bud) h0)
    go_wp2
    refine bodyPost_ret (v := .tuple #[.slice none 0 0, .int .i64 0, .int .i64 1]) (by simp [results, Try.results8, go_sem]) rfl ?_
    exact BpR.mk' HA.out (New.nil hb1)
  have hx1 := hx.below' hb1
  go_wp2_with fail
  refine (levelOk_any _ _).mono ?_
  rintro e w' ⟨rfl, rfl⟩
  cases h1 : levelB lvl
  · have HA := Lib.hid (bpR_2 (lvl := lvl) (bud := bud) h0 (by rw [h1]; rfl))
    go_wp2
    refine bodyPost_ret (v := .tuple #[.slice none 0 0, .int .i64 0, .int .i64 2]) (by simp [results, Try.results8, go_sem]) rfl ?_
    exact BpR.mk' HA.out (New.nil hb1)
  go_wp2_with fail
  refine (budgetValidG_any _ _).mono ?_
  rintro e w' ⟨rfl, rfl⟩
  cases h2 : inB bud 1 20000
  · have HA := Lib.hid (bpR_2 (lvl := lvl) (bud := bud) h0 (by rw [h1, h2]; rfl))
    go_wp2
    refine bodyPost_ret (v := .tuple #[.slice none 0 0, .int .i64 0, .int .i64 2]) (by simp [results, Try.results8, go_sem]) rfl ?_
    exact BpR.mk' HA.out (New.nil hb1)
  have hbu := inB_true.1 h2
  have hn8 := groupsB_len h0
  have hmk := mkB xs.length (by omega)
  have HL := Lib.hid (show (levelB lvl && inB bud 1 20000) = true by rw [h1, h2]; rfl)
  have H0 := Lib.hid h0
  clear h1 h2 h0
  have hU := BoxL.new w1 ((List.replicate xs.length false).map Value.bool) 4 (madeCells #[Value.bool false] xs.length) (madeB_list _)
  have hA1 : Below w1.heap.size w1 (w1.alloc (.cells (madeCells #[Value.bool false] xs.length) 4)) := (Below.refl _ _).alloc (Nat.le_refl _) _
  have hz1 : (w1.alloc (.cells (madeCells #[Value.bool false] xs.length) 4)).heap.size = w1.heap.size + 1 := by simp
  have hbz := BoxL.new (w1.alloc (.cells (madeCells #[Value.bool false] xs.length) 4)) [.slice none 0 0, .int .i64 0, .int .i64 0, .slice none 0 0, .slice none 0 0, .slice none 0 0, .int .i64 0] 65 #[.slice none 0 0, .int .i64 0, .int .i64 0, .slice none 0 0, .slice none 0 0, .slice none 0 0, .int .i64 0] rfl
  rw [hz1] at hbz
  have hU2 := hU.below ((Below.refl _ _).alloc (Nat.le_refl _) (.cells #[.slice none 0 0, .int .i64 0, .int .i64 0, .slice none 0 0, .slice none 0 0, .slice none 0 0, .int .i64 0] 65))
  have hA2 := hA1.alloc hA1.size (.cells #[.slice none 0 0, .int .i64 0, .int .i64 0, .slice none 0 0, .slice none 0 0, .slice none 0 0, .int .i64 0] 65)
  have hth := hbz.there
  have hbx := hbz.stored (vs := boxI (.slice A xs.length cap) lvl w1.heap.size xs.length bud (-1) (.slice none 0 0) (.slice none 0 0)) rfl
  have hA3 := belowSetCells (B := w1.heap.size + 1) (g := w1.heap.size + 1) (Nat.le_refl _) (boxI (.slice A xs.length cap) lvl w1.heap.size xs.length bud (-1) (.slice none 0 0) (.slice none 0 0)) 0 ((w1.alloc (.cells (madeCells #[Value.bool false] xs.length) 4)).alloc (.cells #[.slice none 0 0, .int .i64 0, .int .i64 0, .slice none 0 0, .slice none 0 0, .slice none 0 0, .int .i64 0] 65))
  have hM : SMem (((w1.alloc (.cells (madeCells #[Value.bool false] xs.length) 4)).alloc (.cells #[.slice none 0 0, .int .i64 0, .int .i64 0, .slice none 0 0, .slice none 0 0, .slice none 0 0, .int .i64 0] 65)).setCells (w1.heap.size + 1) 0 (boxI (.slice A xs.length cap) lvl w1.heap.size xs.length bud (-1) (.slice none 0 0) (.slice none 0 0))) w1.heap.size (w1.heap.size + 1) w1.heap.size (boxI (.slice A xs.length cap) lvl w1.heap.size xs.length bud (-1)) (List.replicate xs.length false) [] [] (.slice none 0 0) (.slice none 0 0) (fun _ => undef) (fun _ => 0) (fun _ => undef) (fun _ => 0) :=
    ⟨hbx, hU2.other hA3 (by omega), pg_nil (World.ownsRow_nil _ _ _ _), pg_nil (World.ownsRow_nil _ _ _ _), by omega, Nat.le_refl _, by omega, fun b hb => absurd hb inPg_nil0, fun b hb => absurd hb inPg_nil0⟩
  have hb13 := hA2.trans (hA3.mono (show w1.heap.size ≤ w1.heap.size + 1 by omega))
  clear hbx hU2 hU hA1 hA2 hA3 hbz
  unfold boxI at hb13
  unfold boxI at hM
  have hall := visitI_any xs H0.out w1.heap.size (w1.heap.size + 1) w1.heap.size (.slice A xs.length cap) fp (fun b hb => Nat.lt_of_lt_of_le (hlt0 b hb) hb1.size) lvl bud ⟨by omega, by omega⟩ xs.length
  go_upto_region 5 with fail
  have hthW : ∀ W : World, W = (w1.alloc (.cells (madeCells #[Value.bool false] xs.length) 4)).alloc (.cells #[.slice none 0 0, .int .i64 0, .int .i64 0, .slice none 0 0, .slice none 0 0, .slice none 0 0, .int .i64 0] 65) → W.there (w1.heap.size + 1) 0 7 := fun W h => by subst h; exact hth
  clear hth
  go_wp2_with (refine wpList_store_mid rfl 65 _ _ rfl (w1.heap.size + 1) 0 #[.slice A xs.length cap, .int .i64 lvl, .int .i64 bud, .slice (some ⟨w1.heap.size, 0, none⟩) xs.length xs.length, .slice none 0 0, .slice none 0 0, .int .i64 (-1)] rfl rfl (hthW _ (by with_reducible rfl)) (by kernel_rfl) (by kernel_rfl) ?_)
  generalize ((w1.alloc (.cells (madeCells #[Value.bool false] xs.length) 4)).alloc (.cells #[.slice none 0 0, .int .i64 0, .int .i64 0, .slice none 0 0, .slice none 0 0, .slice none 0 0, .int .i64 0] 65)).setCells (w1.heap.size + 1) 0 [.slice A xs.length cap, .int .i64 lvl, .int .i64 bud, .slice (some ⟨w1.heap.size, 0, none⟩) xs.length xs.length, .slice none 0 0, .slice none 0 0, .int .i64 (-1)] = W3 at hM hb13 ⊢
  clear hthW hz1 hmk
  have hx3 := hx1.below' hb13
  have hrun := hall (List.replicate xs.length false) [] ⟨[], -1, bud⟩ 0 W3 (Nat.le_refl _) List.length_replicate ⟨Nat.zero_le _, fun q hq => by cases hq⟩ (by simp) ⟨Nat.zero_le _, fun q hq => by cases hq⟩ (by show 0 ≤ bud; omega) (Int.le_refl _) (Int.le_refl _) (by omega) (by show (-1 : Int) ≤ -1 ∧ (-1 : Int) ≤ 100000; decide) hx3 ⟨_, _, _, _, _, _, by rw [List.length_replicate]; exact hM⟩
  rw [Nat.sub_self] at hrun
  clear hM hx1 hall
  refine hrun.mono ?_
  rintro e w4 ⟨rfl, b, ⟨vp, vb, Vp, Gp, Vb, Gb, hm⟩, hrb, hlb, hT, hb4⟩
  have hw4 := hb1.trans ((hb13.trans hb4).mono hb1.size)
  have hT3 := fun h => bpR_3 (xs := xs) (lvl := lvl) (bud := bud) H0.out HL.out h
  have hT4 := fun h => bpR_4 (xs := xs) (lvl := lvl) (bud := bud) H0.out HL.out h
  unfold bpT at hT3 hT4
  clear hrun hb13 hb4 hlb
  generalize visitF (wOne xs lvl) (wTwo xs lvl) xs.length xs.length (List.replicate xs.length false) [] 0 ⟨[], -1, bud⟩ = T at *
  have c2 : w4.cell? ⟨w1.heap.size + 1, 2, none⟩ = some (.int .i64 b) := hm.bx.cell 2 _ rfl
  have c5 : w4.cell? ⟨w1.heap.size + 1, 5, none⟩ = some vb := hm.bx.cell 5 _ rfl
  have c6 : w4.cell? ⟨w1.heap.size + 1, 6, none⟩ = some (.int .i64 T.most) := hm.bx.cell 6 _ rfl
  by_cases hc : T.c < 0
  · have HA := Lib.hid (hT3 hc)
    have hbneg : b < 0 := hrb.2 hc
    clear hT3 hT4 hc hrb
    go_wp2
    refine bodyPost_ret (v := .tuple #[.slice none 0 0, .int .i64 0, .int .i64 5]) (by simp [results, Try.results8, go_sem]) rfl ?_
    exact BpR.mk' HA.out (New.nil hw4)
  · have HA := Lib.hid (hT4 hc)
    have hbpos : 0 ≤ b := by have := hrb.1 (by omega); omega
    have hpr := hm.bs
    have hsm := hT.1.small hn8
    clear hT3 hT4 hc hm hrb
    go_wp2
    go_quiet (fail)
    go_wp2
    refine bodyPost_ret (v := .tuple #[vb, .int .i64 T.most, .int .i64 0]) (by simp [results, Try.results8, go_sem]) rfl ?_
    exact BpR.mk' HA.out (best_new (hpr.below (below_drewN (Below.refl _ _) _)) hsm hb1.size (hw4.trans (by repeat (first | exact Below.refl _ _ | assumption | refine Below.alloc ?_ (by first | omega | (simp <;> omega)) _ | refine Below.setCell ?_ (by first | (show _ ≤ _; omega) | (simp <;> omega)) _ | refine Below.drew ?_ | refine below_drewN ?_ _))))
end Go.Proofs.Ytjfaafoldllppaa
