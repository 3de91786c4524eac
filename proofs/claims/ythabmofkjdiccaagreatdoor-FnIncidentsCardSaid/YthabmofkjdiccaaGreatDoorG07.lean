/- Parts of the proof: Rv, Ri, Su, Sb2, Cb, TGroup, PGroup, Gr, Qd, Sc, Rw. -/
import Derived.Test.YthabmofkjdiccaaGreatDoorG06
import Derived.Test.YthabmofkjdiccaaGreatDoorG05
import Derived.Test.YthabmofkjdiccaaGreatDoorG04
import Derived.Test.YthabmofkjdiccaaGreatDoorG01
import Derived.Test.YthabmofkjdiccaaGreatDoorG02
namespace Go.Proofs.YthabmofkjdiccaaGreatDoor
open Go.RowKit
set_option linter.unusedVariables false

def v00 : DVerified := ⟨0, 0, 0⟩
def vAg (x : DVerified) : Value := .agg #[.int .i64 x.day, .int .i64 x.told, .int .i64 x.seen]
def rvX (s : ByteArray) (d : Int) : DVerified := ⟨d, (numK 2 (cZ s)).getD 0 0, (numK 2 (cZ s)).getD 1 0⟩
def rvF (s : ByteArray) : Option DVerified := if oneK 2 (cZ s) then (match rdF (cA s) with | some d => if verB (rvX s d) then some (rvX s d) else none | none => none) else none
def VRet (s : ByteArray) (e : Ending) : Prop := e = .returned (.tuple #[vAg ((rvF s).getD v00), .bool (rvF s).isSome])
theorem VRet.no {s : ByteArray} (h : rvF s = none) : VRet s (.returned (.tuple #[vAg v00, .bool false])) := by unfold VRet; rw [h]; rfl
theorem VRet.yes {s : ByteArray} {x : DVerified} (h : rvF s = some x) : VRet s (.returned (.tuple #[vAg x, .bool true])) := by unfold VRet; rw [h]; rfl
theorem rvF_one {s : ByteArray} (h : oneK 2 (cZ s) = false) : rvF s = none := by unfold rvF; rw [h]; rfl
theorem rvF_day {s : ByteArray} (h : rdF (cA s) = none) : rvF s = none := by unfold rvF; rw [h]; split <;> rfl
theorem rvF_bad {s : ByteArray} {d p q : Int} (h : numK 2 (cZ s) = [p, q]) (hd : rdF (cA s) = some d) (hv : verB ⟨d, p, q⟩ = false) : rvF s = none := by
  have e : rvX s d = ⟨d, p, q⟩ := by unfold rvX; rw [h]; rfl
  unfold rvF; rw [hd]; simp only [e, hv]; split <;> rfl
theorem rvF_yes {s : ByteArray} {d p q : Int} (h1 : oneK 2 (cZ s) = true) (h : numK 2 (cZ s) = [p, q]) (hd : rdF (cA s) = some d) (hv : verB ⟨d, p, q⟩ = true) : rvF s = some ⟨d, p, q⟩ := by
  have e : rvX s d = ⟨d, p, q⟩ := by unfold rvX; rw [h]; rfl
  unfold rvF; rw [hd]; simp only [e, hv, h1]; rfl
theorem num2_ab (b : ByteArray) : ∃ p q, numK 2 b = [p, q] := by
  have h := numK_len 2 b
  match hn : numK 2 b, h with
  | [p, q], _ => exact ⟨p, q, rfl⟩
structure BoxV (w : World) (g : Nat) : Prop where
  d0 : w.cell? ⟨g, 0, none⟩ = some (.int .i64 0)
  d1 : w.cell? ⟨g, 1, none⟩ = some (.int .i64 0)
  d2 : w.cell? ⟨g, 2, none⟩ = some (.int .i64 0)
  z0 : w.frozen? ⟨g, 0, none⟩ = false
  z1 : w.frozen? ⟨g, 1, none⟩ = false
  z2 : w.frozen? ⟨g, 2, none⟩ = false
theorem BoxV.new (w : World) (T : TypeId) : BoxV (w.alloc (.cells #[.int .i64 0, .int .i64 0, .int .i64 0] T)) w.heap.size := by
  constructor <;> simp
theorem BoxV.below {w w' : World} {g B : Nat} (h : BoxV w g) (hb : Below B w w') (hg : g < B) : BoxV w' g :=
  ⟨(hb.cell (p := ⟨g, _, none⟩) hg).trans h.d0, (hb.cell (p := ⟨g, _, none⟩) hg).trans h.d1, (hb.cell (p := ⟨g, _, none⟩) hg).trans h.d2,
   (hb.frozen (p := ⟨g, _, none⟩) hg).trans h.z0, (hb.frozen (p := ⟨g, _, none⟩) hg).trans h.z1, (hb.frozen (p := ⟨g, _, none⟩) hg).trans h.z2⟩
theorem BoxV.far {V : World} {b g j : Nat} {v : Value} (h : BoxV V b) (hne : b ≠ g) : BoxV (V.setCell ⟨g, j, none⟩ v) b := by
  have k : ∀ i, (V.setCell ⟨g, j, none⟩ v).cell? ⟨b, i, none⟩ = V.cell? ⟨b, i, none⟩ := fun i => World.cell?_setCell_far V ⟨g, j, none⟩ ⟨b, i, none⟩ v (fun e => hne e.symm)
  have f : ∀ i, (V.setCell ⟨g, j, none⟩ v).frozen? ⟨b, i, none⟩ = V.frozen? ⟨b, i, none⟩ := fun i => frozen?_setCell _ _ _ _
  exact ⟨(k _).trans h.d0, (k _).trans h.d1, (k _).trans h.d2, (f _).trans h.z0, (f _).trans h.z1, (f _).trans h.z2⟩
theorem hit_cellV {w : World} {p : Addr} {x : Value} (h : (w.cell? p).isSome = true) : (w.setCell p x).cell? p = some x := by
  obtain ⟨v, hv⟩ := Option.isSome_iff_exists.1 h
  exact World.cell?_setCell_same w p x hv
set_option maxRecDepth 100000 in
set_option maxHeartbeats 2000000 in
theorem l02Day_any (n : Int) (w : World) : Calls Tryz.prog 117 #[.int .i64 n] w fun e w' => e = .returned (.bool (inB n 0 36524)) ∧ w = w' := by
  go_enter Tryz.func117, Tryz.ntmps117
  go_wp2_with (go_at_call 132; refine (l00InB_any _ _ _ _).mono ?_; rintro e w' ⟨rfl, rfl⟩)
  go_ret
  exact ⟨rfl, rfl⟩
set_option maxRecDepth 100000 in
set_option maxHeartbeats 2000000 in
theorem l17IsR_any (n : Int) (w : World) : Calls Tryz.prog 118 #[.int .i64 n] w fun e w' => e = .returned (.bool (inB n 1 5)) ∧ w = w' := by
  go_enter Tryz.func118, Tryz.ntmps118
  go_wp2_with (go_at_call 132; refine (l00InB_any _ _ _ _).mono ?_; rintro e w' ⟨rfl, rfl⟩)
  go_ret
  exact ⟨rfl, rfl⟩
set_option maxRecDepth 100000 in
set_option maxHeartbeats 2000000 in
theorem l20OneR_any (pb po : Nat) (x : DVerified) (w : World) (hp : PVerified w pb po x) :
    Calls Tryz.prog 95 #[.pointer (some ⟨pb, po, none⟩)] w fun e w' => e = .returned (.bool (verB x)) ∧ Below w.heap.size w w' := by
  obtain ⟨c0, c1, c2⟩ := id hp
  have HV := Lib.hid (show verB x = (inB x.day 0 36524 && inB x.told 1 5 && inB x.seen 1 5) from rfl)
  go_enter Tryz.func95, Tryz.ntmps95
  go_wp2_with fail
  refine (l02Day_any _ _).mono ?_
  rintro e w' ⟨rfl, rfl⟩
  cases h1 : inB x.day 0 36524
  · have HX : Hid (verB x = false) := by show _ = _; rw [HV.out, h1]; rfl
    go_wp2
    go_ret
    exact ⟨ret_bool HX.out.symm, Below.refl _ _⟩
  · go_wp2_with fail
    refine (l17IsR_any _ _).mono ?_
    rintro e w' ⟨rfl, rfl⟩
    cases h2 : inB x.told 1 5
    · have HX : Hid (verB x = false) := by show _ = _; rw [HV.out, h1, h2]; rfl
      go_wp2
      go_ret
      exact ⟨ret_bool HX.out.symm, Below.refl _ _⟩
    · have HX : Hid (verB x = inB x.seen 1 5) := by show _ = _; rw [HV.out, h1, h2]; rfl
      go_wp2_with fail
      refine (l17IsR_any _ _).mono ?_
      rintro e w' ⟨rfl, rfl⟩
      rw [← HX.out]
      go_wp2
      go_ret
      exact ⟨rfl, Below.refl _ _⟩
set_option maxRecDepth 100000 in
set_option maxHeartbeats 2000000 in
theorem levelOkR_any (n : Int) (w : World) : Calls Tryz.prog 80 #[.int .i64 n] w fun e w' => e = .returned (.bool (inB n 1 5)) ∧ w = w' := by
  go_enter Tryz.func80, Tryz.ntmps80
  go_wp2_with (go_at_call 100; refine (withinB_any _ _ _ _).mono ?_; rintro e w' ⟨rfl, rfl⟩)
  go_ret
  exact ⟨rfl, rfl⟩
set_option maxRecDepth 100000 in
set_option maxHeartbeats 2000000 in
theorem verValid_any (x : DVerified) (w : World) :
    Calls Tryz.prog 52 #[.agg #[.int .i64 x.day, .int .i64 x.told, .int .i64 x.seen]] w fun e w' => e = .returned (.bool (verB x)) ∧ Below w.heap.size w w' := by
  have HV := Lib.hid (show verB x = (inB x.day 0 36524 && inB x.told 1 5 && inB x.seen 1 5) from rfl)
  go_enter Tryz.func52, Tryz.ntmps52
  go_wp2_with fail
  refine (dayValid_any _ _).mono ?_
  rintro e w' ⟨rfl, rfl⟩
  cases h1 : inB x.day 0 36524
  · have HX : Hid (verB x = false) := by show _ = _; rw [HV.out, h1]; rfl
    go_wp2
    go_ret
    exact ⟨ret_bool HX.out.symm, (Below.refl _ _).alloc (Nat.le_refl _) _⟩
  · go_wp2_with fail
    refine (levelOkR_any _ _).mono ?_
    rintro e w' ⟨rfl, rfl⟩
    cases h2 : inB x.told 1 5
    · have HX : Hid (verB x = false) := by show _ = _; rw [HV.out, h1, h2]; rfl
      go_wp2
      go_ret
      exact ⟨ret_bool HX.out.symm, (Below.refl _ _).alloc (Nat.le_refl _) _⟩
    · have HX : Hid (verB x = inB x.seen 1 5) := by show _ = _; rw [HV.out, h1, h2]; rfl
      go_wp2_with fail
      refine (levelOkR_any _ _).mono ?_
      rintro e w' ⟨rfl, rfl⟩
      rw [← HX.out]
      go_wp2
      go_ret
      exact ⟨rfl, (Below.refl _ _).alloc (Nat.le_refl _) _⟩
def vtF (x : DVerified) (t : ByteArray) : ByteArray := if verB x then t ++ ⟨#[32]⟩ ++ listT [x.told, x.seen] else ⟨#[]⟩
set_option maxRecDepth 100000 in
set_option maxHeartbeats 4000000 in
theorem VerifiedText_any (x : DVerified) (y m d : Int) (w : World) (h : dateOk y m d) (hd : x.day = numD y m d) (hok : fVerified.ok x) (ht : Tab10 w) :
    Calls Tryz.prog 16 #[.agg #[.int .i64 x.day, .int .i64 x.told, .int .i64 x.seen]] w fun e w' => e = .returned (.string (vtF x (dayS y m d))) ∧ Below w.heap.size w w' := by
  have hDT := fun (w : World) (ht : Tab10 w) => DateText_any y m d x.day w h hd ht
  have h10 := dayS_size h
  have HF := Lib.hid (show vtF x (dayS y m d) = if verB x then dayS y m d ++ ⟨#[32]⟩ ++ listT [x.told, x.seen] else ⟨#[]⟩ from rfl)
  have hl2 : Hid (∀ y ∈ [x.told, x.seen], fInt.ok y) := fun y hy => by
    rcases List.mem_cons.1 hy with rfl | hy
    · exact hok.2.1
    · rw [List.mem_singleton] at hy; subst hy; exact hok.2.2
  generalize vtF x (dayS y m d) = R at *
  generalize dayS y m d = t at *
  clear h hd hok
  have hbx := PVerified.box w x 34
  obtain ⟨c0, c1, c2⟩ := id hbx
  have hB0 : Below w.heap.size w (w.alloc (.cells #[.int .i64 x.day, .int .i64 x.told, .int .i64 x.seen] 34)) := (Below.refl _ _).alloc (Nat.le_refl _) _
  have ht0 := ht.below hB0
  go_enter Tryz.func16, Tryz.ntmps16
  go_wp2_with fail
  refine (verValid_any x _).mono ?_
  rintro e w1 ⟨rfl, hb1⟩
  have hB1 := hB0.trans (hb1.mono hB0.size)
  have hp1 := hbx.below' hb1
  have ht1 := ht0.below hb1
  clear hbx c0 c1 c2 ht0 hb1
  obtain ⟨c0, c1, c2⟩ := id hp1
  have hg1 : w.heap.size < w1.heap.size := hp1.lt
  cases hv : verB x
  · have HX : Hid (R = ⟨#[]⟩) := by show _ = _; rw [HF.out, hv]; rfl
    go_wp2
    go_ret
    exact ⟨ret_str HX.out.symm, hB1⟩
  · have HX : Hid (R = t ++ ⟨#[32]⟩ ++ listT [x.told, x.seen]) := by show _ = _; rw [HF.out, hv]; rfl
    go_wp2
    have gc0 := cell_regrown c0
    have gc1 := cell_regrown c1
    have gc2 := cell_regrown c2
    refine wp_region_fork (C := fun w' => ∃ p : Regrown, w' = Go.Sort.grow (redrawn w1 p.d) p.os) [0, 1, 3, 4, 5, 6] 2 [7, 8, 9] [false, false, true] 7 [2, 8, 9] [false, false, true] (by kernel_rfl) (by kernel_rfl) (by kernel_rfl) (fun _ _ d _ _ h => by cases d <;> exact h) (regrown_of_below (Below.drew (Below.refl _ _))) ?_
    simp only [List.map_cons, List.map_nil, List.getD_cons_zero, List.getD_cons_succ]
    have hS0 : Below (w1.heap.size) w1 w1.drew := Below.drew (Below.refl _ _)
    refine wpFork_pure (by kernel_rfl) (fun K hK => ?_)
    go_big_quiet_op
    refine hK _ ?_; clear hK K
    refine wpFork_pure (by kernel_rfl) (fun K hK => ?_)
    go_big_quiet_op
    refine hK _ ?_; clear hK K
    refine wpFork_pure (by kernel_rfl) (fun K hK => ?_)
    go_big_quiet_op
    refine hK _ ?_; clear hK K
    refine wpFork_pure (by kernel_rfl) (fun K hK => ?_)
    go_big_quiet_op
    refine hK _ ?_; clear hK K
    refine wpFork_pure (by kernel_rfl) (fun K hK => ?_)
    go_big_quiet_op
    refine hK _ ?_; clear hK K
    refine wpFork_pure (by kernel_rfl) (fun K hK => ?_)
    go_big_quiet_op
    refine hK _ ?_; clear hK K
    refine wpFork_split ?_ ?_
    · skip
      refine wpMix_act (by kernel_rfl) (fun K hK => ?_)
      go_big_op
      refine (hDT _ (ht1.below hS0)).mono ?_
      rintro e wr1 ⟨rfl, hbr1⟩
      have hbr1S : Below (w1.heap.size) w1 wr1 := hS0.trans (hbr1.mono hS0.size)
      refine hK _ _ (regrown_of_below hbr1S) ?_
      clear hK K
      refine wpMix_act (by kernel_rfl) (fun K hK => ?_)
      go_big_op
      refine hK _ _ (regrown_of_below (hbr1S.alloc hbr1S.size _)) ?_
      clear hK K
      refine mix_world (fun N => Below (w1.heap.size) w1 N ∧ Sl fInt.cod N (.slice (some ⟨wr1.heap.size, 0, none⟩) 2 2) [x.told, x.seen] [wr1.heap.size]) ⟨hbr1S.alloc hbr1S.size _, Sl.lit2 (E := fInt) wr1 [x.told, x.seen] _ _ rfl hl2.out (by show 0 < 2; decide) (by show 2 ≤ _; decide)⟩ ?_
      rintro wr2 ⟨hbr2S, hbr2F⟩
      refine wpMix_act (by kernel_rfl) (fun K hK => ?_)
      go_big_op
      refine (withId_any t _ [x.told, x.seen] _ _ (by first | exact hbr2F | exact hbr4F.below' hbr5 | exact hbr5F) (by show 2 ≤ _; decide) (by omega) (ht1.below hbr2S)).mono ?_
      rintro e wr3 ⟨rfl, hbr3⟩
      have hbr3S : Below (w1.heap.size) w1 wr3 := hbr2S.trans (hbr3.mono hbr2S.size)
      refine hK _ _ (regrown_of_below hbr3S) ?_
      clear hK K
      refine wpMix_pure (by kernel_rfl) (fun K hK => ?_); go_big_quiet_op; refine hK _ ?_; clear hK K
      refine wpMix_nil ?_
      have hS := hbr3S
      have hB9 := hB1.trans (hS.mono hB1.size)
      go_wp2
      go_ret
      exact ⟨ret_str HX.out.symm, hB9⟩
    · skip
      refine wpMix_act (by kernel_rfl) (fun K hK => ?_)
      go_big_op
      refine hK _ _ (regrown_of_below (hS0.alloc hS0.size _)) ?_
      clear hK K
      refine mix_world (fun N => Below (w1.heap.size) w1 N ∧ Sl fInt.cod N (.slice (some ⟨w1.drew.heap.size, 0, none⟩) 2 2) [x.told, x.seen] [w1.drew.heap.size]) ⟨hS0.alloc hS0.size _, Sl.lit2 (E := fInt) w1.drew [x.told, x.seen] _ _ rfl hl2.out (by show 0 < 2; decide) (by show 2 ≤ _; decide)⟩ ?_
      rintro wr4 ⟨hbr4S, hbr4F⟩
      refine wpMix_act (by kernel_rfl) (fun K hK => ?_)
      go_big_op
      refine (hDT _ (ht1.below hbr4S)).mono ?_
      rintro e wr5 ⟨rfl, hbr5⟩
      have hbr5S : Below (w1.heap.size) w1 wr5 := hbr4S.trans (hbr5.mono hbr4S.size)
      refine hK _ _ (regrown_of_below hbr5S) ?_
      clear hK K
      refine wpMix_act (by kernel_rfl) (fun K hK => ?_)
      go_big_op
      refine (withId_any t _ [x.told, x.seen] _ _ (by first | exact hbr2F | exact hbr4F.below' hbr5 | exact hbr5F) (by show 2 ≤ _; decide) (by omega) (ht1.below hbr5S)).mono ?_
      rintro e wr6 ⟨rfl, hbr6⟩
      have hbr6S : Below (w1.heap.size) w1 wr6 := hbr5S.trans (hbr6.mono hbr5S.size)
      refine hK _ _ (regrown_of_below hbr6S) ?_
      clear hK K
      refine wpMix_pure (by kernel_rfl) (fun K hK => ?_); go_big_quiet_op; refine hK _ ?_; clear hK K
      refine wpMix_nil ?_
      have hS := hbr6S
      have hB9 := hB1.trans (hS.mono hB1.size)
      go_wp2
      go_ret
      exact ⟨ret_str HX.out.symm, hB9⟩


set_option maxRecDepth 100000 in
set_option maxHeartbeats 8000000 in
theorem implReadVerified_any (s : ByteArray) (m : Int) (w : World) (hs : s.size ≤ 1048576) (hm : w.cell? ⟨0, 0, none⟩ = some (.int .i64 m)) (ht : RdTabs w) :
    Calls Tryz.prog 15 #[.string s] w fun e w' => VRet s e ∧ Below w.heap.size w w' := by
  have HW := Lib.hid (show wiA s = if oneK 2 (cZ s) then cA s else ⟨#[]⟩ from rfl)
  have HCA := Lib.hid (fun h => (words_of (s := s) (k := 2) h).2)
  have HLT := Lib.hid (fun h => (numK_text (k := 2) (b := cZ s) h).1)
  have HBAD := Lib.hid (fun p q d hn hd hv => rvF_bad (s := s) (d := d) (p := p) (q := q) hn hd hv)
  have HYES := Lib.hid (fun p q d h1 hn hd hv => rvF_yes (s := s) (d := d) (p := p) (q := q) h1 hn hd hv)
  have HONE := Lib.hid (fun h => rvF_one (s := s) h)
  have HDAY := Lib.hid (fun h => rvF_day (s := s) h)
  have hokn := numK_ok (k := 2) (b := cZ s)
  obtain ⟨p, q, hnum⟩ := num2_ab (cZ s)
  have hsA : (wiA s).size ≤ 1048576 := by
    unfold wiA; split
    · have := (cAZ_size s).1; omega
    · show 0 ≤ _; omega
  go_enter Tryz.func15, Tryz.ntmps15
  go_wp2_with fail
  refine (readWithId_any s m _ hs (cell_below ((Below.refl _ _).alloc (Nat.le_refl _) _) hm) (ht.below ((Below.refl _ _).alloc (Nat.le_refl _) _))).mono ?_
  rintro e w1 ⟨v1, rfl, ⟨⟨fpy, hsy, _, _⟩, hb1⟩⟩
  have hX1 : BoxV w1 w.heap.size := (BoxV.new w _).below hb1 (by simp)
  have hB1 : Below w.heap.size w w1 := ((Below.refl _ _).alloc (Nat.le_refl _) _).trans (hb1.mono (by simp))
  have hg1 : w.heap.size < w1.heap.size := by have := hb1.size; simp at this; omega
  have hnum' := hnum
  rw [hnum] at hsy hokn
  generalize cZ s = sz at *
  generalize cA s = sa at *
  generalize wiA s = sw at *
  clear hb1
  obtain ⟨A2, cap2, rfl, hle2, _⟩ := hsy.form
  obtain ⟨g2, o2, rfl, _, okp, n0, _⟩ := hsy.cell1 rfl (k := 0) (by simp) rfl
  obtain ⟨g2', o2', hA2, _, okq, n1, _⟩ := hsy.cell1 rfl (k := 1) (by simp) rfl
  injection hA2 with hA2; injection hA2 with ha1 ha2 _; subst ha1 ha2
  have n00 : w1.cell? ⟨g2, o2, none⟩ = some (.int .i64 p) := by simpa using n0
  have n11 : w1.cell? ⟨g2, o2 + 1, none⟩ = some (.int .i64 q) := n1
  have hgl := block_lt_of_cell n00
  clear n0 n1 hsy
  have e3 : (([p, q] : List Int).length : Int) = 2 := rfl
  have e3' : ([p, q] : List Int).length = 2 := rfl
  go_wp2_with fail
  refine (implReadDate_any sw _ hsA (ht.below hB1).tab).mono ?_
  rintro e w2 ⟨rfl, hb2⟩
  have hB2 := hB1.trans (hb2.mono hB1.size)
  have hX2 := hX1.below hb2 hg1
  have n02 := (hb2.cell (p := ⟨g2, o2, none⟩) hgl).trans n00
  have n12 := (hb2.cell (p := ⟨g2, o2 + 1, none⟩) hgl).trans n11
  have hg2 : w.heap.size < w2.heap.size := Nat.lt_of_lt_of_le hg1 hb2.size
  clear n00 n11 hX1 hb2
  have hDR : ∀ d, (rdF sw).getD 0 = d → -9223372036854775808 ≤ d ∧ d ≤ 9223372036854775807 := fun d hd => by
    cases hr : rdF sw with
    | none => rw [hr] at hd; have : d = 0 := hd.symm; omega
    | some d' =>
      rw [hr] at hd
      have e : d' = d := hd
      obtain ⟨_, _, _, h1, h2, _⟩ := rdF_is hr
      have := numD_bounds h1
      omega
  generalize hdd : (rdF sw).getD 0 = d at *
  have HDD := Lib.hid hdd
  have hdr := hDR d rfl
  have hokX : fVerified.ok ⟨d, p, q⟩ := ⟨hdr, okp, okq⟩
  generalize hds : (rdF sw).isSome = two at *
  have HDS := Lib.hid hds
  clear hdd hds hDR
  generalize hon : oneK 2 sz = one at *
  have HON := Lib.hid hon
  clear hon
  go_wp2
  have gn02 := cell_regrown n02
  have gn12 := cell_regrown n12
  refine wp_region_mix (C := fun w' => ∃ p : Regrown, w' = Go.Sort.grow (redrawn w2 p.d) p.os) [true, true, true, true, true, true, true, true, false, false] (by kernel_rfl) (by kernel_rfl) (by kernel_rfl) (fun _ _ d _ _ h => by cases d <;> exact h) (regrown_of_below (Below.drew (Below.refl _ _))) ?_
  have hS0 : Below (w2.heap.size) w2 w2.drew := Below.drew (Below.refl _ _)
  refine wpMix_pure (by kernel_rfl) (fun K hK => ?_); go_big_quiet_op; refine hK _ ?_; clear hK K
  refine wpMix_pure (by kernel_rfl) (fun K hK => ?_); go_big_quiet_op; refine hK _ ?_; clear hK K
  refine wpMix_pure (by kernel_rfl) (fun K hK => ?_); go_big_quiet_op; refine hK _ ?_; clear hK K
  refine wpMix_pure (by kernel_rfl) (fun K hK => ?_); go_big_quiet_op; refine hK _ ?_; clear hK K
  refine wpMix_pure (by kernel_rfl) (fun K hK => ?_); go_big_quiet_op; refine hK _ ?_; clear hK K
  refine wpMix_pure (by kernel_rfl) (fun K hK => ?_); go_big_quiet_op; refine hK _ ?_; clear hK K
  refine wpMix_pure (by kernel_rfl) (fun K hK => ?_); go_big_quiet_op; refine hK _ ?_; clear hK K
  refine wpMix_pure (by kernel_rfl) (fun K hK => ?_); go_big_quiet_op; refine hK _ ?_; clear hK K
  refine wpMix_act (by kernel_rfl) (fun K hK => ?_)
  go_big_op
  refine hK _ _ (regrown_of_below (by first | exact hS0.alloc hS0.size _ | exact Below.drew ((Below.refl _ _).alloc (Nat.le_refl _) _) | exact (Below.drew (Below.refl _ _)).alloc (Nat.le_refl _) _)) ?_
  clear hK K
  refine wpMix_act (by kernel_rfl) (fun K hK => ?_)
  go_big_op
  refine hK _ _ (regrown_of_below (by first | exact hS0.alloc hS0.size _ | exact Below.drew ((Below.refl _ _).alloc (Nat.le_refl _) _) | exact (Below.drew (Below.refl _ _)).alloc (Nat.le_refl _) _)) ?_
  clear hK K
  refine wpMix_nil ?_
  have hBx : Below w2.heap.size w2 (w2.alloc (.cells #[.int .i64 d, .int .i64 p, .int .i64 q] 34)).drew := Below.drew ((Below.refl _ _).alloc (Nat.le_refl _) _)
  have hBV := hB2.trans (hBx.mono hB2.size)
  have hXV := hX2.below hBx hg2
  have hpx : PVerified (w2.alloc (.cells #[.int .i64 d, .int .i64 p, .int .i64 q] 34)).drew w2.heap.size 0 ⟨d, p, q⟩ := (PVerified.box w2 ⟨d, p, q⟩ _).below' (Below.drew (Below.refl _ _))
  have hgV : w2.heap.size < (w2.alloc (.cells #[.int .i64 d, .int .i64 p, .int .i64 q] 34)).drew.heap.size := by
    show _ < (w2.alloc _).heap.size
    simp
  clear hX2 n02 n12 hBx gn02 gn12 hS0
  generalize (w2.alloc (.cells #[.int .i64 d, .int .i64 p, .int .i64 q] 34)).drew = V at *
  generalize hwq : w2.heap.size = wq at *
  obtain ⟨d0, d1, d2, z0, z1, z2⟩ := id hXV
  obtain ⟨x0, x1, x2⟩ := id hpx
  cases one
  · have HN := Lib.hid (HONE.out rfl)
    go_wp2
    exact bodyPost_ret (v := .tuple #[vAg v00, .bool false]) (by simp [vAg, v00, results, hit_cellV, d0, d1, d2, Tryz.results15, go_sem]) rfl ⟨VRet.no HN.out, by (repeat (refine Below.setCell ?_ (by first | exact Nat.le_refl _ | (show _ ≤ _; omega)) _)); assumption⟩
  · cases two
    · have HN : Hid (rvF s = none) := by
        refine Lib.hid (HDAY.out ?_)
        have h2 := HDS.out
        rw [show sw = sa from HW.out] at h2
        cases hr : rdF sa with
        | none => rfl
        | some _ => rw [hr] at h2; cases h2
      go_wp2
      exact bodyPost_ret (v := .tuple #[vAg v00, .bool false]) (by simp [vAg, v00, results, hit_cellV, d0, d1, d2, Tryz.results15, go_sem]) rfl ⟨VRet.no HN.out, by (repeat (refine Below.setCell ?_ (by first | exact Nat.le_refl _ | (show _ ≤ _; omega)) _)); assumption⟩
    · have hd1 : rdF sa = some d := by
        have h2 := HDS.out
        have h3 := HDD.out
        rw [show sw = sa from HW.out] at h2 h3
        cases hr : rdF sa with
        | none => rw [hr] at h2; cases h2
        | some d' => rw [hr] at h3; rw [show d' = d from h3]
      obtain ⟨dy, dm, dd, hdok, hdn, hds⟩ := rdF_is hd1
      have hcat := HCA.out rfl
      have hlt := HLT.out rfl
      rw [hnum'] at hlt
      have htx : vtF ⟨d, p, q⟩ (dayS dy dm dd) = if verB ⟨d, p, q⟩ then s else ⟨#[]⟩ := by
        unfold vtF
        rw [show listT [(⟨d, p, q⟩ : DVerified).told, (⟨d, p, q⟩ : DVerified).seen] = sz from hlt, show dayS dy dm dd = sa from hds.symm, hcat]
      have hne : s ≠ ⟨#[]⟩ := fun e => by
        have := congrArg ByteArray.size (hcat.trans e)
        rw [ByteArray.size_append, ByteArray.size_append] at this
        exact absurd this (by show ¬ (sa.size + 1 + sz.size = 0); omega)
      have HNO := Lib.hid (HBAD.out p q d hnum' hd1)
      have HYE := Lib.hid (HYES.out p q d rfl hnum' hd1)
      have HTX := Lib.hid htx
      have htV := (ht.below hBV).tab
      have HDN := Lib.hid hdn
      clear htx hcat hlt hds hd1 hdn hnum' hnum
      go_wp2_with fail
      refine (VerifiedText_any ⟨d, p, q⟩ dy dm dd _ hdok HDN.out hokX htV).mono ?_
      rintro e U ⟨rfl, hbU⟩
      have hBU := hBV.trans (hbU.mono hBV.size)
      have hXU := hXV.below hbU (by omega)
      have hpU := hpx.below' hbU
      clear hXV hpx x0 x1 x2 d0 d1 d2 z0 z1 z2
      obtain ⟨d0, d1, d2, z0, z1, z2⟩ := hXU
      obtain ⟨x0, x1, x2⟩ := hpU
      cases hgb : verB ⟨d, p, q⟩
      · have HN := Lib.hid (HNO.out hgb)
        have e9 : s.toList.isEmpty = false := by
          rw [ByteArray.toList_eq, ← Bool.not_eq_true, List.isEmpty_iff]
          exact fun e => hne (data_inj (by rw [e]))
        rw [show vtF ⟨d, p, q⟩ (dayS dy dm dd) = ⟨#[]⟩ from by rw [HTX.out, hgb]; rfl]
        clear hgb
        go_wp2
        exact bodyPost_ret (v := .tuple #[vAg v00, .bool false]) (by simp [vAg, v00, results, hit_cellV, d0, d1, d2, Tryz.results15, go_sem]) rfl ⟨VRet.no HN.out, by (repeat (refine Below.setCell ?_ (by first | exact Nat.le_refl _ | (show _ ≤ _; omega)) _)); assumption⟩
      · have HY := Lib.hid (HYE.out hgb)
        have e9 : (s.toList == s.toList) = true := beq_self_eq_true _
        have e10 : (s.toList != s.toList) = false := by unfold bne; rw [e9]; rfl
        rw [show vtF ⟨d, p, q⟩ (dayS dy dm dd) = s from by rw [HTX.out, hgb]; rfl]
        clear hgb
        go_wp2
        exact bodyPost_ret (v := .tuple #[vAg ⟨d, p, q⟩, .bool true]) (by simp [vAg, v00, results, hit_cellV, d0, d1, d2, Tryz.results15, go_sem]) rfl ⟨VRet.yes HY.out, by (repeat (refine Below.setCell ?_ (by first | exact Nat.le_refl _ | (show _ ≤ _; omega)) _)); assumption⟩

end Go.Proofs.YthabmofkjdiccaaGreatDoor

namespace Go.Proofs.YthabmofkjdiccaaGreatDoor
open Go.RowKit
set_option linter.unusedVariables false

def riX (d : Int) (a b z : ByteArray) : DIncident := ⟨d, a, b, (numK 3 z).getD 0 0, (numK 3 z).getD 1 0, (numK 3 z).getD 2 0⟩
def riF (s : ByteArray) : Option DIncident := match splS 32 s with
  | [x, a, b, z] => (match rdF x with | some d => if oneK 3 z && incB (riX d a b z) then some (riX d a b z) else none | none => none)
  | _ => none
def IRet (s : ByteArray) (e : Ending) : Prop := e = .returned (.tuple #[iAg ((riF s).getD n00), .bool (riF s).isSome])
theorem IRet.no {s : ByteArray} (h : riF s = none) : IRet s (.returned (.tuple #[iAg n00, .bool false])) := by unfold IRet; rw [h]; rfl
theorem IRet.yes {s : ByteArray} {x : DIncident} (h : riF s = some x) : IRet s (.returned (.tuple #[iAg x, .bool true])) := by unfold IRet; rw [h]; rfl
theorem riF_len {s : ByteArray} (h : ¬ (splS 32 s).length = 4) : riF s = none := by
  unfold riF
  split
  · rename_i hX; rw [hX] at h; exact absurd rfl h
  · rfl
theorem riF_day {s x a b z : ByteArray} (h : splS 32 s = [x, a, b, z]) (hd : rdF x = none) : riF s = none := by unfold riF; rw [h]; simp only [hd]
theorem riF_one {s x a b z : ByteArray} (h : splS 32 s = [x, a, b, z]) (h1 : oneK 3 z = false) : riF s = none := by
  unfold riF; rw [h]
  cases hd : rdF x with
  | none => simp only [hd]
  | some d => simp only [hd, h1]; rfl
theorem riF_bad {s x a b z : ByteArray} {d p q r : Int} (h : splS 32 s = [x, a, b, z]) (hn : numK 3 z = [p, q, r]) (hd : rdF x = some d) (hv : incB ⟨d, a, b, p, q, r⟩ = false) : riF s = none := by
  have e : riX d a b z = ⟨d, a, b, p, q, r⟩ := by unfold riX; rw [hn]; rfl
  unfold riF; rw [h]; simp only [hd, e, hv, Bool.and_false]; rfl
theorem riF_yes {s x a b z : ByteArray} {d p q r : Int} (h : splS 32 s = [x, a, b, z]) (h1 : oneK 3 z = true) (hn : numK 3 z = [p, q, r]) (hd : rdF x = some d) (hv : incB ⟨d, a, b, p, q, r⟩ = true) : riF s = some ⟨d, a, b, p, q, r⟩ := by
  have e : riX d a b z = ⟨d, a, b, p, q, r⟩ := by unfold riX; rw [hn]; rfl
  unfold riF; rw [h]; simp only [hd, e, hv, h1]; rfl
theorem num3_abcK (b : ByteArray) : ∃ p q r, numK 3 b = [p, q, r] := by
  have h := numK_len 3 b
  match hn : numK 3 b, h with
  | [p, q, r], _ => exact ⟨p, q, r, rfl⟩
structure BoxI (w : World) (g : Nat) : Prop where
  d0 : w.cell? ⟨g, 0, none⟩ = some (.int .i64 0)
  d1 : w.cell? ⟨g, 1, none⟩ = some (.string ⟨#[]⟩)
  d2 : w.cell? ⟨g, 2, none⟩ = some (.string ⟨#[]⟩)
  d3 : w.cell? ⟨g, 3, none⟩ = some (.int .i64 0)
  d4 : w.cell? ⟨g, 4, none⟩ = some (.int .i64 0)
  d5 : w.cell? ⟨g, 5, none⟩ = some (.int .i64 0)
  z0 : w.frozen? ⟨g, 0, none⟩ = false
  z1 : w.frozen? ⟨g, 1, none⟩ = false
  z2 : w.frozen? ⟨g, 2, none⟩ = false
  z3 : w.frozen? ⟨g, 3, none⟩ = false
  z4 : w.frozen? ⟨g, 4, none⟩ = false
  z5 : w.frozen? ⟨g, 5, none⟩ = false
theorem BoxI.new (w : World) (T : TypeId) : BoxI (w.alloc (.cells #[.int .i64 0, .string ⟨#[]⟩, .string ⟨#[]⟩, .int .i64 0, .int .i64 0, .int .i64 0] T)) w.heap.size := by
  constructor <;> simp
theorem BoxI.below {w w' : World} {g B : Nat} (h : BoxI w g) (hb : Below B w w') (hg : g < B) : BoxI w' g :=
  ⟨(hb.cell (p := ⟨g, _, none⟩) hg).trans h.d0, (hb.cell (p := ⟨g, _, none⟩) hg).trans h.d1, (hb.cell (p := ⟨g, _, none⟩) hg).trans h.d2, (hb.cell (p := ⟨g, _, none⟩) hg).trans h.d3, (hb.cell (p := ⟨g, _, none⟩) hg).trans h.d4, (hb.cell (p := ⟨g, _, none⟩) hg).trans h.d5,
   (hb.frozen (p := ⟨g, _, none⟩) hg).trans h.z0, (hb.frozen (p := ⟨g, _, none⟩) hg).trans h.z1, (hb.frozen (p := ⟨g, _, none⟩) hg).trans h.z2, (hb.frozen (p := ⟨g, _, none⟩) hg).trans h.z3, (hb.frozen (p := ⟨g, _, none⟩) hg).trans h.z4, (hb.frozen (p := ⟨g, _, none⟩) hg).trans h.z5⟩
theorem BoxI.far {V : World} {b g j : Nat} {v : Value} (h : BoxI V b) (hne : b ≠ g) : BoxI (V.setCell ⟨g, j, none⟩ v) b := by
  have k : ∀ i, (V.setCell ⟨g, j, none⟩ v).cell? ⟨b, i, none⟩ = V.cell? ⟨b, i, none⟩ := fun i => World.cell?_setCell_far V ⟨g, j, none⟩ ⟨b, i, none⟩ v (fun e => hne e.symm)
  have f : ∀ i, (V.setCell ⟨g, j, none⟩ v).frozen? ⟨b, i, none⟩ = V.frozen? ⟨b, i, none⟩ := fun i => frozen?_setCell _ _ _ _
  exact ⟨(k _).trans h.d0, (k _).trans h.d1, (k _).trans h.d2, (k _).trans h.d3, (k _).trans h.d4, (k _).trans h.d5, (f _).trans h.z0, (f _).trans h.z1, (f _).trans h.z2, (f _).trans h.z3, (f _).trans h.z4, (f _).trans h.z5⟩

set_option maxRecDepth 100000 in
set_option maxHeartbeats 4000000 in
theorem readNum3_any (s : ByteArray) (m : Int) (w : World) (hs : s.size ≤ 1048576) (hm9 : w.cell? ⟨0, 0, none⟩ = some (.int .i64 m)) (ht : RdTabs w) :
    Calls Tryz.prog 73 #[.string s, .int .i64 3] w fun e w' => ∃ v, e = .returned (.tuple #[v, .bool (oneK 3 s)]) ∧ New fInt.cod w v (numK 3 s) w' := by
  obtain ⟨i0, hi, hz0, hz1, hz2⟩ := info_parts infoIntR
  have hmk : ∀ W : World, (Instr.makeSlice 30 (.int .i64 3) (.int .i64 3)).run Tryz.prog W = .ok (.slice (some ⟨W.heap.size, 0, none⟩) 3 3) (W.alloc (.cells (madeCells (Value.int .i64 0).cells (3 * i0.size)) 2)) := fun W => run_make_rowN (P := Tryz.prog) 30 2 i0 _ Tryz.underlying30 hi hz0 .i64 .i64 3 3 (Nat.le_refl _) (by rw [hz2]; decide) (by decide) W
  rw [hz1] at hmk
  have hzero : ∀ W : World, Own fInt (W.alloc (.cells (madeCells #[Value.int .i64 0] 3) 2)) W.heap.size 2 (.slice (some ⟨W.heap.size, 0, none⟩) 3 3) [0, 0, 0] := fun W => by
    rw [made3R]
    exact World.ownsRow_lit (e := 2) (size := 1) W #[Value.int .i64 0, .int .i64 0, .int .i64 0] 3 (Nat.le_refl _) (by decide) rfl
  go_enter Tryz.func73, Tryz.ntmps73
  go_wp2_with fail
  refine (implReadList_any s m _ hs hm9 ht).mono ?_
  rintro e w1 ⟨v1, rfl, hn1⟩
  have hb1 := hn1.below
  have hfail : oneK 3 s = false → ∃ v, Ending.returned (.tuple #[.slice (some ⟨w1.heap.size, 0, none⟩) 3 3, .bool false]) = .returned (.tuple #[v, .bool (oneK 3 s)]) ∧ New fInt.cod w v (numK 3 s) (w1.alloc (.cells (madeCells #[Value.int .i64 0] 3) 2)) := fun h => ⟨_, by rw [h], by
    rw [oneK_no h]
    exact ((hzero w1).new ((Below.refl _ _).alloc (Nat.le_refl _) _) (by intro x hx; simp at hx; subst hx; show _ ∧ _; simp)).later hb1⟩
  have HFAIL := Lib.hid hfail
  clear hfail hzero
  cases hr : rlF s with
  | none =>
    have h1 := oneK_none (k := 3) hr
    rw [show (none : Option (List Int)).isSome = false from rfl]
    clear hn1 hr
    go_wp2
    go_ret2
    exact HFAIL.out h1
  | some xs =>
    have h1 := oneK_some (k := 3) hr
    rw [show (some xs : Option (List Int)).isSome = true from rfl]
    rw [hr] at hn1
    have hn2 : New fInt.cod w v1 xs w1 := hn1
    obtain ⟨⟨fpy, hsy, _, _⟩, _⟩ := id hn2
    obtain ⟨A, cap, rfl, _, _⟩ := hsy.form
    clear hn1 hsy
    by_cases h3 : xs.length = 3
    · rw [decide_eq_true h3] at h1
      have HN := Lib.hid (numK_some hr h3)
      have hn3 : New fInt.cod w (.slice A 3 cap) xs w1 := by rw [← h3]; exact hn2
      have H1 := Lib.hid h1
      have e5 : ((xs.length : Int) == 3) = true := by rw [beq_iff_eq]; omega
      have e6 : ((xs.length : Int) != 3) = false := by unfold bne; rw [e5]; rfl
      clear hr h1
      go_wp2
      go_ret2
      exact ⟨_, by rw [H1.out]; rfl, by rw [HN.out]; exact hn3⟩
    · rw [decide_eq_false h3] at h1
      have H1 := Lib.hid h1
      have e5 : ((xs.length : Int) == 3) = false := by rw [beq_eq_false_iff_ne]; omega
      have e6 : ((xs.length : Int) != 3) = true := by unfold bne; rw [e5]; rfl
      clear hr h1 hn2
      go_wp2
      go_ret2
      exact HFAIL.out H1.out


theorem nameB_size {s : ByteArray} (h : nameB s = true) : s.size ≤ 10 := by
  by_cases h1 : 10 < s.size
  · rw [nameB_long h1] at h; cases h
  · omega
def itF (x : DIncident) (t : ByteArray) : ByteArray := if incB x then t ++ ⟨#[32]⟩ ++ x.place ++ ⟨#[32]⟩ ++ x.cause ++ ⟨#[32]⟩ ++ listT [x.level, x.caught, x.buried] else ⟨#[]⟩
set_option maxRecDepth 100000 in
set_option maxHeartbeats 8000000 in
theorem IncidentText_any (x : DIncident) (y m d : Int) (w : World) (h : dateOk y m d) (hd : x.day = numD y m d) (hok : fIncident.ok x) (ht : Tab10 w) :
    Calls Tryz.prog 23 #[.agg #[.int .i64 x.day, .string x.place, .string x.cause, .int .i64 x.level, .int .i64 x.caught, .int .i64 x.buried]] w fun e w' => e = .returned (.string (itF x (dayS y m d))) ∧ Below w.heap.size w w' := by
  have hDT := fun (w : World) (ht : Tab10 w) => DateText_any y m d x.day w h hd ht
  have h10 := dayS_size h
  have HF := Lib.hid (show itF x (dayS y m d) = if incB x then dayS y m d ++ ⟨#[32]⟩ ++ x.place ++ ⟨#[32]⟩ ++ x.cause ++ ⟨#[32]⟩ ++ listT [x.level, x.caught, x.buried] else ⟨#[]⟩ from rfl)
  have hoks : ∀ y ∈ [x.level, x.caught, x.buried], fInt.ok y := fun y hy => by
    rcases List.mem_cons.1 hy with rfl | hy
    · exact hok.2.2.2.1
    · rcases List.mem_cons.1 hy with rfl | hy
      · exact hok.2.2.2.2.1
      · rw [List.mem_singleton] at hy; subst hy; exact hok.2.2.2.2.2
  have hls := listT_size hoks (by show 3 ≤ 1000; decide)
  have hl2 := Lib.hid hoks
  have hNS : incB x = true → x.place.size ≤ 10 ∧ x.cause.size ≤ 10 := fun hb => by
    unfold incB at hb
    simp only [Bool.and_eq_true] at hb
    exact ⟨nameB_size hb.1.1.1.1.2, nameB_size hb.1.1.1.2⟩
  generalize itF x (dayS y m d) = R at *
  generalize dayS y m d = t at *
  clear h hd hoks
  have hbx := PIncident.box w x 48
  obtain ⟨c0, c1, c2, c3, c4, c5⟩ := id hbx
  have hB0 : Below w.heap.size w (w.alloc (.cells #[.int .i64 x.day, .string x.place, .string x.cause, .int .i64 x.level, .int .i64 x.caught, .int .i64 x.buried] 48)) := (Below.refl _ _).alloc (Nat.le_refl _) _
  have ht0 := ht.below hB0
  go_enter Tryz.func23, Tryz.ntmps23
  go_wp2_with fail
  refine (incValid_any x _ hok).mono ?_
  rintro e w1 ⟨rfl, hb1⟩
  have hB1 := hB0.trans (hb1.mono hB0.size)
  have hp1 := hbx.below' hb1
  have ht1 := ht0.below hb1
  clear hbx c0 c1 c2 c3 c4 c5 ht0 hb1 hok
  obtain ⟨c0, c1, c2, c3, c4, c5⟩ := id hp1
  have hg1 : w.heap.size < w1.heap.size := hp1.lt
  cases hv : incB x
  · have HX : Hid (R = ⟨#[]⟩) := by show _ = _; rw [HF.out, hv]; rfl
    go_wp2
    go_ret
    exact ⟨ret_str HX.out.symm, hB1⟩
  · have HX : Hid (R = t ++ ⟨#[32]⟩ ++ x.place ++ ⟨#[32]⟩ ++ x.cause ++ ⟨#[32]⟩ ++ listT [x.level, x.caught, x.buried]) := by show _ = _; rw [HF.out, hv]; rfl
    obtain ⟨hps, hcs⟩ := hNS hv
    have s1 : (t ++ ⟨#[32]⟩).size ≤ 11 := by rw [ByteArray.size_append]; show _ + 1 ≤ _; omega
    have s2 : (t ++ ⟨#[32]⟩ ++ x.place).size ≤ 21 := by rw [ByteArray.size_append]; omega
    have s3 : (t ++ ⟨#[32]⟩ ++ x.place ++ ⟨#[32]⟩).size ≤ 22 := by rw [ByteArray.size_append]; show _ + 1 ≤ _; omega
    have s4 : (t ++ ⟨#[32]⟩ ++ x.place ++ ⟨#[32]⟩ ++ x.cause).size ≤ 32 := by rw [ByteArray.size_append]; omega
    have s5 : (t ++ ⟨#[32]⟩ ++ x.place ++ ⟨#[32]⟩ ++ x.cause ++ ⟨#[32]⟩).size ≤ 33 := by rw [ByteArray.size_append]; show _ + 1 ≤ _; omega
    obtain ⟨T, hT⟩ : ∃ T, T = listT [x.level, x.caught, x.buried] := ⟨_, rfl⟩
    have hLT := fun (v : Value) (fp : List Nat) (w : World) (hx : Sl fInt.cod w v [x.level, x.caught, x.buried] fp) (ht : Tab10 w) => ListText_any v [x.level, x.caught, x.buried] fp w hx ht
    rw [← hT] at hls HX hLT
    clear hT HF hv
    go_wp2
    have gc0 := cell_regrown c0
    have gc1 := cell_regrown c1
    have gc2 := cell_regrown c2
    have gc3 := cell_regrown c3
    have gc4 := cell_regrown c4
    have gc5 := cell_regrown c5
    refine wp_region_fork (C := fun w' => ∃ p : Regrown, w' = Go.Sort.grow (redrawn w1 p.d) p.os) [0, 1, 4, 5, 8, 9, 12, 13, 14, 15, 16, 17] 2 [3, 6, 7, 10, 11, 18, 19, 20, 21] [true, true, true, true, true, false, false, true, true] 18 [2, 3, 6, 7, 10, 11, 19, 20, 21] [false, true, true, true, true, true, false, true, true] (by kernel_rfl) (by kernel_rfl) (by kernel_rfl) (fun _ _ d _ _ h => by cases d <;> exact h) (regrown_of_below (Below.drew (Below.refl _ _))) ?_
    simp only [List.map_cons, List.map_nil, List.getD_cons_zero, List.getD_cons_succ]
    have hS0 : Below (w1.heap.size) w1 w1.drew := Below.drew (Below.refl _ _)
    refine wpFork_pure (by kernel_rfl) (fun K hK => ?_)
    go_big_quiet_op
    refine hK _ ?_; clear hK K
    refine wpFork_pure (by kernel_rfl) (fun K hK => ?_)
    go_big_quiet_op
    refine hK _ ?_; clear hK K
    refine wpFork_pure (by kernel_rfl) (fun K hK => ?_)
    go_big_quiet_op
    refine hK _ ?_; clear hK K
    refine wpFork_pure (by kernel_rfl) (fun K hK => ?_)
    go_big_quiet_op
    refine hK _ ?_; clear hK K
    refine wpFork_pure (by kernel_rfl) (fun K hK => ?_)
    go_big_quiet_op
    refine hK _ ?_; clear hK K
    refine wpFork_pure (by kernel_rfl) (fun K hK => ?_)
    go_big_quiet_op
    refine hK _ ?_; clear hK K
    refine wpFork_pure (by kernel_rfl) (fun K hK => ?_)
    go_big_quiet_op
    refine hK _ ?_; clear hK K
    refine wpFork_pure (by kernel_rfl) (fun K hK => ?_)
    go_big_quiet_op
    refine hK _ ?_; clear hK K
    refine wpFork_pure (by kernel_rfl) (fun K hK => ?_)
    go_big_quiet_op
    refine hK _ ?_; clear hK K
    refine wpFork_pure (by kernel_rfl) (fun K hK => ?_)
    go_big_quiet_op
    refine hK _ ?_; clear hK K
    refine wpFork_pure (by kernel_rfl) (fun K hK => ?_)
    go_big_quiet_op
    refine hK _ ?_; clear hK K
    refine wpFork_pure (by kernel_rfl) (fun K hK => ?_)
    go_big_quiet_op
    refine hK _ ?_; clear hK K
    refine wpFork_split ?_ ?_
    · skip
      refine wpMix_act (by kernel_rfl) (fun K hK => ?_)
      go_big_op
      refine (hDT _ (ht1.below hS0)).mono ?_
      rintro e wr1 ⟨rfl, hbr1⟩
      have hbr1S : Below (w1.heap.size) w1 wr1 := hS0.trans (hbr1.mono hS0.size)
      refine hK _ _ (regrown_of_below hbr1S) ?_
      clear hK K
      refine wpMix_pure (by kernel_rfl) (fun K hK => ?_); go_big_quiet_op; refine hK _ ?_; clear hK K
      refine wpMix_pure (by kernel_rfl) (fun K hK => ?_); go_big_quiet_op; refine hK _ ?_; clear hK K
      refine wpMix_pure (by kernel_rfl) (fun K hK => ?_); go_big_quiet_op; refine hK _ ?_; clear hK K
      refine wpMix_pure (by kernel_rfl) (fun K hK => ?_); go_big_quiet_op; refine hK _ ?_; clear hK K
      refine wpMix_pure (by kernel_rfl) (fun K hK => ?_); go_big_quiet_op; refine hK _ ?_; clear hK K
      refine wpMix_act (by kernel_rfl) (fun K hK => ?_)
      go_big_op
      refine hK _ _ (regrown_of_below (hbr1S.alloc hbr1S.size _)) ?_
      clear hK K
      refine mix_world (fun N => Below (w1.heap.size) w1 N ∧ Sl fInt.cod N (.slice (some ⟨wr1.heap.size, 0, none⟩) 3 3) [x.level, x.caught, x.buried] [wr1.heap.size]) ⟨hbr1S.alloc hbr1S.size _, Sl.lit2 (E := fInt) wr1 [x.level, x.caught, x.buried] _ _ rfl hl2.out (by show 0 < 3; decide) (by show 3 ≤ _; decide)⟩ ?_
      rintro wr2 ⟨hbr2S, hbr2F⟩
      refine wpMix_act (by kernel_rfl) (fun K hK => ?_)
      go_big_op
      refine (hLT _ _ _ (by first | exact hbr2F | exact hbr4F.below' hbr5 | exact hbr5F) (ht1.below hbr2S)).mono ?_
      rintro e wr3 ⟨rfl, hbr3⟩
      have hbr3S : Below (w1.heap.size) w1 wr3 := hbr2S.trans (hbr3.mono hbr2S.size)
      refine hK _ _ (regrown_of_below hbr3S) ?_
      clear hK K
      refine wpMix_pure (by kernel_rfl) (fun K hK => ?_); go_big_quiet_op; refine hK _ ?_; clear hK K
      refine wpMix_pure (by kernel_rfl) (fun K hK => ?_); go_big_quiet_op; refine hK _ ?_; clear hK K
      refine wpMix_nil ?_
      have hS := hbr3S
      have hB9 := hB1.trans (hS.mono hB1.size)
      go_wp2
      go_ret
      exact ⟨ret_str HX.out.symm, hB9⟩
    · skip
      refine wpMix_act (by kernel_rfl) (fun K hK => ?_)
      go_big_op
      refine hK _ _ (regrown_of_below (hS0.alloc hS0.size _)) ?_
      clear hK K
      refine mix_world (fun N => Below (w1.heap.size) w1 N ∧ Sl fInt.cod N (.slice (some ⟨w1.drew.heap.size, 0, none⟩) 3 3) [x.level, x.caught, x.buried] [w1.drew.heap.size]) ⟨hS0.alloc hS0.size _, Sl.lit2 (E := fInt) w1.drew [x.level, x.caught, x.buried] _ _ rfl hl2.out (by show 0 < 3; decide) (by show 3 ≤ _; decide)⟩ ?_
      rintro wr4 ⟨hbr4S, hbr4F⟩
      refine wpMix_act (by kernel_rfl) (fun K hK => ?_)
      go_big_op
      refine (hDT _ (ht1.below hbr4S)).mono ?_
      rintro e wr5 ⟨rfl, hbr5⟩
      have hbr5S : Below (w1.heap.size) w1 wr5 := hbr4S.trans (hbr5.mono hbr4S.size)
      refine hK _ _ (regrown_of_below hbr5S) ?_
      clear hK K
      refine wpMix_pure (by kernel_rfl) (fun K hK => ?_); go_big_quiet_op; refine hK _ ?_; clear hK K
      refine wpMix_pure (by kernel_rfl) (fun K hK => ?_); go_big_quiet_op; refine hK _ ?_; clear hK K
      refine wpMix_pure (by kernel_rfl) (fun K hK => ?_); go_big_quiet_op; refine hK _ ?_; clear hK K
      refine wpMix_pure (by kernel_rfl) (fun K hK => ?_); go_big_quiet_op; refine hK _ ?_; clear hK K
      refine wpMix_pure (by kernel_rfl) (fun K hK => ?_); go_big_quiet_op; refine hK _ ?_; clear hK K
      refine wpMix_act (by kernel_rfl) (fun K hK => ?_)
      go_big_op
      refine (hLT _ _ _ (by first | exact hbr2F | exact hbr4F.below' hbr5 | exact hbr5F) (ht1.below hbr5S)).mono ?_
      rintro e wr6 ⟨rfl, hbr6⟩
      have hbr6S : Below (w1.heap.size) w1 wr6 := hbr5S.trans (hbr6.mono hbr5S.size)
      refine hK _ _ (regrown_of_below hbr6S) ?_
      clear hK K
      refine wpMix_pure (by kernel_rfl) (fun K hK => ?_); go_big_quiet_op; refine hK _ ?_; clear hK K
      refine wpMix_pure (by kernel_rfl) (fun K hK => ?_); go_big_quiet_op; refine hK _ ?_; clear hK K
      refine wpMix_nil ?_
      have hS := hbr6S
      have hB9 := hB1.trans (hS.mono hB1.size)
      go_wp2
      go_ret
      exact ⟨ret_str HX.out.symm, hB9⟩

set_option maxRecDepth 100000 in
set_option maxHeartbeats 8000000 in
theorem implReadIncident_any (s : ByteArray) (m : Int) (w : World) (hs : s.size ≤ 1048576) (hm : w.cell? ⟨0, 0, none⟩ = some (.int .i64 m)) (ht : RdTabs w) :
    Calls Tryz.prog 22 #[.string s] w fun e w' => IRet s e ∧ Below w.heap.size w w' := by
  have hsz := spl_sizeR 32 s
  have HLEN := Lib.hid (fun h => riF_len (s := s) h)
  have HDAY := Lib.hid (fun x a b z (h : splS 32 s = [x, a, b, z]) => riF_day h)
  have HONE := Lib.hid (fun x a b z (h : splS 32 s = [x, a, b, z]) => riF_one h)
  have HBAD := Lib.hid (fun x a b z p q r d (h : splS 32 s = [x, a, b, z]) => riF_bad (p := p) (q := q) (r := r) (d := d) h)
  have HYES := Lib.hid (fun x a b z p q r d (h : splS 32 s = [x, a, b, z]) => riF_yes (p := p) (q := q) (r := r) (d := d) h)
  have HW4 := Lib.hid (fun x a b z (h : splS 32 s = [x, a, b, z]) => words4 h)
  go_enter Tryz.func22, Tryz.ntmps22
  go_wp2_with fail
  refine (splitN_any s 32 m _ hs (cell_below ((Below.refl _ _).alloc (Nat.le_refl _) _) hm)).mono ?_
  rintro e w1 ⟨v1, rfl, hown, hb1⟩
  have hX1 : BoxI w1 w.heap.size := (BoxI.new w _).below hb1 (by simp)
  have hB1 : Below w.heap.size w w1 := ((Below.refl _ _).alloc (Nat.le_refl _) _).trans (hb1.mono (by simp))
  have hg1 : w.heap.size < w1.heap.size := by have := hb1.size; simp at this; omega
  have hok : ∀ x ∈ splS 32 s, fStr.ok x := fun x hx => by have := hsz x hx; show _ ≤ _; omega
  obtain ⟨fp1, hsl, _, _⟩ := Sl.of_own (n := (splS 32 s).length) rfl hown hok
  generalize splS 32 s = X at *
  clear hown hok hb1
  obtain ⟨A, cap, rfl, hle, hca⟩ := hsl.form
  by_cases h4 : X.length = 4
  · obtain ⟨x, a, b, z, rfl⟩ : ∃ x a b z, X = [x, a, b, z] := by
      match X, h4 with
      | [x, a, b, z], _ => exact ⟨x, a, b, z, rfl⟩
    have HDAY := Lib.hid (HDAY.out x a b z rfl)
    have HONE := Lib.hid (HONE.out x a b z rfl)
    have HBAD := Lib.hid (fun p q r d => HBAD.out x a b z p q r d rfl)
    have HYES := Lib.hid (fun p q r d => HYES.out x a b z p q r d rfl)
    have hcat := HW4.out x a b z rfl
    have HCAT := Lib.hid hcat
    clear hcat
    have hsx := hsz x (by simp)
    have hsa := hsz a (by simp)
    have hsb := hsz b (by simp)
    have hsz' := hsz z (by simp)
    obtain ⟨g, off, rfl, _, _, cx, _⟩ := hsl.cell1 rfl (k := 0) (by simp) rfl
    obtain ⟨g', off', hA', _, _, ca, _⟩ := hsl.cell1 rfl (k := 1) (by simp) rfl
    injection hA' with hA'; injection hA' with ha1 ha2 _; subst ha1 ha2
    obtain ⟨g', off', hA', _, _, cb, _⟩ := hsl.cell1 rfl (k := 2) (by simp) rfl
    injection hA' with hA'; injection hA' with ha1 ha2 _; subst ha1 ha2
    obtain ⟨g', off', hA', _, _, cz, _⟩ := hsl.cell1 rfl (k := 3) (by simp) rfl
    injection hA' with hA'; injection hA' with ha1 ha2 _; subst ha1 ha2
    have cx0 : w1.cell? ⟨g, off, none⟩ = some (.string x) := by simpa using cx
    have ca0 : w1.cell? ⟨g, off + 1, none⟩ = some (.string a) := ca
    have cb0 : w1.cell? ⟨g, off + 2, none⟩ = some (.string b) := cb
    have cz0 : w1.cell? ⟨g, off + 3, none⟩ = some (.string z) := cz
    have hgl := block_lt_of_cell cx0
    have e4 : (([x, a, b, z] : List ByteArray).length : Int) = 4 := rfl
    clear cx ca cb cz hsl hsz h4 HLEN HW4
    go_wp2_with fail
    refine (implReadDate_any x _ (by omega) (ht.below hB1).tab).mono ?_
    rintro e w2 ⟨rfl, hb2⟩
    have hB2 := hB1.trans (hb2.mono hB1.size)
    have hX2 := hX1.below hb2 hg1
    have ca2 := (hb2.cell (p := ⟨g, off + 1, none⟩) hgl).trans ca0
    have cb2 := (hb2.cell (p := ⟨g, off + 2, none⟩) hgl).trans cb0
    have cz2 := (hb2.cell (p := ⟨g, off + 3, none⟩) hgl).trans cz0
    have hg2 : w.heap.size < w2.heap.size := Nat.lt_of_lt_of_le hg1 hb2.size
    have hgl2 : g < w2.heap.size := Nat.lt_of_lt_of_le hgl hb2.size
    clear cx0 ca0 cb0 cz0 hX1 hb2
    have hDR : ∀ d, (rdF x).getD 0 = d → -9223372036854775808 ≤ d ∧ d ≤ 9223372036854775807 := fun d hd => by
      cases hr : rdF x with
      | none => rw [hr] at hd; have : d = 0 := hd.symm; omega
      | some d' =>
        rw [hr] at hd
        have e : d' = d := hd
        obtain ⟨_, _, _, h1, h2, _⟩ := rdF_is hr
        have := numD_bounds h1
        omega
    generalize hdd : (rdF x).getD 0 = d at *
    have HDD := Lib.hid hdd
    have hdr := hDR d rfl
    generalize hds : (rdF x).isSome = one at *
    have HDS := Lib.hid hds
    clear hdd hds hDR
    go_wp2_with fail
    refine (readNum3_any z m _ (by omega) (cell_below hB2 hm) (ht.below hB2)).mono ?_
    rintro e w3 ⟨v3, rfl, ⟨⟨fpy, hsy, _, _⟩, hb3⟩⟩
    have hB3 := hB2.trans (hb3.mono hB2.size)
    have hX3 := hX2.below hb3 hg2
    have hg3 : w.heap.size < w3.heap.size := Nat.lt_of_lt_of_le hg2 hb3.size
    have ca3 := (hb3.cell (p := ⟨g, off + 1, none⟩) hgl2).trans ca2
    have cb3 := (hb3.cell (p := ⟨g, off + 2, none⟩) hgl2).trans cb2
    clear ca2 cb2 cz2 hX2 hb3
    obtain ⟨p, q, r, hnum⟩ := num3_abcK z
    have HLT := Lib.hid (fun h => (numK_text (k := 3) (b := z) h).1)
    have hokn := numK_ok (k := 3) (b := z)
    rw [hnum] at hsy hokn HLT
    have HNUM := Lib.hid hnum
    clear hnum
    obtain ⟨A2, cap2, rfl, hle2, _⟩ := hsy.form
    obtain ⟨g2, o2, rfl, _, okp, n0, _⟩ := hsy.cell1 rfl (k := 0) (by simp) rfl
    obtain ⟨g2', o2', hA2, _, okq, n1, _⟩ := hsy.cell1 rfl (k := 1) (by simp) rfl
    injection hA2 with hA2; injection hA2 with ha1 ha2 _; subst ha1 ha2
    obtain ⟨g2', o2', hA2, _, okr, n2, _⟩ := hsy.cell1 rfl (k := 2) (by simp) rfl
    injection hA2 with hA2; injection hA2 with ha1 ha2 _; subst ha1 ha2
    have n00 : w3.cell? ⟨g2, o2, none⟩ = some (.int .i64 p) := by simpa using n0
    have n11 : w3.cell? ⟨g2, o2 + 1, none⟩ = some (.int .i64 q) := n1
    have n22 : w3.cell? ⟨g2, o2 + 2, none⟩ = some (.int .i64 r) := n2
    have e3 : (([p, q, r] : List Int).length : Int) = 3 := rfl
    have hoX : fIncident.ok ⟨d, a, b, p, q, r⟩ := ⟨hdr, by show a.size ≤ 9223372036854775807; omega, by show b.size ≤ 9223372036854775807; omega, okp, okq, okr⟩
    clear n0 n1 n2 hsy hokn
    generalize hon : oneK 3 z = two at *
    clear hon
    go_wp2
    have gca3 := cell_regrown ca3
    have gcb3 := cell_regrown cb3
    have gn00 := cell_regrown n00
    have gn11 := cell_regrown n11
    have gn22 := cell_regrown n22
    refine wp_region_mix (C := fun w' => ∃ p : Regrown, w' = Go.Sort.grow (redrawn w3 p.d) p.os) [true, true, true, true, true, true, true, true, true, true, true, true, true, true, true, true, true, false, false] (by kernel_rfl) (by kernel_rfl) (by kernel_rfl) (fun _ _ d _ _ h => by cases d <;> exact h) (regrown_of_below (Below.drew (Below.refl _ _))) ?_
    have hS0 : Below (w3.heap.size) w3 w3.drew := Below.drew (Below.refl _ _)
    refine wpMix_pure (by kernel_rfl) (fun K hK => ?_); go_big_quiet_op; refine hK _ ?_; clear hK K
    refine wpMix_pure (by kernel_rfl) (fun K hK => ?_); go_big_quiet_op; refine hK _ ?_; clear hK K
    refine wpMix_pure (by kernel_rfl) (fun K hK => ?_); go_big_quiet_op; refine hK _ ?_; clear hK K
    refine wpMix_pure (by kernel_rfl) (fun K hK => ?_); go_big_quiet_op; refine hK _ ?_; clear hK K
    refine wpMix_pure (by kernel_rfl) (fun K hK => ?_); go_big_quiet_op; refine hK _ ?_; clear hK K
    refine wpMix_pure (by kernel_rfl) (fun K hK => ?_); go_big_quiet_op; refine hK _ ?_; clear hK K
    refine wpMix_pure (by kernel_rfl) (fun K hK => ?_); go_big_quiet_op; refine hK _ ?_; clear hK K
    refine wpMix_pure (by kernel_rfl) (fun K hK => ?_); go_big_quiet_op; refine hK _ ?_; clear hK K
    refine wpMix_pure (by kernel_rfl) (fun K hK => ?_); go_big_quiet_op; refine hK _ ?_; clear hK K
    refine wpMix_pure (by kernel_rfl) (fun K hK => ?_); go_big_quiet_op; refine hK _ ?_; clear hK K
    refine wpMix_pure (by kernel_rfl) (fun K hK => ?_); go_big_quiet_op; refine hK _ ?_; clear hK K
    refine wpMix_pure (by kernel_rfl) (fun K hK => ?_); go_big_quiet_op; refine hK _ ?_; clear hK K
    refine wpMix_pure (by kernel_rfl) (fun K hK => ?_); go_big_quiet_op; refine hK _ ?_; clear hK K
    refine wpMix_pure (by kernel_rfl) (fun K hK => ?_); go_big_quiet_op; refine hK _ ?_; clear hK K
    refine wpMix_pure (by kernel_rfl) (fun K hK => ?_); go_big_quiet_op; refine hK _ ?_; clear hK K
    refine wpMix_pure (by kernel_rfl) (fun K hK => ?_); go_big_quiet_op; refine hK _ ?_; clear hK K
    refine wpMix_pure (by kernel_rfl) (fun K hK => ?_); go_big_quiet_op; refine hK _ ?_; clear hK K
    refine wpMix_act (by kernel_rfl) (fun K hK => ?_)
    go_big_op
    refine hK _ _ (regrown_of_below (by first | exact hS0.alloc hS0.size _ | exact Below.drew ((Below.refl _ _).alloc (Nat.le_refl _) _) | exact (Below.drew (Below.refl _ _)).alloc (Nat.le_refl _) _ | exact Below.drew (((Below.refl _ _).alloc (Nat.le_refl _) _).alloc (by simp) _))) ?_
    clear hK K
    refine wpMix_act (by kernel_rfl) (fun K hK => ?_)
    go_big_op
    refine hK _ _ (regrown_of_below (by first | exact hS0.alloc hS0.size _ | exact Below.drew ((Below.refl _ _).alloc (Nat.le_refl _) _) | exact (Below.drew (Below.refl _ _)).alloc (Nat.le_refl _) _ | exact Below.drew (((Below.refl _ _).alloc (Nat.le_refl _) _).alloc (by simp) _))) ?_
    clear hK K
    refine wpMix_nil ?_
    have hBx : Below w3.heap.size w3 (w3.alloc (.cells #[.int .i64 d, .string a, .string b, .int .i64 p, .int .i64 q, .int .i64 r] 48)).drew := Below.drew ((Below.refl _ _).alloc (Nat.le_refl _) _)
    have hBV := hB3.trans (hBx.mono hB3.size)
    have hXV := hX3.below hBx hg3
    have hpx : PIncident (w3.alloc (.cells #[.int .i64 d, .string a, .string b, .int .i64 p, .int .i64 q, .int .i64 r] 48)).drew w3.heap.size 0 ⟨d, a, b, p, q, r⟩ := (PIncident.box w3 ⟨d, a, b, p, q, r⟩ _).below' (Below.drew (Below.refl _ _))
    have hgV : w3.heap.size < (w3.alloc (.cells #[.int .i64 d, .string a, .string b, .int .i64 p, .int .i64 q, .int .i64 r] 48)).drew.heap.size := by
      show _ < (w3.alloc _).heap.size
      simp
    clear hX3 n00 n11 n22 ca3 cb3 hBx gn00 gn11 gn22 gca3 gcb3 hS0
    generalize (w3.alloc (.cells #[.int .i64 d, .string a, .string b, .int .i64 p, .int .i64 q, .int .i64 r] 48)).drew = V at *
    generalize hwq : w3.heap.size = wq at *
    obtain ⟨d0, d1, d2, d3, d4, d5, z0, z1, z2, z3, z4, z5⟩ := id hXV
    obtain ⟨x0, x1, x2, x3, x4, x5⟩ := id hpx
    cases one
    · have HN : Hid (riF s = none) := by
        refine Lib.hid (HDAY.out ?_)
        have h2 := HDS.out
        cases hr : rdF x with
        | none => rfl
        | some _ => rw [hr] at h2; cases h2
      go_wp2
      exact bodyPost_ret (v := .tuple #[iAg n00, .bool false]) (by simp [iAg, n00, results, hit_cellV, d0, d1, d2, d3, d4, d5, Tryz.results22, go_sem]) rfl ⟨IRet.no HN.out, by (repeat (refine Below.setCell ?_ (by first | exact Nat.le_refl _ | (show _ ≤ _; omega)) _)); assumption⟩
    · cases two
      · have HN := Lib.hid (HONE.out rfl)
        go_wp2
        exact bodyPost_ret (v := .tuple #[iAg n00, .bool false]) (by simp [iAg, n00, results, hit_cellV, d0, d1, d2, d3, d4, d5, Tryz.results22, go_sem]) rfl ⟨IRet.no HN.out, by (repeat (refine Below.setCell ?_ (by first | exact Nat.le_refl _ | (show _ ≤ _; omega)) _)); assumption⟩
      · have hd1 : rdF x = some d := by
          have h2 := HDS.out
          have h3 := HDD.out
          cases hr : rdF x with
          | none => rw [hr] at h2; cases h2
          | some d' => rw [hr] at h3; rw [show d' = d from h3]
        obtain ⟨dy, dm, dd, hdok, hdn, hds⟩ := rdF_is hd1
        have hlt := HLT.out rfl
        have htx : itF ⟨d, a, b, p, q, r⟩ (dayS dy dm dd) = if incB ⟨d, a, b, p, q, r⟩ then s else ⟨#[]⟩ := by
          unfold itF
          rw [show listT [(⟨d, a, b, p, q, r⟩ : DIncident).level, (⟨d, a, b, p, q, r⟩ : DIncident).caught, (⟨d, a, b, p, q, r⟩ : DIncident).buried] = z from hlt, show dayS dy dm dd = x from hds.symm, show x ++ ⟨#[32]⟩ ++ (⟨d, a, b, p, q, r⟩ : DIncident).place ++ ⟨#[32]⟩ ++ (⟨d, a, b, p, q, r⟩ : DIncident).cause ++ ⟨#[32]⟩ ++ z = s from HCAT.out]
        have hne : s ≠ ⟨#[]⟩ := fun e => by
          have := congrArg ByteArray.size (HCAT.out.trans e)
          rw [ByteArray.size_append, ByteArray.size_append] at this
          exact absurd this (by show ¬ (_ + 1 + z.size = 0); omega)
        have HNO := Lib.hid (HBAD.out p q r d HNUM.out hd1)
        have HYE := Lib.hid (HYES.out p q r d rfl HNUM.out hd1)
        have HTX := Lib.hid htx
        have HDN := Lib.hid hdn
        have htV := (ht.below hBV).tab
        clear htx hlt hds hd1 hdn
        go_wp2_with fail
        refine (IncidentText_any ⟨d, a, b, p, q, r⟩ dy dm dd _ hdok HDN.out hoX htV).mono ?_
        rintro e U ⟨rfl, hbU⟩
        have hBU := hBV.trans (hbU.mono hBV.size)
        have hXU := hXV.below hbU (by omega)
        have hpU := hpx.below' hbU
        clear hXV hpx x0 x1 x2 x3 x4 x5 d0 d1 d2 d3 d4 d5 z0 z1 z2 z3 z4 z5
        obtain ⟨d0, d1, d2, d3, d4, d5, z0, z1, z2, z3, z4, z5⟩ := hXU
        obtain ⟨x0, x1, x2, x3, x4, x5⟩ := hpU
        cases hgb : incB ⟨d, a, b, p, q, r⟩
        · have HN := Lib.hid (HNO.out hgb)
          have e9 : s.toList.isEmpty = false := by
            rw [ByteArray.toList_eq, ← Bool.not_eq_true, List.isEmpty_iff]
            exact fun e => hne (data_inj (by rw [e]))
          rw [show itF ⟨d, a, b, p, q, r⟩ (dayS dy dm dd) = ⟨#[]⟩ from by rw [HTX.out, hgb]; rfl]
          clear hgb
          go_wp2
          exact bodyPost_ret (v := .tuple #[iAg n00, .bool false]) (by simp [iAg, n00, results, hit_cellV, d0, d1, d2, d3, d4, d5, Tryz.results22, go_sem]) rfl ⟨IRet.no HN.out, by (repeat (refine Below.setCell ?_ (by first | exact Nat.le_refl _ | (show _ ≤ _; omega)) _)); assumption⟩
        · have HY := Lib.hid (HYE.out hgb)
          have e9 : (s.toList == s.toList) = true := beq_self_eq_true _
          have e10 : (s.toList != s.toList) = false := by unfold bne; rw [e9]; rfl
          rw [show itF ⟨d, a, b, p, q, r⟩ (dayS dy dm dd) = s from by rw [HTX.out, hgb]; rfl]
          clear hgb
          go_wp2
          exact bodyPost_ret (v := .tuple #[iAg ⟨d, a, b, p, q, r⟩, .bool true]) (by simp [iAg, n00, results, hit_cellV, d0, d1, d2, d3, d4, d5, Tryz.results22, go_sem]) rfl ⟨IRet.yes HY.out, by (repeat (refine Below.setCell ?_ (by first | exact Nat.le_refl _ | (show _ ≤ _; omega)) _)); assumption⟩
  · have HN := Lib.hid (HLEN.out h4)
    obtain ⟨d0, d1, d2, d3, d4, d5, z0, z1, z2, z3, z4, z5⟩ := hX1
    have e5 : ((X.length : Int) == 4) = false := by rw [beq_eq_false_iff_ne]; omega
    have e6 : ((X.length : Int) != 4) = true := by unfold bne; rw [e5]; rfl
    clear hsl h4
    go_wp2
    exact bodyPost_ret (v := .tuple #[iAg n00, .bool false]) (by simp [iAg, n00, results, hit_cellV, d0, d1, d2, d3, d4, d5, Tryz.results22, go_sem]) rfl ⟨IRet.no HN.out, by (repeat (refine Below.setCell ?_ (by first | exact Nat.le_refl _ | (show _ ≤ _; omega)) _)); assumption⟩

end Go.Proofs.YthabmofkjdiccaaGreatDoor

namespace Go.Proofs.YthabmofkjdiccaaGreatDoor
open Go.RowKit Go.Shelf Go.Sort Go.Maps
set_option linter.unusedVariables false
attribute [local go_sem] Oper.semAt_some

abbrev BN := ByteArray × Int
def sumS : List BN → ByteArray → Int
  | [], _ => 0
  | p :: L, s => (if p.1 = s then p.2 else 0) + sumS L s
def nmS (L : List BN) : List ByteArray := L.map (fun p => p.1)
def totS (L : List BN) : Int := (L.map (fun p => p.2)).sum
theorem sumS_snoc (L : List BN) (p : BN) (s : ByteArray) : sumS (L ++ [p]) s = sumS L s + if p.1 = s then p.2 else 0 := by
  induction L with
  | nil => show (if p.1 = s then p.2 else 0) + 0 = 0 + _; omega
  | cons q L ih => show (if q.1 = s then q.2 else 0) + sumS (L ++ [p]) s = (if q.1 = s then q.2 else 0) + sumS L s + _; rw [ih]; omega
theorem sumS_zero {L : List BN} {s : ByteArray} (h : s ∉ nmS L) : sumS L s = 0 := by
  induction L with
  | nil => rfl
  | cons q L ih =>
    unfold nmS at h
    rw [List.map_cons, List.mem_cons] at h
    show (if q.1 = s then q.2 else 0) + sumS L s = 0
    rw [if_neg (fun e => h (.inl e.symm)), ih (fun hm => h (.inr hm))]; rfl
theorem sumS_bounds {L : List BN} {m : Int} (h : ∀ p ∈ L, 0 ≤ p.2 ∧ p.2 ≤ m) (s : ByteArray) : 0 ≤ sumS L s ∧ sumS L s ≤ m * L.length := by
  induction L with
  | nil => exact ⟨Int.le_refl _, by show (0 : Int) ≤ m * 0; omega⟩
  | cons q L ih =>
    obtain ⟨h1, h2⟩ := ih (fun p hp => h p (List.mem_cons_of_mem _ hp))
    have h3 := h q List.mem_cons_self
    show 0 ≤ (if q.1 = s then q.2 else 0) + sumS L s ∧ (if q.1 = s then q.2 else 0) + sumS L s ≤ _
    rw [List.length_cons, show ((L.length + 1 : Nat) : Int) = (L.length : Int) + 1 by omega, Int.mul_add, Int.mul_one]
    split <;> omega
theorem sum_hit {D : List ByteArray} (hn : D.Nodup) {s : ByteArray} (hs : s ∈ D) (n : Int) (f : ByteArray → Int) : (D.map (fun t => (if s = t then n else 0) + f t)).sum = n + (D.map f).sum := by
  have h0 : ∀ (E : List ByteArray), s ∉ E → (E.map (fun t => (if s = t then n else 0) + f t)).sum = (E.map f).sum := by
    intro E
    induction E with
    | nil => intro _; rfl
    | cons a E ih =>
      intro hm
      rw [List.mem_cons, not_or] at hm
      rw [List.map_cons, List.map_cons, List.sum_cons, List.sum_cons, if_neg hm.1, ih hm.2]; omega
  induction D with
  | nil => cases hs
  | cons a D ih =>
    rw [List.nodup_cons] at hn
    rw [List.map_cons, List.map_cons, List.sum_cons, List.sum_cons]
    by_cases e : s = a
    · subst e
      rw [if_pos rfl, h0 D hn.1]; omega
    · rw [if_neg e, ih hn.2 (by rcases List.mem_cons.1 hs with h | h; exact absurd h e; exact h)]; omega
/-- The sums of all names are the sum of all. -/
theorem sum_all {D : List ByteArray} (hn : D.Nodup) : ∀ (L : List BN), (∀ p ∈ L, p.1 ∈ D) → (D.map (sumS L)).sum = totS L
  | [], _ => by
    have : ∀ (E : List ByteArray), (E.map (sumS [])).sum = 0 := by
      intro E
      induction E with
      | nil => rfl
      | cons a E ih => rw [List.map_cons, List.sum_cons, ih]; rfl
    exact this D
  | q :: L, h => by
    have ih := sum_all hn L (fun p hp => h p (List.mem_cons_of_mem _ hp))
    have h1 := sum_hit hn (h q List.mem_cons_self) q.2 (sumS L)
    show (D.map (fun t => (if q.1 = t then q.2 else 0) + sumS L t)).sum = _
    rw [h1, ih]
    unfold totS
    rw [List.map_cons, List.sum_cons]
theorem cdF_nodup (xs : List ByteArray) : (cdF xs).Nodup := (cdF_ssrt xs).nodup
theorem sum_names (L : List BN) : ((cdF (nmS L)).map (sumS L)).sum = totS L :=
  sum_all (cdF_nodup _) L (fun p hp => (cdF_mem _ _).2 (List.mem_map.2 ⟨p, hp, rfl⟩))

def numI (n : Int) : DU := .lit (.int .i64 n)
/-- The map's entries after L. -/
structure SumD (es : List (Lit × DU)) (L : List BN) : Prop where
  val : ∀ p ∈ es, ∃ s : ByteArray, p.1 = litS s ∧ s ∈ nmS L ∧ p.2 = numI (sumS L s)
  has : ∀ s ∈ nmS L, ∃ p ∈ es, p.1 = litS s
  nd : (es.map (fun p => p.1)).Nodup
theorem SumD.nil : SumD [] [] := ⟨by simp, by simp [nmS], by simp⟩
theorem SumD.at_ {es : List (Lit × DU)} {L : List BN} (h : SumD es L) (s : ByteArray) : (DataW.map es : DU).atKey (litS s) (.lit (.int .i64 0)) = numI (sumS L s) := by
  simp only [DataW.atKey]
  cases hf : es.find? (fun p => p.1.sameKey (litS s)) with
  | some p =>
    have hp := List.mem_of_find?_eq_some hf
    have hk := List.find?_some hf
    obtain ⟨s', e1, _, e2⟩ := h.val p hp
    rw [e1] at hk
    have : s' = s := by
      simp only [litS, Lit.sameKey, beq_iff_eq] at hk
      exact data_inj hk
    subst this
    exact e2
  | none =>
    rw [List.find?_eq_none] at hf
    have hn : s ∉ nmS L := fun hm => by
      obtain ⟨p, hp, e⟩ := h.has s hm
      have := hf p hp
      rw [e] at this
      simp [litS, Lit.sameKey] at this
    rw [sumS_zero hn]; rfl
theorem SumD.put {es : List (Lit × DU)} {L : List BN} (h : SumD es L) (q : BN) : ∃ es', (DataW.map es : DU).put (litS q.1) (numI (sumS L q.1 + q.2)) = .map es' ∧ SumD es' (L ++ [q]) := by
  refine ⟨_, DataW.put_eq es _ _, ?_⟩
  have hp := insert_perm_ (litS q.1, numI (sumS L q.1 + q.2)) (es.filter (Go.ChangeMaps.notKey (litS q.1)))
  have hnk : ∀ p ∈ es, Go.ChangeMaps.notKey (litS q.1) p = true ↔ p.1 ≠ litS q.1 := fun p hp => by
    obtain ⟨s', e1, _, _⟩ := h.val p hp
    exact Go.ChangeMaps.notKey_iff ⟨_, rfl⟩ ⟨_, e1⟩
  have hmem : ∀ p, p ∈ Go.ChangeMaps.putKey (litS q.1) (numI (sumS L q.1 + q.2)) es ↔ p = (litS q.1, numI (sumS L q.1 + q.2)) ∨ (p ∈ es ∧ p.1 ≠ litS q.1) := fun p => by
    refine (hp.mem_iff).trans ?_
    rw [List.mem_cons, List.mem_filter]
    exact or_congr Iff.rfl ⟨fun ⟨a, b⟩ => ⟨a, (hnk p a).1 b⟩, fun ⟨a, b⟩ => ⟨a, (hnk p a).2 b⟩⟩
  have hnm : ∀ t, t ∈ nmS (L ++ [q]) ↔ t ∈ nmS L ∨ t = q.1 := fun t => by unfold nmS; rw [List.map_append, List.mem_append]; simp
  refine ⟨fun p hp' => ?_, fun t ht => ?_, ?_⟩
  · rcases (hmem p).1 hp' with rfl | ⟨h1, h2⟩
    · exact ⟨q.1, rfl, (hnm _).2 (.inr rfl), by rw [sumS_snoc, if_pos rfl]⟩
    · obtain ⟨s', e1, e2, e3⟩ := h.val p h1
      refine ⟨s', e1, (hnm _).2 (.inl e2), ?_⟩
      rw [sumS_snoc, if_neg (fun e => h2 (by rw [e1, e])), Int.add_zero]
      exact e3
  · rcases (hnm t).1 ht with ht | ht
    · by_cases e : t = q.1
      · exact ⟨_, (hmem _).2 (.inl rfl), by rw [e]⟩
      · obtain ⟨p, h1, h2⟩ := h.has t ht
        exact ⟨p, (hmem p).2 (.inr ⟨h1, fun e' => e (litS_inj (h2.symm.trans e'))⟩), h2⟩
    · subst ht
      exact ⟨_, (hmem _).2 (.inl rfl), rfl⟩
  · have h2 := (hp.map (fun p => p.1)).nodup_iff.2 (by
      rw [List.map_cons, List.nodup_cons]
      refine ⟨fun hm => ?_, (List.filter_sublist.map _).nodup h.nd⟩
      obtain ⟨p, h3, h4⟩ := List.mem_map.1 hm
      rw [List.mem_filter] at h3
      exact (hnk p h3.1).1 h3.2 h4)
    exact h2
theorem cntS_pos {L : List ByteArray} {s : ByteArray} (h : s ∈ L) : True := trivial
/-- The keys, in order, are the different lines. -/
theorem SumD.keys {es : List (Lit × DU)} {L : List BN} (h : SumD es L) {ss : List (List UInt8)} (hp : ss.Perm (strKeys (DataW.map es : DU))) :
    (ss.mergeSort (fun x y => decide (x ≤ y))).map encStr = (cdF (nmS L)).flatMap fStr.enc ∧ ss.length = (cdF (nmS L)).length := by
  obtain ⟨M, hM⟩ : ∃ M : List ByteArray, M = ss.map (fun l => (⟨l.toArray⟩ : ByteArray)) := ⟨_, rfl⟩
  have e1 : ss = M.map (fun x : ByteArray => x.data.toList) := by rw [hM, List.map_map]; simp [Function.comp_def]
  have hmem : ∀ s, s ∈ M ↔ s ∈ nmS L := fun s => by
    rw [hM, List.mem_map]
    constructor
    · rintro ⟨l, hl, rfl⟩
      have := (hp.mem_iff).1 hl
      obtain ⟨p, h1, rfl⟩ := List.mem_map.1 this
      obtain ⟨s', e1, e2, _⟩ := h.val p h1
      rw [e1]
      have : (⟨(strOf (litS s')).toArray⟩ : ByteArray) = s' := by simp [strOf, litS]
      rw [this]; exact e2
    · intro hs
      obtain ⟨p, h1, h2⟩ := h.has s hs
      refine ⟨s.data.toList, (hp.mem_iff).2 (List.mem_map.2 ⟨p, h1, by rw [h2]; rfl⟩), by simp⟩
  have hnd : M.Nodup := by
    have h1 : (strKeys (DataW.map es : DU)).Nodup := by
      show (es.map fun p => strOf p.1).Nodup
      have h2 := h.nd
      rw [List.nodup_iff_pairwise_ne] at *
      rw [List.pairwise_map] at *
      refine List.Pairwise.imp_of_mem ?_ h2
      intro a b ha hb hab e
      obtain ⟨s1, e1, _, _⟩ := h.val a ha
      obtain ⟨s2, e2, _, _⟩ := h.val b hb
      rw [e1, e2] at hab e
      have e' : s1.data.toList = s2.data.toList := e
      exact hab (by unfold litS; rw [e'])
    have h2 := (hp.nodup_iff).2 h1
    rw [e1] at h2
    rw [List.nodup_iff_pairwise_ne] at *
    rw [List.pairwise_map] at h2
    exact h2.imp (fun h e => h (by rw [e]))
  have e2 : srtF M = cdF (nmS L) := cdF_of (ssrt_of (srtF_srt M) ((srtF_perm M).nodup_iff.2 hnd)) (fun s => ((srtF_perm M).mem_iff).trans (hmem s))
  refine ⟨?_, ?_⟩
  · rw [e1, ← srtF_map, ← encStr_map, e2]
  · rw [← e2, srtF_len, e1, List.length_map]
set_option maxHeartbeats 1000000 in
theorem sortedKeysS_any (b nn : Nat) (es : List (Lit × DU)) (L : List BN) (R : Value → Option (DU × List MemPlace)) (w : World) (hown : w.ownsMap Tryz.prog 9 R b nn (.map es)) (hn : nn ≤ 1000000) (hc : SumD es L) :
    Calls Tryz.prog 103 #[.func (.func 124) #[] #[.pointer (some ⟨w.heap.size, 0, none⟩)]] (w.alloc (.cells #[.map (some b)] 130)) fun e w' => OwnRS fStr 9 (w.alloc (.cells #[.map (some b)] 130)) (cdF (nmS L)) e w' := by
  have hbl := hown.lt
  have hsize := hown.size_le
  have hseq : SeqGives Fence.wide 2 Tryz.prog 124 #[.pointer (some ⟨w.heap.size, 0, none⟩)] encStr (fun ss => ss.Perm (strKeys (DataW.map es : DU))) (Maps.size (DataW.map es : DU)) (w.alloc (.cells #[.map (some b)] 130)) :=
    AnyZ.keys_gives (ρ := Tryz.keysLay_ren) { Tryz.keysLay with } Fence.wide _ trivial rfl (by omega) w.heap.size b nn _ _ (by simp) (by simp) (by
      obtain ⟨es', clock, hb, Ft, hs, hD⟩ := hown
      exact ⟨es', clock, (Below.heap_alloc _ _ b hbl).trans hb, Ft, hs, hD⟩)
  refine ((callsIn_wide (n := 5)).1 (AnyZ.sorted_in Tryz.sortedLay Fence.wide 5 trivial trivial trivial trivial rfl (by omega) (sortsIn_any _) (enters_of Tryz.func123 (by kernel_rfl) rfl) 124 #[.pointer (some ⟨w.heap.size, 0, none⟩)] trivial (enters_of Tryz.func124 (by kernel_rfl) rfl) _ _ (by unfold maxLen; omega) (by omega) _ hseq)).mono ?_
  rintro e w' ⟨v, ss, rfl, hS, hrow, _, hb⟩
  obtain ⟨e1, e2⟩ := hc.keys hS
  rw [e1, e2] at hrow
  exact ⟨v, rfl, hrow, hb⟩

end Go.Proofs.YthabmofkjdiccaaGreatDoor

namespace Go.Proofs.YthabmofkjdiccaaGreatDoor
open Go.RowKit Go.Shelf Go.Sort Go.Maps
set_option linter.unusedVariables false
attribute [local go_sem] Oper.semAt_some

def prP (x : DIncident) : BN := (x.place, 1)
def prC (x : DIncident) : BN := (x.cause, x.caught)
def sbD (f : DIncident → BN) (L : List DIncident) : List ByteArray := if incsB L then cdF (nmS (L.map f)) else []
def sbM (f : DIncident → BN) (L : List DIncident) : List Int := if incsB L then (cdF (nmS (L.map f))).map (sumS (L.map f)) else []
def sbC (L : List DIncident) : Int := if incsB L then 0 else 1
theorem infoInt64S : (Tryz.prog.info? 2).map (fun i => (i.zero, i.size, i.bytes)) = some (some (.int .i64 0), 1, 8) := by kernel_rfl
theorem incB_parts {x : DIncident} (h : incB x = true) : 0 ≤ x.day ∧ x.day ≤ 36524 ∧ nameB x.place = true ∧ nameB x.cause = true ∧ 1 ≤ x.level ∧ x.level ≤ 5 ∧ 0 ≤ x.caught ∧ x.caught ≤ 20 ∧ 0 ≤ x.buried ∧ x.buried ≤ x.caught := by
  unfold incB inB at h
  simp only [Bool.and_eq_true, decide_eq_true_eq] at h
  obtain ⟨⟨⟨⟨⟨⟨a1, a2⟩, a3⟩, a4⟩, a5, a6⟩, a7, a8⟩, a9, a10⟩ := h
  exact ⟨a1, a2, a3, a4, a5, a6, a7, a8, a9, a10⟩
theorem incs_one {L : List DIncident} (h : incsB L = true) : ∀ x ∈ L, incB x = true := by
  intro x hx
  obtain ⟨k, hk, rfl⟩ := List.mem_iff_getElem.1 hx
  exact incsB_one h hk
theorem sb_len (f : DIncident → BN) (L : List DIncident) : (cdF (nmS (L.map f))).length ≤ L.length := by
  have := cdF_len (nmS (L.map f))
  unfold nmS at this ⊢
  rw [List.length_map, List.length_map] at this
  exact this
set_option maxRecDepth 100000 in
set_option maxHeartbeats 2000000 in
theorem placesC_any (x : DIncident) (w : World) :
    Calls Tryz.prog 70 #[.agg #[.int .i64 x.day, .string x.place, .string x.cause, .int .i64 x.level, .int .i64 x.caught, .int .i64 x.buried]] w fun e w' => e = .returned (.tuple #[.string (prP x).1, .int .i64 (prP x).2]) ∧ Below w.heap.size w w' := by
  go_enter Tryz.func70, Tryz.ntmps70
  go_wp2
  go_ret2
  exact ⟨rfl, (Below.refl _ _).alloc (Nat.le_refl _) _⟩
set_option maxRecDepth 100000 in
set_option maxHeartbeats 2000000 in
theorem causesC_any (x : DIncident) (w : World) :
    Calls Tryz.prog 71 #[.agg #[.int .i64 x.day, .string x.place, .string x.cause, .int .i64 x.level, .int .i64 x.caught, .int .i64 x.buried]] w fun e w' => e = .returned (.tuple #[.string (prC x).1, .int .i64 (prC x).2]) ∧ Below w.heap.size w w' := by
  have hB := (Below.refl w.heap.size w).alloc (Nat.le_refl _) (.cells #[.int .i64 x.day, .string x.place, .string x.cause, .int .i64 x.level, .int .i64 x.caught, .int .i64 x.buried] 48)
  have hp := PIncident.box w x 48
  go_enter Tryz.func71, Tryz.ntmps71
  go_wp2
  generalize hW : w.alloc (.cells #[.int .i64 x.day, .string x.place, .string x.cause, .int .i64 x.level, .int .i64 x.caught, .int .i64 x.buried] 48) = W at *
  clear hW
  obtain ⟨d0, d1, d2, d3, d4, d5⟩ := hp
  have gd2 := cell_regrown d2
  have gd4 := cell_regrown d4
  refine wp_region_mix (C := fun w' => ∃ p : Regrown, w' = Go.Sort.grow (redrawn W p.d) p.os) [true, true, true, true, true, true] (by kernel_rfl) (by kernel_rfl) (by kernel_rfl) (fun _ _ d _ _ h => by cases d <;> exact h) (regrown_of_below (Below.drew (Below.refl _ _))) ?_
  have hS0 : Below (W.heap.size) W W.drew := Below.drew (Below.refl _ _)
  refine wpMix_pure (by kernel_rfl) (fun K hK => ?_); go_big_quiet_op; refine hK _ ?_; clear hK K
  refine wpMix_pure (by kernel_rfl) (fun K hK => ?_); go_big_quiet_op; refine hK _ ?_; clear hK K
  refine wpMix_pure (by kernel_rfl) (fun K hK => ?_); go_big_quiet_op; refine hK _ ?_; clear hK K
  refine wpMix_pure (by kernel_rfl) (fun K hK => ?_); go_big_quiet_op; refine hK _ ?_; clear hK K
  refine wpMix_pure (by kernel_rfl) (fun K hK => ?_); go_big_quiet_op; refine hK _ ?_; clear hK K
  refine wpMix_pure (by kernel_rfl) (fun K hK => ?_); go_big_quiet_op; refine hK _ ?_; clear hK K
  refine wpMix_nil ?_
  go_wp2
  go_ret2
  exact ⟨rfl, hB.trans ((hS0).mono hB.size)⟩
set_option maxRecDepth 100000 in
set_option maxHeartbeats 8000000 in
theorem sums_places_any (v : Value) (L : List DIncident) (fp : List Nat) (w : World) (hx : Sl fIncident.cod w v L fp) :
    Calls Tryz.prog 69 #[v, .func (.func 70) #[] #[]] w fun e w' => New2R w (sbD prP L) (sbM prP L) (sbC L) e w' := by
  obtain ⟨A, cap, rfl, hlen, hcap⟩ := hx.form
  obtain ⟨j0, hj, hy0, hy1, hy2⟩ := info_parts infoInt64S
  have hmm := @run_makeMap Tryz.prog
  go_enter Tryz.func69, Tryz.ntmps69
  go_wp2_with fail
  refine (ValidIncidents_any _ L fp _ hx).mono ?_
  rintro e w1 ⟨rfl, hb1⟩
  cases h0 : incsB L
  · have HC := Lib.hid (show sbC L = 1 by rw [sbC, h0]; rfl)
    have HD := Lib.hid (show sbD prP L = [] by rw [sbD, h0]; rfl)
    have HM := Lib.hid (show sbM prP L = [] by rw [sbM, h0]; rfl)
    clear h0
    go_wp2
    go_ret3
    rw [HC.out, HD.out, HM.out]
    exact New2R.nil hb1
  · have hl := incsB_len h0
    have hva := incs_one h0
    have hx1 := hx.below' hb1
    have HC := Lib.hid (show sbC L = 0 by rw [sbC, h0]; rfl)
    have HD := Lib.hid (show sbD prP L = cdF (nmS (L.map prP)) by rw [sbD, h0]; rfl)
    have HM := Lib.hid (show sbM prP L = (cdF (nmS (L.map prP))).map (sumS (L.map prP)) by rw [sbM, h0]; rfl)
    have hpv : ∀ p ∈ L.map prP, 0 ≤ p.2 ∧ p.2 ≤ 1 := fun p hp => by
      obtain ⟨y, hy, rfl⟩ := List.mem_map.1 hp
      have := incB_parts (hva y hy)
      show 0 ≤ (prP y).2 ∧ (prP y).2 ≤ 1
      unfold prP; simp only; omega
    have hcdl := sb_len prP L
    have hnok : ∀ s ∈ nmS (L.map prP), fStr.ok s := fun s hs => by
      obtain ⟨p, hp, rfl⟩ := List.mem_map.1 hs
      obtain ⟨y, hy, rfl⟩ := List.mem_map.1 hp
      have := hx.oks y hy
      exact this.2.1
    have hcok : ∀ s ∈ cdF (nmS (L.map prP)), fStr.ok s := fun s hm => hnok s ((cdF_mem _ s).1 hm)
    clear h0 hx
    go_wp2
    go_loopw [22] (fun i wr => ∃ k : Nat, k ≤ L.length ∧ i = .int .i64 k ∧ (∃ es, wr.ownsMap Tryz.prog 9 (plainElem Tryz.prog 2) w1.heap.size k (.map es) ∧ SumD es ((L.map prP).take k)) ∧ Below w1.heap.size w1 wr) (fun i _ => L.length - (intOf i).toNat)
    case atStart => exact ⟨0, Nat.zero_le _, rfl, ⟨[], World.ownsMap_made _ _ _ _, SumD.nil⟩, (Below.refl _ _).alloc (Nat.le_refl _) _⟩
    case round =>
      obtain ⟨k, hk, rfl, ⟨es, hown, hD⟩, hb⟩ := hrel
      by_cases hlt : k < L.length
      · obtain ⟨b, off, rfl, hmem, hok, hp⟩ := PIncident.elem (hx1.below' hb) hlt
        obtain ⟨c0, c1, c2, c3, c4, c5⟩ := id hp
        have hbl := hown.lt
        go_wp2_with fail
        refine (placesC_any L[k] _).mono ?_
        rintro e w2 ⟨rfl, hb2⟩
        have hB1 := (Below.refl wr.heap.size wr).alloc (Nat.le_refl _) (.cells #[.int .i64 L[k].day, .string L[k].place, .string L[k].cause, .int .i64 L[k].level, .int .i64 L[k].caught, .int .i64 L[k].buried] 48)
        have hB2 : Below wr.heap.size wr w2 := hB1.trans (hb2.mono hB1.size)
        have hown2 := ownsMap_below hown hB2 hbl
        have hb3 := hb.trans (hB2.mono hb.size)
        have hmk : (prP L[k]) ∈ L.map prP := List.mem_map.2 ⟨_, List.getElem_mem hlt, rfl⟩
        have hq := hpv _ hmk
        have hok5 : fStr.ok (prP L[k]).1 := hnok _ (List.mem_map.2 ⟨_, hmk, rfl⟩)
        have hT : (L.map prP).take (k + 1) = (L.map prP).take k ++ [prP L[k]] := by
          rw [List.take_succ_eq_append_getElem (by rw [List.length_map]; exact hlt), List.getElem_map]
        clear hB1 hb2 hB2 hown hp c0 c1 c2 c3 c4 c5 hmk hb hok
        generalize prP L[k] = q at *
        have hok5' : q.1.size ≤ 9223372036854775807 := hok5
        have hkey : keyOf Tryz.prog 9 (.string q.1) = some (litS q.1) := Go.WideMaps.keyOf_string_mk strT_under (by unfold maxLen; exact hok5')
        have hcl := sumS_bounds (L := (L.map prP).take k) (fun p hp => hpv p (List.mem_of_mem_take hp)) q.1
        have hlk : ((L.map prP).take k).length ≤ k := by rw [List.length_take]; omega
        go_wp2_with (at_lookup; refine wpList_lookup_own_int _ rfl _ _ 130 rfl 9 2 .i64 (Maps.string_keyed strT_under) mapT_under int64T_under (zeroI_run _) w1.heap.size k _ rfl hown2 _ _ rfl hkey ?_)
        intro c hat hwc
        have hc : c = sumS ((L.map prP).take k) q.1 := by
          have h := hD.at_ q.1
          rw [h] at hat
          unfold numI at hat
          injection hat with hat
          injection hat with _ hat
          exact hat.symm
        obtain ⟨es', hput, hD'⟩ := hD.put q
        obtain ⟨cn, hcn⟩ : ∃ cn, cn = sumS ((L.map prP).take k) q.1 := ⟨_, rfl⟩
        rw [← hcn] at hc hput hcl
        subst hc
        have hcl2 : 0 ≤ c + q.2 ∧ c + q.2 ≤ 2000 := by omega
        rw [← hT] at hD'
        have HP := Lib.hid hput
        clear hat hwc hput hT hcn hD hcl hlk
        have hval : plainElem (H := Unit) Tryz.prog 2 (.int .i64 (c + q.2)) = some (numI (c + q.2), []) := plainElem_int int64T_under (a := c + q.2) (WalkArith.wf_i64 (by omega))
        have HV := Lib.hid hval
        clear hval
        go_wp2_with (at_mapUpdate; refine wpList_mapUpdate_own _ rfl _ _ _ 130 rfl 9 2 (Maps.string_keyed strT_under) mapT_under _ w1.heap.size k _ rfl hown2 (by unfold maxLen; omega) _ _ _ rfl rfl hkey _ [] HV.out ?_)
        intro w4 hown4 hgrow4
        have hb4 : Below w1.heap.size w1 w4 := hb3.grown hgrow4 hb3.size (fun j hj => by cases hj; exact Nat.le_refl _)
        rw [HP.out] at hown4
        go_wp2
        go_roundw
        case rel => exact ⟨k + 1, by omega, by go_num, ⟨es', hown4, hD'⟩, hb4⟩
        case measure => simp [intOf]; omega
      · have e1 : (L.map prP).take k = L.map prP := List.take_of_length_le (by rw [List.length_map]; omega)
        rw [e1] at hD
        have hkl : k ≤ 48 := by omega
        clear e1
        go_wp2_with fail
        refine (keysM_any _ _).mono ?_
        rintro e w' ⟨rfl, rfl⟩
        go_wp2_with fail
        refine (sortedKeysS_any w1.heap.size k es (L.map prP) _ _ hown (by omega) hD).mono ?_
        rintro e w3 ⟨v3, rfl, hown3, hb3⟩
        have hbk : Below wr.heap.size wr (wr.alloc (.cells #[.map (some w1.heap.size)] 130)) := (Below.refl _ _).alloc (Nat.le_refl _) _
        have hB3 : Below wr.heap.size wr w3 := hbk.trans (hb3.mono hbk.size)
        have hown4 := ownsMap_below hown hB3 hown.lt
        have hwr := hown.lt
        have hB4 : Below w1.heap.size w1 w3 := hb.trans (hB3.mono hb.size)
        have hs4 := hB3.size
        have hown3' : Own fStr w3 w1.heap.size 9 v3 (cdF (nmS (L.map prP))) := own_monoE hown3 (by have := hbk.size; have := hb.size; omega)
        have hBW : Below w.heap.size w w3 := hb1.trans (hB4.mono hb1.size)
        have hs14 := hb1.size
        have hpvS : ∀ s, 0 ≤ sumS (L.map prP) s ∧ sumS (L.map prP) s ≤ 2000 := fun s => by
          have h := sumS_bounds hpv s
          rw [List.length_map] at h; omega
        clear hb hb3 hB3 hbk hB4 hpv hnok hva hown hown3
        generalize hCD : cdF (nmS (L.map prP)) = CD at *
        generalize hSL : L.map prP = SL at *
        obtain ⟨fpd, hsd, _, _⟩ := hown3'.fp hcok
        obtain ⟨A3, cap3, rfl, hle3, hca3⟩ := hsd.form
        replace hCD := Lib.hid hCD
        replace hSL := Lib.hid hSL
        obtain ⟨nd, hnd⟩ : ∃ nd, CD.length = nd := ⟨_, rfl⟩
        have Hnd := Lib.hid hnd
        rw [hnd] at hsd hcdl hle3 hown3' ⊢
        clear hnd
        go_wp2
        go_loopw [13, 43] (fun a i w5 => ∃ m : Nat, m ≤ nd ∧ i = .int .i64 m ∧ Own fInt w5 w3.heap.size 2 a ((CD.take m).map (sumS SL)) ∧ Below w3.heap.size w3 w5) (fun _ i _ => nd - (intOf i).toNat)
        case atStart => exact ⟨0, Nat.zero_le _, rfl, Own.nil fInt _ _ _, Below.refl _ _⟩
        case round =>
          obtain ⟨m, hm, rfl, ho, hbw⟩ := hrel
          by_cases hlt2 : m < nd
          · have hmlt : m < CD.length := by have := Hnd.out; omega
            obtain ⟨b5, off5, rfl, _, hok5, hc0, _⟩ := (hsd.below' hbw).cell1 rfl (k := m) hmlt rfl
            have hok5' : CD[m].size ≤ 9223372036854775807 := hok5
            have hkey : keyOf Tryz.prog 9 (.string CD[m]) = some (litS CD[m]) := Go.WideMaps.keyOf_string_mk strT_under (by unfold maxLen; exact hok5')
            have hownW := ownsMap_below hown4 hbw (by omega)
            have hat0 := hD.at_ CD[m]
            have hcl := hpvS CD[m]
            have HT := Lib.hid (show (CD.take (m + 1)).map (sumS SL) = (CD.take m).map (sumS SL) ++ [sumS SL CD[m]] by rw [List.take_succ_eq_append_getElem hmlt, List.map_append]; rfl)
            have hlt3 : ((CD.take m).map (sumS SL)).length = m := by rw [List.length_map, List.length_take]; omega
            obtain ⟨cn, hcn⟩ : ∃ cn, cn = sumS SL CD[m] := ⟨_, rfl⟩
            rw [← hcn] at hat0 hcl HT
            obtain ⟨X, hX⟩ : ∃ X, X = (CD.take m).map (sumS SL) := ⟨_, rfl⟩
            rw [← hX] at ho HT hlt3
            have hs5 := hbw.size
            clear hcn hX
            have Hat0 := Lib.hid hat0
            have Hl3 := Lib.hid hlt3
            clear hat0 hlt3
            have hoW : wr.ownsRow w3.heap.size 2 1 u13 X.length (X.flatMap fInt.enc) := ho
            have hXl : X.length ≤ 1000000 := by have := Hl3.out; omega
            clear ho
            go_wp2_with (at_lookup; refine wpList_lookup_own_int _ rfl _ _ 130 rfl 9 2 .i64 (Maps.string_keyed strT_under) mapT_under int64T_under (zeroI_run _) w1.heap.size k _ rfl hownW _ _ rfl hkey ?_)
            intro c hat hwc
            have hc : c = cn := by
              rw [Hat0.out] at hat
              unfold numI at hat
              injection hat with hat
              injection hat with _ hat
              exact hat.symm
            subst hc
            clear hat hwc
            go_wp2_with (at_builtin; refine wpList_append_one rfl _ _ 30 rfl w3.heap.size 2 j0 (.int .i64 0) 1 8 Tryz.underlying30 hj hy0 hy1 hy2 rfl (by decide) u13 X.length _ rfl hoW [.int .i64 c] rfl (by intro u hu; rw [List.mem_singleton] at hu; subst hu; rfl) rfl (by omega) (by decide) hs5 ?_)
            intro v' w6 hown6 hb6 _ _
            have hb7 := hbw.trans hb6
            have ho7 : Own fInt w6 w3.heap.size 2 v' ((CD.take (m + 1)).map (sumS SL)) := by rw [HT.out]; exact Own.push c rfl hown6
            clear hown6
            go_wp2
            go_roundw
            case rel => exact ⟨m + 1, by omega, by go_num, ho7, hb7⟩
            case measure => simp [intOf]; omega
          · have hnd := Hnd.out
            rw [List.take_of_length_le (by omega)] at ho
            have hfin := New2R.of' (w := w) (c := 0) hown3' ho hs14 hBW.size hbw hcok (fun y hy => by
              obtain ⟨s, _, rfl⟩ := List.mem_map.1 hy
              have := hpvS s
              show _ ∧ _; omega) (hBW.trans (hbw.mono hBW.size))
            clear ho hnd
            go_wp2
            go_ret3
            rw [HC.out, HD.out, HM.out]
            exact hfin
set_option maxRecDepth 100000 in
set_option maxHeartbeats 8000000 in
theorem sums_causes_any (v : Value) (L : List DIncident) (fp : List Nat) (w : World) (hx : Sl fIncident.cod w v L fp) :
    Calls Tryz.prog 69 #[v, .func (.func 71) #[] #[]] w fun e w' => New2R w (sbD prC L) (sbM prC L) (sbC L) e w' := by
  obtain ⟨A, cap, rfl, hlen, hcap⟩ := hx.form
  obtain ⟨j0, hj, hy0, hy1, hy2⟩ := info_parts infoInt64S
  have hmm := @run_makeMap Tryz.prog
  go_enter Tryz.func69, Tryz.ntmps69
  go_wp2_with fail
  refine (ValidIncidents_any _ L fp _ hx).mono ?_
  rintro e w1 ⟨rfl, hb1⟩
  cases h0 : incsB L
  · have HC := Lib.hid (show sbC L = 1 by rw [sbC, h0]; rfl)
    have HD := Lib.hid (show sbD prC L = [] by rw [sbD, h0]; rfl)
    have HM := Lib.hid (show sbM prC L = [] by rw [sbM, h0]; rfl)
    clear h0
    go_wp2
    go_ret3
    rw [HC.out, HD.out, HM.out]
    exact New2R.nil hb1
  · have hl := incsB_len h0
    have hva := incs_one h0
    have hx1 := hx.below' hb1
    have HC := Lib.hid (show sbC L = 0 by rw [sbC, h0]; rfl)
    have HD := Lib.hid (show sbD prC L = cdF (nmS (L.map prC)) by rw [sbD, h0]; rfl)
    have HM := Lib.hid (show sbM prC L = (cdF (nmS (L.map prC))).map (sumS (L.map prC)) by rw [sbM, h0]; rfl)
    have hpv : ∀ p ∈ L.map prC, 0 ≤ p.2 ∧ p.2 ≤ 20 := fun p hp => by
      obtain ⟨y, hy, rfl⟩ := List.mem_map.1 hp
      have := incB_parts (hva y hy)
      show 0 ≤ (prC y).2 ∧ (prC y).2 ≤ 20
      unfold prC; simp only; omega
    have hcdl := sb_len prC L
    have hnok : ∀ s ∈ nmS (L.map prC), fStr.ok s := fun s hs => by
      obtain ⟨p, hp, rfl⟩ := List.mem_map.1 hs
      obtain ⟨y, hy, rfl⟩ := List.mem_map.1 hp
      have := hx.oks y hy
      exact this.2.2.1
    have hcok : ∀ s ∈ cdF (nmS (L.map prC)), fStr.ok s := fun s hm => hnok s ((cdF_mem _ s).1 hm)
    clear h0 hx
    go_wp2
    go_loopw [22] (fun i wr => ∃ k : Nat, k ≤ L.length ∧ i = .int .i64 k ∧ (∃ es, wr.ownsMap Tryz.prog 9 (plainElem Tryz.prog 2) w1.heap.size k (.map es) ∧ SumD es ((L.map prC).take k)) ∧ Below w1.heap.size w1 wr) (fun i _ => L.length - (intOf i).toNat)
    case atStart => exact ⟨0, Nat.zero_le _, rfl, ⟨[], World.ownsMap_made _ _ _ _, SumD.nil⟩, (Below.refl _ _).alloc (Nat.le_refl _) _⟩
    case round =>
      obtain ⟨k, hk, rfl, ⟨es, hown, hD⟩, hb⟩ := hrel
      by_cases hlt : k < L.length
      · obtain ⟨b, off, rfl, hmem, hok, hp⟩ := PIncident.elem (hx1.below' hb) hlt
        obtain ⟨c0, c1, c2, c3, c4, c5⟩ := id hp
        have hbl := hown.lt
        go_wp2_with fail
        refine (causesC_any L[k] _).mono ?_
        rintro e w2 ⟨rfl, hb2⟩
        have hB1 := (Below.refl wr.heap.size wr).alloc (Nat.le_refl _) (.cells #[.int .i64 L[k].day, .string L[k].place, .string L[k].cause, .int .i64 L[k].level, .int .i64 L[k].caught, .int .i64 L[k].buried] 48)
        have hB2 : Below wr.heap.size wr w2 := hB1.trans (hb2.mono hB1.size)
        have hown2 := ownsMap_below hown hB2 hbl
        have hb3 := hb.trans (hB2.mono hb.size)
        have hmk : (prC L[k]) ∈ L.map prC := List.mem_map.2 ⟨_, List.getElem_mem hlt, rfl⟩
        have hq := hpv _ hmk
        have hok5 : fStr.ok (prC L[k]).1 := hnok _ (List.mem_map.2 ⟨_, hmk, rfl⟩)
        have hT : (L.map prC).take (k + 1) = (L.map prC).take k ++ [prC L[k]] := by
          rw [List.take_succ_eq_append_getElem (by rw [List.length_map]; exact hlt), List.getElem_map]
        clear hB1 hb2 hB2 hown hp c0 c1 c2 c3 c4 c5 hmk hb hok
        generalize prC L[k] = q at *
        have hok5' : q.1.size ≤ 9223372036854775807 := hok5
        have hkey : keyOf Tryz.prog 9 (.string q.1) = some (litS q.1) := Go.WideMaps.keyOf_string_mk strT_under (by unfold maxLen; exact hok5')
        have hcl := sumS_bounds (L := (L.map prC).take k) (fun p hp => hpv p (List.mem_of_mem_take hp)) q.1
        have hlk : ((L.map prC).take k).length ≤ k := by rw [List.length_take]; omega
        go_wp2_with (at_lookup; refine wpList_lookup_own_int _ rfl _ _ 130 rfl 9 2 .i64 (Maps.string_keyed strT_under) mapT_under int64T_under (zeroI_run _) w1.heap.size k _ rfl hown2 _ _ rfl hkey ?_)
        intro c hat hwc
        have hc : c = sumS ((L.map prC).take k) q.1 := by
          have h := hD.at_ q.1
          rw [h] at hat
          unfold numI at hat
          injection hat with hat
          injection hat with _ hat
          exact hat.symm
        obtain ⟨es', hput, hD'⟩ := hD.put q
        obtain ⟨cn, hcn⟩ : ∃ cn, cn = sumS ((L.map prC).take k) q.1 := ⟨_, rfl⟩
        rw [← hcn] at hc hput hcl
        subst hc
        have hcl2 : 0 ≤ c + q.2 ∧ c + q.2 ≤ 2000 := by omega
        rw [← hT] at hD'
        have HP := Lib.hid hput
        clear hat hwc hput hT hcn hD hcl hlk
        have hval : plainElem (H := Unit) Tryz.prog 2 (.int .i64 (c + q.2)) = some (numI (c + q.2), []) := plainElem_int int64T_under (a := c + q.2) (WalkArith.wf_i64 (by omega))
        have HV := Lib.hid hval
        clear hval
        go_wp2_with (at_mapUpdate; refine wpList_mapUpdate_own _ rfl _ _ _ 130 rfl 9 2 (Maps.string_keyed strT_under) mapT_under _ w1.heap.size k _ rfl hown2 (by unfold maxLen; omega) _ _ _ rfl rfl hkey _ [] HV.out ?_)
        intro w4 hown4 hgrow4
        have hb4 : Below w1.heap.size w1 w4 := hb3.grown hgrow4 hb3.size (fun j hj => by cases hj; exact Nat.le_refl _)
        rw [HP.out] at hown4
        go_wp2
        go_roundw
        case rel => exact ⟨k + 1, by omega, by go_num, ⟨es', hown4, hD'⟩, hb4⟩
        case measure => simp [intOf]; omega
      · have e1 : (L.map prC).take k = L.map prC := List.take_of_length_le (by rw [List.length_map]; omega)
        rw [e1] at hD
        have hkl : k ≤ 48 := by omega
        clear e1
        go_wp2_with fail
        refine (keysM_any _ _).mono ?_
        rintro e w' ⟨rfl, rfl⟩
        go_wp2_with fail
        refine (sortedKeysS_any w1.heap.size k es (L.map prC) _ _ hown (by omega) hD).mono ?_
        rintro e w3 ⟨v3, rfl, hown3, hb3⟩
        have hbk : Below wr.heap.size wr (wr.alloc (.cells #[.map (some w1.heap.size)] 130)) := (Below.refl _ _).alloc (Nat.le_refl _) _
        have hB3 : Below wr.heap.size wr w3 := hbk.trans (hb3.mono hbk.size)
        have hown4 := ownsMap_below hown hB3 hown.lt
        have hwr := hown.lt
        have hB4 : Below w1.heap.size w1 w3 := hb.trans (hB3.mono hb.size)
        have hs4 := hB3.size
        have hown3' : Own fStr w3 w1.heap.size 9 v3 (cdF (nmS (L.map prC))) := own_monoE hown3 (by have := hbk.size; have := hb.size; omega)
        have hBW : Below w.heap.size w w3 := hb1.trans (hB4.mono hb1.size)
        have hs14 := hb1.size
        have hpvS : ∀ s, 0 ≤ sumS (L.map prC) s ∧ sumS (L.map prC) s ≤ 2000 := fun s => by
          have h := sumS_bounds hpv s
          rw [List.length_map] at h; omega
        clear hb hb3 hB3 hbk hB4 hpv hnok hva hown hown3
        generalize hCD : cdF (nmS (L.map prC)) = CD at *
        generalize hSL : L.map prC = SL at *
        obtain ⟨fpd, hsd, _, _⟩ := hown3'.fp hcok
        obtain ⟨A3, cap3, rfl, hle3, hca3⟩ := hsd.form
        replace hCD := Lib.hid hCD
        replace hSL := Lib.hid hSL
        obtain ⟨nd, hnd⟩ : ∃ nd, CD.length = nd := ⟨_, rfl⟩
        have Hnd := Lib.hid hnd
        rw [hnd] at hsd hcdl hle3 hown3' ⊢
        clear hnd
        go_wp2
        go_loopw [13, 43] (fun a i w5 => ∃ m : Nat, m ≤ nd ∧ i = .int .i64 m ∧ Own fInt w5 w3.heap.size 2 a ((CD.take m).map (sumS SL)) ∧ Below w3.heap.size w3 w5) (fun _ i _ => nd - (intOf i).toNat)
        case atStart => exact ⟨0, Nat.zero_le _, rfl, Own.nil fInt _ _ _, Below.refl _ _⟩
        case round =>
          obtain ⟨m, hm, rfl, ho, hbw⟩ := hrel
          by_cases hlt2 : m < nd
          · have hmlt : m < CD.length := by have := Hnd.out; omega
            obtain ⟨b5, off5, rfl, _, hok5, hc0, _⟩ := (hsd.below' hbw).cell1 rfl (k := m) hmlt rfl
            have hok5' : CD[m].size ≤ 9223372036854775807 := hok5
            have hkey : keyOf Tryz.prog 9 (.string CD[m]) = some (litS CD[m]) := Go.WideMaps.keyOf_string_mk strT_under (by unfold maxLen; exact hok5')
            have hownW := ownsMap_below hown4 hbw (by omega)
            have hat0 := hD.at_ CD[m]
            have hcl := hpvS CD[m]
            have HT := Lib.hid (show (CD.take (m + 1)).map (sumS SL) = (CD.take m).map (sumS SL) ++ [sumS SL CD[m]] by rw [List.take_succ_eq_append_getElem hmlt, List.map_append]; rfl)
            have hlt3 : ((CD.take m).map (sumS SL)).length = m := by rw [List.length_map, List.length_take]; omega
            obtain ⟨cn, hcn⟩ : ∃ cn, cn = sumS SL CD[m] := ⟨_, rfl⟩
            rw [← hcn] at hat0 hcl HT
            obtain ⟨X, hX⟩ : ∃ X, X = (CD.take m).map (sumS SL) := ⟨_, rfl⟩
            rw [← hX] at ho HT hlt3
            have hs5 := hbw.size
            clear hcn hX
            have Hat0 := Lib.hid hat0
            have Hl3 := Lib.hid hlt3
            clear hat0 hlt3
            have hoW : wr.ownsRow w3.heap.size 2 1 u13 X.length (X.flatMap fInt.enc) := ho
            have hXl : X.length ≤ 1000000 := by have := Hl3.out; omega
            clear ho
            go_wp2_with (at_lookup; refine wpList_lookup_own_int _ rfl _ _ 130 rfl 9 2 .i64 (Maps.string_keyed strT_under) mapT_under int64T_under (zeroI_run _) w1.heap.size k _ rfl hownW _ _ rfl hkey ?_)
            intro c hat hwc
            have hc : c = cn := by
              rw [Hat0.out] at hat
              unfold numI at hat
              injection hat with hat
              injection hat with _ hat
              exact hat.symm
            subst hc
            clear hat hwc
            go_wp2_with (at_builtin; refine wpList_append_one rfl _ _ 30 rfl w3.heap.size 2 j0 (.int .i64 0) 1 8 Tryz.underlying30 hj hy0 hy1 hy2 rfl (by decide) u13 X.length _ rfl hoW [.int .i64 c] rfl (by intro u hu; rw [List.mem_singleton] at hu; subst hu; rfl) rfl (by omega) (by decide) hs5 ?_)
            intro v' w6 hown6 hb6 _ _
            have hb7 := hbw.trans hb6
            have ho7 : Own fInt w6 w3.heap.size 2 v' ((CD.take (m + 1)).map (sumS SL)) := by rw [HT.out]; exact Own.push c rfl hown6
            clear hown6
            go_wp2
            go_roundw
            case rel => exact ⟨m + 1, by omega, by go_num, ho7, hb7⟩
            case measure => simp [intOf]; omega
          · have hnd := Hnd.out
            rw [List.take_of_length_le (by omega)] at ho
            have hfin := New2R.of' (w := w) (c := 0) hown3' ho hs14 hBW.size hbw hcok (fun y hy => by
              obtain ⟨s, _, rfl⟩ := List.mem_map.1 hy
              have := hpvS s
              show _ ∧ _; omega) (hBW.trans (hbw.mono hBW.size))
            clear ho hnd
            go_wp2
            go_ret3
            rw [HC.out, HD.out, HM.out]
            exact hfin
set_option maxRecDepth 100000 in
set_option maxHeartbeats 4000000 in
theorem PlacesOf_any (v : Value) (L : List DIncident) (fp : List Nat) (w : World) (hx : Sl fIncident.cod w v L fp) :
    Calls Tryz.prog 20 #[v] w fun e w' => New2R w (sbD prP L) (sbM prP L) (sbC L) e w' := by
  obtain ⟨A, cap, rfl, hlen, hcap⟩ := hx.form
  go_enter Tryz.func20, Tryz.ntmps20
  go_wp2_with fail
  refine (sums_places_any _ L fp _ hx).mono ?_
  rintro e w1 ⟨v1, v2, rfl, h1⟩
  obtain ⟨fp1, fp2, hs1, hs2, _⟩ := id h1
  obtain ⟨A1, cap1, rfl, _, _⟩ := hs1.form
  obtain ⟨A2, cap2, rfl, _, _⟩ := hs2.form
  clear hs1 hs2
  go_wp2
  go_ret3
  exact ⟨_, _, rfl, h1⟩
set_option maxRecDepth 100000 in
set_option maxHeartbeats 4000000 in
theorem CausesBy_any (v : Value) (L : List DIncident) (fp : List Nat) (w : World) (hx : Sl fIncident.cod w v L fp) :
    Calls Tryz.prog 21 #[v] w fun e w' => New2R w (sbD prC L) (sbM prC L) (sbC L) e w' := by
  obtain ⟨A, cap, rfl, hlen, hcap⟩ := hx.form
  go_enter Tryz.func21, Tryz.ntmps21
  go_wp2_with fail
  refine (sums_causes_any _ L fp _ hx).mono ?_
  rintro e w1 ⟨v1, v2, rfl, h1⟩
  obtain ⟨fp1, fp2, hs1, hs2, _⟩ := id h1
  obtain ⟨A1, cap1, rfl, _, _⟩ := hs1.form
  obtain ⟨A2, cap2, rfl, _, _⟩ := hs2.form
  clear hs1 hs2
  go_wp2
  go_ret3
  exact ⟨_, _, rfl, h1⟩

end Go.Proofs.YthabmofkjdiccaaGreatDoor

namespace Go.Proofs.YthabmofkjdiccaaGreatDoor
set_option linter.unusedVariables false

/-- How many have a property. -/
def cntB {α : Type} (p : α → Bool) (L : List α) : Int := ((L.filter p).length : Nat)
theorem cntB_nil {α : Type} (p : α → Bool) : cntB p [] = 0 := rfl
theorem cntB_cons {α : Type} (p : α → Bool) (x : α) (L : List α) : cntB p (x :: L) = cntB p L + (if p x = true then 1 else 0) := by
  unfold cntB
  by_cases h : p x = true
  · rw [List.filter_cons_of_pos h, if_pos h, List.length_cons]; omega
  · rw [List.filter_cons_of_neg h, if_neg h]; omega
theorem cntB_nonneg {α : Type} (p : α → Bool) (L : List α) : 0 ≤ cntB p L := by unfold cntB; omega
theorem cntB_le {α : Type} (p : α → Bool) (L : List α) : cntB p L ≤ L.length := by
  unfold cntB
  have := List.length_filter_le p L
  omega
theorem cntB_all {α : Type} {p : α → Bool} {L : List α} : cntB p L = L.length ↔ ∀ x ∈ L, p x = true := by
  unfold cntB
  constructor
  · intro h x hx
    have h2 : (L.filter p).length = L.length := by omega
    exact List.filter_eq_self.1 (List.Sublist.eq_of_length (List.filter_sublist) h2) x hx
  · intro h
    rw [List.filter_eq_self.2 h]
theorem cntB_congr {α : Type} {p q : α → Bool} {L : List α} (h : ∀ x ∈ L, p x = q x) : cntB p L = cntB q L := by
  unfold cntB
  rw [List.filter_congr h]
theorem cntB_take {α : Type} {p : α → Bool} {L : List α} {k : Nat} (hk : k < L.length) : cntB p (L.take (k + 1)) = cntB p (L.take k) + (if p L[k] = true then 1 else 0) := by
  unfold cntB
  rw [List.take_succ_eq_append_getElem hk, List.filter_append, List.length_append]
  by_cases h : p L[k] = true
  · rw [if_pos h, List.filter_cons_of_pos h, List.filter_nil, List.length_singleton]; omega
  · rw [if_neg h, List.filter_cons_of_neg h, List.filter_nil, List.length_nil]; omega
theorem cntB_yes {α : Type} {p : α → Bool} {L : List α} {k : Nat} (hk : k < L.length) (h : p L[k] = true) : cntB p (L.take (k + 1)) = cntB p (L.take k) + 1 := by rw [cntB_take hk, if_pos h]
theorem cntB_no {α : Type} {p : α → Bool} {L : List α} {k : Nat} (hk : k < L.length) (h : p L[k] = false) : cntB p (L.take (k + 1)) = cntB p (L.take k) := by rw [cntB_take hk, if_neg (by rw [h]; decide)]; omega
theorem cntB_full {α : Type} {p : α → Bool} {L : List α} {k : Nat} (hk : L.length ≤ k) : cntB p (L.take k) = cntB p L := by rw [List.take_of_length_le hk]
theorem cntB_zero {α : Type} (p : α → Bool) (L : List α) : cntB p (L.take 0) = 0 := rfl

end Go.Proofs.YthabmofkjdiccaaGreatDoor

namespace Go.Proofs.YthabmofkjdiccaaGreatDoor
open Go.RowKit
set_option linter.unusedVariables false

structure DGroup where
  id : ByteArray
  people : Int
  guides : Int
  beacons : Int
  shovels : Int
  probes : Int
  skill : Int
  deriving DecidableEq

def fGroup : Flat DGroup where
  n := 7
  enc := fun x => [.string x.id, .int .i64 x.people, .int .i64 x.guides, .int .i64 x.beacons, .int .i64 x.shovels, .int .i64 x.probes, .int .i64 x.skill]
  ok := fun x => fStr.ok x.id ∧ fInt.ok x.people ∧ fInt.ok x.guides ∧ fInt.ok x.beacons ∧ fInt.ok x.shovels ∧ fInt.ok x.probes ∧ fInt.ok x.skill
  pos := by omega
  len := fun _ => rfl
  one := by intro x v hv; simp at hv; rcases hv with rfl | rfl | rfl | rfl | rfl | rfl | rfl <;> rfl

def totGroup (x : DGroup) : Nat := x.id.size
def totGroupS (xs : List DGroup) : Nat := xs.length + (xs.map totGroup).sum






def mkGroup (k : Int) : DGroup := ⟨mt (k), k + 1, k + 1 + 1, k + 1 + 1 + 1, k + 1 + 1 + 1 + 1, k + 1 + 1 + 1 + 1 + 1, k + 1 + 1 + 1 + 1 + 1 + 1⟩
def marksGroup (k : Int) (n : Nat) : List DGroup := (List.range n).map fun (i : Nat) => mkGroup (k + 7 * (i : Int))

theorem marksGroup_get (k0 : Int) (n i : Nat) (h : i < (marksGroup k0 n).length) : (marksGroup k0 n)[i] = mkGroup (k0 + 7 * (i : Int)) := by
  simp [marksGroup]
theorem marksGroup_len (k0 : Int) (n : Nat) : (marksGroup k0 n).length = n := by simp [marksGroup]



end Go.Proofs.YthabmofkjdiccaaGreatDoor

namespace Go.Proofs.YthabmofkjdiccaaGreatDoor
open Go.RowKit
set_option linter.unusedVariables false

/-- A pointer to a Group that lies somewhere. -/
structure PGroup (w : World) (pb po : Nat) (x : DGroup) : Prop where
  c0 : w.cell? ⟨pb, po, none⟩ = some (.string x.id)
  c1 : w.cell? ⟨pb, po + 1, none⟩ = some (.int .i64 x.people)
  c2 : w.cell? ⟨pb, po + 2, none⟩ = some (.int .i64 x.guides)
  c3 : w.cell? ⟨pb, po + 3, none⟩ = some (.int .i64 x.beacons)
  c4 : w.cell? ⟨pb, po + 4, none⟩ = some (.int .i64 x.shovels)
  c5 : w.cell? ⟨pb, po + 5, none⟩ = some (.int .i64 x.probes)
  c6 : w.cell? ⟨pb, po + 6, none⟩ = some (.int .i64 x.skill)
theorem PGroup.below {w w' : World} {pb po : Nat} {x : DGroup} {B : Nat} (h : PGroup w pb po x) (hb : Below B w w') (hB : pb < B) : PGroup w' pb po x :=
  ⟨(hb.cell (p := ⟨pb, _, none⟩) hB).trans h.c0, (hb.cell (p := ⟨pb, _, none⟩) hB).trans h.c1, (hb.cell (p := ⟨pb, _, none⟩) hB).trans h.c2, (hb.cell (p := ⟨pb, _, none⟩) hB).trans h.c3, (hb.cell (p := ⟨pb, _, none⟩) hB).trans h.c4, (hb.cell (p := ⟨pb, _, none⟩) hB).trans h.c5, (hb.cell (p := ⟨pb, _, none⟩) hB).trans h.c6⟩
theorem PGroup.drewN {w : World} {pb po : Nat} {x : DGroup} (h : PGroup w pb po x) (n : Nat) : PGroup (w.drewN n) pb po x :=
  ⟨h.c0, h.c1, h.c2, h.c3, h.c4, h.c5, h.c6⟩
theorem PGroup.lt {w : World} {pb po : Nat} {x : DGroup} (h : PGroup w pb po x) : pb < w.heap.size := block_lt_of_cell h.c0
theorem PGroup.below' {w w' : World} {pb po : Nat} {x : DGroup} (h : PGroup w pb po x) (hb : Below w.heap.size w w') : PGroup w' pb po x := h.below hb h.lt
theorem PGroup.box (w : World) (x : DGroup) (T : TypeId) : PGroup (w.alloc (.cells #[.string x.id, .int .i64 x.people, .int .i64 x.guides, .int .i64 x.beacons, .int .i64 x.shovels, .int .i64 x.probes, .int .i64 x.skill] T)) w.heap.size 0 x := by
  constructor <;> simp
theorem PGroup.elem {w : World} {A : Option Addr} {len cap : Nat} {xs : List DGroup} {fp : List Nat} (h : Sl fGroup.cod w (.slice A len cap) xs fp) {k : Nat} (hk : k < xs.length) :
    ∃ b off, A = some ⟨b, off, none⟩ ∧ b ∈ fp ∧ fGroup.ok xs[k] ∧ PGroup w b (off + k * 7) xs[k] := by
  obtain ⟨b, off, hA, hm, hok, hc, _⟩ := h.at_ hk
  exact ⟨b, off, hA, hm, hok, ⟨hc 0 (by decide), hc 1 (by decide), hc 2 (by decide), hc 3 (by decide), hc 4 (by decide), hc 5 (by decide), hc 6 (by decide)⟩⟩
end Go.Proofs.YthabmofkjdiccaaGreatDoor

namespace Go.Proofs.YthabmofkjdiccaaGreatDoor
open Go.RowKit
set_option linter.unusedVariables false

def groupB (x : DGroup) : Bool := nameB x.id && inB x.people 1 30 && inB x.guides 0 x.people && inB x.beacons 0 30 && inB x.shovels 0 30 && inB x.probes 0 30 && inB x.skill 1 5
def levelB (n : Int) : Bool := inB n 1 5
set_option maxRecDepth 100000 in
set_option maxHeartbeats 400000 in
theorem l17Is_any (a : Int) (w : World) : Calls Tryz.prog 118 #[.int .i64 a] w fun e w' => e = .returned (.bool (levelB a)) ∧ w = w' := by
  go_enter Tryz.func118, Tryz.ntmps118
  go_wp2_with (go_at_call 132; refine (l00InB_any _ _ _ _).mono ?_; rintro e w' ⟨rfl, rfl⟩)
  go_ret
  exact ⟨rfl, rfl⟩
set_option maxRecDepth 100000 in
set_option maxHeartbeats 400000 in
theorem levelOk_any (a : Int) (w : World) : Calls Tryz.prog 80 #[.int .i64 a] w fun e w' => e = .returned (.bool (levelB a)) ∧ w = w' := by
  go_enter Tryz.func80, Tryz.ntmps80
  go_wp2_with (go_at_call 100; refine (withinB_any _ _ _ _).mono ?_; rintro e w' ⟨rfl, rfl⟩)
  go_ret
  exact ⟨rfl, rfl⟩

def allIn (xs : List Int) (lo hi : Int) : Bool := xs.all fun x => inB x lo hi
set_option maxRecDepth 100000 in
set_option maxHeartbeats 1000000 in
theorem allWithin1_any (x lo hi : Int) (a1 a2 : Addr) (w : World) (h1 : w.cell? a1 = some (.int .i64 lo)) (h2 : w.cell? a2 = some (.int .i64 hi)) :
    Calls Tryz.prog 110 #[.int .i64 x, .pointer (some a1), .pointer (some a2)] w fun e w' => e = .returned (.bool (!(inB x lo hi))) ∧ w = w' := by
  go_enter Tryz.func110, Tryz.ntmps110
  go_wp2_with (go_at_call 100; refine (withinB_any _ _ _ _).mono ?_; rintro e w' ⟨rfl, rfl⟩)
  go_ret
  exact ⟨rfl, rfl⟩

/-- Where the first element outside stands, or -1. -/
def IdxR (xs : List Int) (lo hi : Int) (w : World) (e : Ending) (w' : World) : Prop := ∃ r : Int, e = .returned (.int .i64 r) ∧ (allIn xs lo hi = true → r = -1) ∧ (allIn xs lo hi = false → 0 ≤ r) ∧ w = w'
set_option maxRecDepth 100000 in
set_option maxHeartbeats 1000000 in
theorem indexWithin_any (v : Value) (xs : List Int) (fp : List Nat) (lo hi : Int) (a1 a2 : Addr) (w : World) (hx : Sl fInt.cod w v xs fp) (h1 : w.cell? a1 = some (.int .i64 lo)) (h2 : w.cell? a2 = some (.int .i64 hi)) :
    Calls Tryz.prog 133 #[v, .func (.func 110) #[] #[.pointer (some a1), .pointer (some a2)]] w fun e w' => IdxR xs lo hi w e w' := by
  obtain ⟨A, cap, rfl, hlen, hcap⟩ := hx.form
  go_enter Tryz.func133, Tryz.ntmps133
  go_wp2
  go_loop [8] (fun i => ∃ k : Nat, k ≤ xs.length ∧ i = .int .i64 k ∧ Hid (allIn (xs.take k) lo hi = true)) (fun i => xs.length - (intOf i).toNat)
  case atStart => exact ⟨0, Nat.zero_le _, rfl, rfl⟩
  case round =>
    obtain ⟨k, hk, rfl, HE⟩ := hrel
    by_cases hlt : k < xs.length
    · obtain ⟨b, off, rfl, _, hok, hc, _⟩ := hx.cell1 rfl hlt rfl
      cases hb : inB xs[k] lo hi
      · have HA : Hid (allIn xs lo hi = false) := by
          show allIn xs lo hi = false
          unfold allIn
          rw [List.all_eq_false]
          exact ⟨xs[k], List.getElem_mem hlt, by rw [hb]; simp⟩
        go_wp2_with (go_at_call 110; refine (allWithin1_any _ _ _ _ _ _ h1 h2).mono ?_; rintro e w' ⟨rfl, rfl⟩)
        go_ret
        exact ⟨k, rfl, fun h => by (rw [HA.out] at h; cases h), fun _ => by omega, rfl⟩
      · have HA : Hid (allIn (xs.take (k + 1)) lo hi = true) := by
          show allIn _ lo hi = true
          have h0 := HE.out
          unfold allIn at *
          rw [List.take_succ_eq_append_getElem hlt, List.all_append, h0]
          simp [hb]
        go_wp2_with (go_at_call 110; refine (allWithin1_any _ _ _ _ _ _ h1 h2).mono ?_; rintro e w' ⟨rfl, rfl⟩)
        go_round
        case rel => exact ⟨k + 1, by omega, by go_num, HA⟩
        case measure => simp [intOf]; omega
    · have HA : Hid (allIn xs lo hi = true) := by have := HE.out; rw [List.take_of_length_le (by omega)] at this; exact this
      go_wp2
      go_ret
      exact ⟨-1, rfl, fun _ => rfl, fun h => by (rw [HA.out] at h; cases h), rfl⟩

set_option maxRecDepth 100000 in
set_option maxHeartbeats 1000000 in
theorem containsWithin_any (v : Value) (xs : List Int) (fp : List Nat) (lo hi : Int) (a1 a2 : Addr) (w : World) (hx : Sl fInt.cod w v xs fp) (h1 : w.cell? a1 = some (.int .i64 lo)) (h2 : w.cell? a2 = some (.int .i64 hi)) :
    Calls Tryz.prog 109 #[v, .func (.func 110) #[] #[.pointer (some a1), .pointer (some a2)]] w fun e w' => e = .returned (.bool (!(allIn xs lo hi))) ∧ w = w' := by
  go_enter Tryz.func109, Tryz.ntmps109
  go_wp2_with fail
  refine (indexWithin_any v xs fp lo hi a1 a2 w hx h1 h2).mono ?_
  rintro e w' ⟨r, rfl, hr1, hr2, rfl⟩
  cases hb : allIn xs lo hi
  · have h3 := hr2 hb
    clear hr1 hr2
    go_wp2
    go_ret
    exact ⟨ret_bool (by simp [hb]), rfl⟩
  · have h3 := hr1 hb
    clear hr1 hr2
    subst h3
    go_wp2
    go_ret
    exact ⟨ret_bool (by simp [hb]), rfl⟩

set_option maxRecDepth 100000 in
set_option maxHeartbeats 1000000 in
theorem allWithin_any (v : Value) (xs : List Int) (fp : List Nat) (lo hi : Int) (w : World) (hx : Sl fInt.cod w v xs fp) :
    Calls Tryz.prog 78 #[v, .int .i64 lo, .int .i64 hi] w fun e w' => e = .returned (.bool (allIn xs lo hi)) ∧ Below w.heap.size w w' := by
  have hmf : ∀ (fn : Fn) (first cap : Array Value) (W : World), (Instr.makeFunc fn first cap).run Tryz.prog W = .ok (.func fn first cap) W := fun _ _ _ _ => rfl
  have hx2 := (hx.below' ((Below.refl _ _).alloc (Nat.le_refl _) (.cells #[.int .i64 lo] 2))).below' ((Below.refl _ _).alloc (Nat.le_refl _) (.cells #[.int .i64 hi] 2))
  go_enter Tryz.func78, Tryz.ntmps78
  go_wp2_with fail
  refine (containsWithin_any v xs fp lo hi _ _ _ hx2 (by simp) (by simp)).mono ?_
  rintro e w' ⟨rfl, rfl⟩
  cases hb : allIn xs lo hi
  all_goals
    go_wp2
    go_ret
    exact ⟨ret_bool (by simp [hb]), (by repeat (first | exact Below.refl _ _ | assumption | refine Below.alloc ?_ (by first | omega | (simp <;> omega)) _ | refine Below.setCell ?_ (by first | (show _ ≤ _; omega) | (simp <;> omega)) _ | refine Below.drew ?_ | refine below_drewN ?_ _))⟩

end Go.Proofs.YthabmofkjdiccaaGreatDoor

namespace Go.Proofs.YthabmofkjdiccaaGreatDoor
open Go.RowKit
set_option linter.unusedVariables false

def absF (n : Int) : Int := max n (-n)
def drF (a b : Int) : Int := if absF b - absF (Int.tmod a b) ≤ absF (Int.tmod a b) then (if a < 0 ↔ b < 0 then Int.tdiv a b + 1 else Int.tdiv a b - 1) else Int.tdiv a b
theorem absF_le {n m : Int} : absF n ≤ m ↔ -m ≤ n ∧ n ≤ m := by unfold absF; omega
theorem tmod_parts {a b : Int} (hb : 0 < b) : ∃ q r, Int.tdiv a b = q ∧ Int.tmod a b = r ∧ a = q * b + r ∧ -b < r ∧ r < b ∧ (0 ≤ a → 0 ≤ r) ∧ (a < 0 → r ≤ 0) := by
  refine ⟨_, _, rfl, rfl, ?_, ?_, Int.tmod_lt_of_pos _ hb, fun h => Int.tmod_nonneg _ h, fun h => ?_⟩
  · have := Int.mul_tdiv_add_tmod a b
    rw [Int.mul_comm]; omega
  · rcases Int.lt_or_le a 0 with h | h
    · have h1 := Int.tmod_lt_of_pos (-a) hb
      rw [Int.neg_tmod] at h1; omega
    · have := Int.tmod_nonneg b h; omega
  · have h1 := Int.tmod_nonneg b (show (0 : Int) ≤ -a by omega)
    rw [Int.neg_tmod] at h1; omega
/-- The quotient is as near as can be. -/
theorem drF_near {a b : Int} (hb : 0 < b) : -b ≤ 2 * (drF a b * b - a) ∧ 2 * (drF a b * b - a) ≤ b := by
  obtain ⟨q, r, hq, hr, ha, h1, h2, h3, h4⟩ := tmod_parts (a := a) hb
  unfold drF
  rw [hq, hr]
  have e : absF b = b := by unfold absF; omega
  have hb2 : ¬ b < 0 := by omega
  rw [e]
  rcases Int.lt_or_le a 0 with hn | hn
  · have hr2 := h4 hn
    have e2 : absF r = -r := by unfold absF; omega
    rw [e2]
    split
    · rw [if_neg (fun h => hb2 (h.1 hn)), Int.sub_mul]; omega
    · omega
  · have hr2 := h3 hn
    have e2 : absF r = r := by unfold absF; omega
    rw [e2]
    split
    · rw [if_pos ⟨fun h => absurd h (by omega), fun h => absurd h hb2⟩, Int.add_mul]; omega
    · omega
theorem mul_lt_cancel {x y n : Int} (hn : 0 < n) (h : x * n < y * n) : x < y := Int.lt_of_mul_lt_mul_right h (by omega)
/-- A quotient of a sum that lies between lo * b and hi * b lies between lo and hi. -/
theorem drF_between {a b lo hi : Int} (hb : 0 < b) (h1 : lo * b ≤ a) (h2 : a ≤ hi * b) : lo ≤ drF a b ∧ drF a b ≤ hi := by
  obtain ⟨h3, h4⟩ := drF_near (a := a) hb
  constructor
  · refine Int.le_of_lt_add_one (mul_lt_cancel hb ?_)
    rw [Int.add_mul]; omega
  · refine Int.le_of_lt_add_one (mul_lt_cancel hb ?_)
    rw [Int.add_mul]; omega
theorem quo_bounds {a b q r : Int} (hb : 0 < b) (hab : a = q * b + r) (h1 : -b < r) (h2 : r < b) (h3 : 0 ≤ a → 0 ≤ r) (h4 : a < 0 → r ≤ 0) (ha : -1000000000000000000 ≤ a ∧ a ≤ 1000000000000000000) : -1000000000000000000 ≤ q ∧ q ≤ 1000000000000000000 := by
  constructor
  · refine Int.not_lt.1 (fun h => ?_)
    have : q * b ≤ (-1000000000000000001) * 1 := by
      have h5 : q * b ≤ q * 1 := Int.mul_le_mul_of_nonpos_left (by omega) (by omega)
      omega
    rcases Int.lt_or_le a 0 with h0 | h0
    · have := h4 h0
      have h6 : q * b + 0 ≤ q * b + 0 := Int.le_refl _
      omega
    · have h5 : q * b ≤ (-1) * b := Int.mul_le_mul_of_nonneg_right (by omega) (by omega)
      omega
  · refine Int.not_lt.1 (fun h => ?_)
    have h5 : q * 1 ≤ q * b := Int.mul_le_mul_of_nonneg_left (by omega) (by omega)
    rcases Int.lt_or_le a 0 with h0 | h0
    · have h6 : 1 * b ≤ q * b := Int.mul_le_mul_of_nonneg_right (by omega) (by omega)
      omega
    · have := h3 h0
      omega
set_option maxRecDepth 100000 in
set_option maxHeartbeats 1000000 in
theorem abs_any (n : Int) (w : World) (hn : -1000000000000000000 ≤ n ∧ n ≤ 1000000000000000000) :
    Calls Tryz.prog 44 #[.int .i64 n] w fun e w' => e = .returned (.int .i64 (absF n)) ∧ w = w' := by
  by_cases h : n < 0
  · have e1 : absF n = -n := by unfold absF; omega
    rw [e1]
    go_enter Tryz.func44, Tryz.ntmps44
    go_wp2
    go_ret
    first | exact ⟨rfl, rfl⟩ | exact ⟨ret_int (by omega), rfl⟩
  · have e1 : absF n = n := by unfold absF; omega
    rw [e1]
    go_enter Tryz.func44, Tryz.ntmps44
    go_wp2
    go_ret
    first | exact ⟨rfl, rfl⟩ | exact ⟨ret_int (by omega), rfl⟩
set_option maxRecDepth 100000 in
set_option maxHeartbeats 4000000 in
theorem divRound_any (a b : Int) (w : World) (ha : -1000000000000000000 ≤ a ∧ a ≤ 1000000000000000000) (hb : 0 < b ∧ b ≤ 1000000000000000000) :
    Calls Tryz.prog 43 #[.int .i64 a, .int .i64 b] w fun e w' => e = .returned (.int .i64 (drF a b)) ∧ Below w.heap.size w w' := by
  obtain ⟨q, r, hq, hr, hab, h1, h2, h3, h4⟩ := tmod_parts (a := a) hb.1
  have hqb : -1000000000000000000 ≤ q ∧ q ≤ 1000000000000000000 := quo_bounds hb.1 hab h1 h2 h3 h4 ha
  have eb : absF b = b := by unfold absF; omega
  have HF : Hid (drF a b = if b - absF r ≤ absF r then (if a < 0 ↔ b < 0 then q + 1 else q - 1) else q) := by show _ = _; unfold drF; rw [hq, hr, eb]
  have hab2 : 0 ≤ absF r ∧ absF r ≤ 1000000000000000000 := by unfold absF; omega
  have hrb : -1000000000000000000 ≤ r ∧ r ≤ 1000000000000000000 := by omega
  generalize drF a b = R at *
  have w1 : wrap64 q = q := by unfold wrap64; omega
  have w2 : wrap64 r = r := by unfold wrap64; omega
  clear hab h1 h2 h3 h4
  go_enter Tryz.func43, Tryz.ntmps43
  go_wp2
  refine wp_region_mix (C := fun w' => ∃ p : Regrown, w' = Go.Sort.grow (redrawn w p.d) p.os) [true, true, true, true, true, true, false, true, true] (by kernel_rfl) (by kernel_rfl) (by kernel_rfl) (fun _ _ d _ _ h => by cases d <;> exact h) (regrown_of_below (Below.drew (Below.refl _ _))) ?_
  have hS0 : Below (w.heap.size) w w.drew := Below.drew (Below.refl _ _)
  refine wpMix_pure (by kernel_rfl) (fun K hK => ?_); go_big_quiet_op; refine hK _ ?_; clear hK K
  refine wpMix_pure (by kernel_rfl) (fun K hK => ?_); go_big_quiet_op; refine hK _ ?_; clear hK K
  refine wpMix_pure (by kernel_rfl) (fun K hK => ?_); go_big_quiet_op; refine hK _ ?_; clear hK K
  refine wpMix_pure (by kernel_rfl) (fun K hK => ?_); go_big_quiet_op; refine hK _ ?_; clear hK K
  refine wpMix_pure (by kernel_rfl) (fun K hK => ?_); go_big_quiet_op; refine hK _ ?_; clear hK K
  refine wpMix_pure (by kernel_rfl) (fun K hK => ?_); go_big_quiet_op; refine hK _ ?_; clear hK K
  refine wpMix_act (by kernel_rfl) (fun K hK => ?_)
  go_big_op
  refine (abs_any _ _ (by omega)).mono ?_
  rintro e w' ⟨rfl, rfl⟩
  refine hK _ _ (regrown_of_below hS0) ?_
  clear hK K
  refine wpMix_pure (by kernel_rfl) (fun K hK => ?_); go_big_quiet_op; refine hK _ ?_; clear hK K
  refine wpMix_pure (by kernel_rfl) (fun K hK => ?_); go_big_quiet_op; refine hK _ ?_; clear hK K
  refine wpMix_nil ?_
  have hB := hS0
  go_wp2_with fail
  refine (abs_any _ _ (by omega)).mono ?_
  rintro e w' ⟨rfl, rfl⟩
  rw [eb]
  by_cases hc : b - absF r ≤ absF r
  · have HG := Lib.hid (HF.out.trans (if_pos hc))
    by_cases hn : a < 0
    · have e1 : (decide (a < 0) == decide (b < 0)) = false := by rw [decide_eq_true hn, decide_eq_false (show ¬ b < 0 by omega)]; rfl
      have e2 : (true == decide (b < 0)) = false := by rw [decide_eq_false (show ¬ b < 0 by omega)]; rfl
      have HX := Lib.hid (HG.out.trans (if_neg (fun h => by have := h.1 hn; omega)))
      go_wp2
      go_ret
      exact ⟨by rw [HX.out]; rfl, hB⟩
    · have HX := Lib.hid (HG.out.trans (if_pos ⟨fun h => absurd h hn, fun h => absurd h (by omega)⟩))
      have e1 : (decide (a < 0) == decide (b < 0)) = true := by rw [decide_eq_false hn, decide_eq_false (show ¬ b < 0 by omega)]; rfl
      go_wp2
      go_ret
      exact ⟨by rw [HX.out]; rfl, hB⟩
  · have HX := Lib.hid (HF.out.trans (if_neg hc))
    go_wp2
    go_ret
    exact ⟨by rw [HX.out]; rfl, hB⟩
set_option maxRecDepth 100000 in
set_option maxHeartbeats 1000000 in
theorem b10Abs_any (n : Int) (w : World) (hn : -1000000000000000000 ≤ n ∧ n ≤ 1000000000000000000) :
    Calls Tryz.prog 10 #[.int .i64 n] w fun e w' => e = .returned (.int .i64 (absF n)) ∧ w = w' := by
  by_cases h : n < 0
  · have e1 : absF n = -n := by unfold absF; omega
    rw [e1]
    go_enter Tryz.func10, Tryz.ntmps10
    go_wp2
    go_ret
    exact ⟨rfl, rfl⟩
  · have e1 : absF n = n := by unfold absF; omega
    rw [e1]
    go_enter Tryz.func10, Tryz.ntmps10
    go_wp2
    go_ret
    exact ⟨rfl, rfl⟩
set_option maxRecDepth 100000 in
set_option maxHeartbeats 1000000 in
theorem minS_any (a b : Int) (w : World) : Calls Tryz.prog 36 #[.int .i64 a, .int .i64 b] w fun e w' => e = .returned (.int .i64 (min a b)) ∧ w = w' := by
  by_cases h : a < b
  · have e : min a b = a := by omega
    rw [e]
    go_enter Tryz.func36, Tryz.ntmps36
    go_wp2
    go_ret
    exact ⟨rfl, rfl⟩
  · have e : min a b = b := by omega
    rw [e]
    go_enter Tryz.func36, Tryz.ntmps36
    go_wp2
    go_ret
    exact ⟨rfl, rfl⟩
set_option maxRecDepth 100000 in
set_option maxHeartbeats 1000000 in
theorem maxS_any (a b : Int) (w : World) : Calls Tryz.prog 35 #[.int .i64 a, .int .i64 b] w fun e w' => e = .returned (.int .i64 (max a b)) ∧ w = w' := by
  by_cases h : b < a
  · have e : max a b = a := by omega
    rw [e]
    go_enter Tryz.func35, Tryz.ntmps35
    go_wp2
    go_ret
    exact ⟨rfl, rfl⟩
  · have e : max a b = b := by omega
    rw [e]
    go_enter Tryz.func35, Tryz.ntmps35
    go_wp2
    go_ret
    exact ⟨rfl, rfl⟩
end Go.Proofs.YthabmofkjdiccaaGreatDoor

namespace Go.Proofs.YthabmofkjdiccaaGreatDoor
open Go.RowKit
set_option linter.unusedVariables false

theorem ret_iiS {a b c d : Int} (h1 : a = b) (h2 : c = d) : Ending.returned (.tuple #[.int .i64 a, .int .i64 c]) = Ending.returned (.tuple #[.int .i64 b, .int .i64 d]) := by rw [h1, h2]
/-- i is worse than m. -/
def wors (a b : DIncident) : Prop := b.buried < a.buried ∨ (a.buried = b.buried ∧ b.caught < a.caught)
theorem wors_or {a b : DIncident} : 0 < orI [cmI a.buried b.buried, cmI a.caught b.caught] ↔ wors a b := by
  rw [orI_two]
  unfold wors
  have h1 := @cmI_lt a.buried b.buried
  have h2 := @cmI_zero a.buried b.buried
  have h3 := @cmI_lt a.caught b.caught
  have h4 := @cmI_zero a.caught b.caught
  split
  · rename_i h
    have := h2.1 h
    constructor
    · intro hc
      refine .inr ⟨this, ?_⟩
      have h5 : ¬ a.caught < b.caught := fun h => by have := h3.2 h; omega
      have h6 : ¬ a.caught = b.caught := fun h => by have := h4.2 h; omega
      omega
    · rintro (h5 | ⟨_, h5⟩)
      · omega
      · have h6 : ¬ cmI a.caught b.caught < 0 := fun h => by have := h3.1 h; omega
        have h7 : ¬ cmI a.caught b.caught = 0 := fun h => by have := h4.1 h; omega
        omega
  · rename_i h
    constructor
    · intro hc
      have h5 : ¬ a.buried < b.buried := fun h => by have := h1.2 h; omega
      have h6 : ¬ a.buried = b.buried := fun h' => h (h2.2 h')
      exact .inl (by omega)
    · rintro (h5 | ⟨h5, _⟩)
      · have h6 : ¬ cmI a.buried b.buried < 0 := fun h => by have := h1.1 h; omega
        omega
      · exact absurd (h2.2 h5) h
def woC (L : List DIncident) : Int := if incsB L = false then 1 else if L.length = 0 then 3 else 0
set_option maxRecDepth 100000 in
set_option maxHeartbeats 8000000 in
theorem WorstOf_any (v : Value) (L : List DIncident) (fp : List Nat) (w : World) (hx : Sl fIncident.cod w v L fp) (hv : incsB L = true) (hl : 0 < L.length) :
    Calls Tryz.prog 27 #[v] w fun e w' => ∃ m : Nat, ∃ hm : m < L.length, e = .returned (.tuple #[.int .i64 m, .int .i64 0]) ∧ (∀ i (h : i < L.length), ¬ wors L[i] L[m]) ∧ Below w.heap.size w w' := by
  obtain ⟨A, cap, rfl, hlen, hcap⟩ := hx.form
  have hl48 := incsB_len hv
  go_enter Tryz.func27, Tryz.ntmps27
  go_wp2_with fail
  refine (ValidIncidents_any _ L fp _ hx).mono ?_
  rintro e w1 ⟨rfl, hb1⟩
  rw [hv]
  have hx1 := hx.below' hb1
  have e0 : ((L.length : Int) == 0) = false := by rw [beq_eq_false_iff_ne]; omega
  clear hv hx
  go_wp2
  go_loopw [4, 18] (fun b i wr => ∃ (k m : Nat), k ≤ L.length ∧ (∃ hm : m < L.length, Hid (∀ i (h : i < L.length), i < k → ¬ wors L[i] L[m])) ∧ b = .int .i64 m ∧ i = .int .i64 k ∧ Below w1.heap.size w1 wr) (fun _ i _ => L.length - (intOf i).toNat)
  case atStart => exact ⟨0, 0, Nat.zero_le _, ⟨hl, fun i _ h => absurd h (Nat.not_lt_zero _)⟩, rfl, rfl, Below.refl _ _⟩
  case round =>
    obtain ⟨k, m, hk, ⟨hm, HM⟩, rfl, rfl, hb⟩ := hrel
    by_cases hlt : k < L.length
    · obtain ⟨b, off, rfl, _, _, hp⟩ := PIncident.elem (hx1.below' hb) hlt
      obtain ⟨b', off', hA, _, _, hq⟩ := PIncident.elem (hx1.below' hb) hm
      injection hA with hA
      injection hA with hA1 hA2 _
      subst hA1 hA2
      obtain ⟨c0, c1, c2, c3, c4, c5⟩ := id hp
      have hB1 := (Below.refl wr.heap.size wr).alloc (Nat.le_refl _) (.cells #[.int .i64 L[k].day, .string L[k].place, .string L[k].cause, .int .i64 L[k].level, .int .i64 L[k].caught, .int .i64 L[k].buried] 48)
      obtain ⟨d0, d1, d2, d3, d4, d5⟩ := hq.below' hB1
      have hB2 : Below (wr.heap.size + 1) (wr.alloc (.cells #[.int .i64 L[k].day, .string L[k].place, .string L[k].cause, .int .i64 L[k].level, .int .i64 L[k].caught, .int .i64 L[k].buried] 48)) ((wr.alloc (.cells #[.int .i64 L[k].day, .string L[k].place, .string L[k].cause, .int .i64 L[k].level, .int .i64 L[k].caught, .int .i64 L[k].buried] 48)).alloc (.cells #[.int .i64 L[m].day, .string L[m].place, .string L[m].cause, .int .i64 L[m].level, .int .i64 L[m].caught, .int .i64 L[m].buried] 48)) := (Below.refl _ _).alloc (by simp) _
      have hpb := (PIncident.box wr L[k] 48).below hB2 (Nat.lt_succ_self _)
      have hqb := PIncident.box (wr.alloc (.cells #[.int .i64 L[k].day, .string L[k].place, .string L[k].cause, .int .i64 L[k].level, .int .i64 L[k].caught, .int .i64 L[k].buried] 48)) L[m] 48
      rw [World.size_alloc] at hqb
      have hb2 := hb.trans ((hB1.trans (hB2.mono (Nat.le_succ _))).mono hb.size)
      clear hp hq hB1 hB2
      go_wp2
      generalize hW : (wr.alloc (.cells #[.int .i64 L[k].day, .string L[k].place, .string L[k].cause, .int .i64 L[k].level, .int .i64 L[k].caught, .int .i64 L[k].buried] 48)).alloc (.cells #[.int .i64 L[m].day, .string L[m].place, .string L[m].cause, .int .i64 L[m].level, .int .i64 L[m].caught, .int .i64 L[m].buried] 48) = W at *
      clear hW c0 c1 c2 c3 c4 c5 d0 d1 d2 d3 d4 d5
      obtain ⟨c0, c1, c2, c3, c4, c5⟩ := hpb
      obtain ⟨d0, d1, d2, d3, d4, d5⟩ := hqb
      by_cases hw : 0 < orI [cmI L[k].buried L[m].buried, cmI L[k].caught L[m].caught]
      · have HN : Hid (∀ i (h : i < L.length), i < k + 1 → ¬ wors L[i] L[k]) := fun i h hi hc => by
          have hw2 := wors_or.1 hw
          rcases Nat.lt_or_eq_of_le (Nat.le_of_lt_succ hi) with h1 | rfl
          · have h2 := HM.out i h h1
            unfold wors at *
            omega
          · unfold wors at hc; omega
        clear HM
        have gc4 := cell_regrown c4
        have gc5 := cell_regrown c5
        have gd4 := cell_regrown d4
        have gd5 := cell_regrown d5
        refine wp_region_mixed [0, 1, 2, 3, 5, 6, 7, 8, 4, 9, 10, 11, 12] (C := fun w' => ∃ p : Regrown, w' = Go.Sort.grow (redrawn W p.d) p.os) [true, true, true, true, true, true, true, true, false, false, false, false, true] (by kernel_rfl) (by kernel_rfl) (by kernel_rfl) (fun _ _ d _ _ h => by cases d <;> exact h) (regrown_of_below (Below.drew (Below.refl _ _))) ?_
        simp only [List.map_cons, List.map_nil, List.getD_cons_zero, List.getD_cons_succ]
        have hS0 : Below (W.heap.size) W W.drew := Below.drew (Below.refl _ _)
        refine wpMix_pure (by kernel_rfl) (fun K hK => ?_); go_big_quiet_op; refine hK _ ?_; clear hK K
        refine wpMix_pure (by kernel_rfl) (fun K hK => ?_); go_big_quiet_op; refine hK _ ?_; clear hK K
        refine wpMix_pure (by kernel_rfl) (fun K hK => ?_); go_big_quiet_op; refine hK _ ?_; clear hK K
        refine wpMix_pure (by kernel_rfl) (fun K hK => ?_); go_big_quiet_op; refine hK _ ?_; clear hK K
        refine wpMix_pure (by kernel_rfl) (fun K hK => ?_); go_big_quiet_op; refine hK _ ?_; clear hK K
        refine wpMix_pure (by kernel_rfl) (fun K hK => ?_); go_big_quiet_op; refine hK _ ?_; clear hK K
        refine wpMix_pure (by kernel_rfl) (fun K hK => ?_); go_big_quiet_op; refine hK _ ?_; clear hK K
        refine wpMix_pure (by kernel_rfl) (fun K hK => ?_); go_big_quiet_op; refine hK _ ?_; clear hK K
        refine wpMix_act (by kernel_rfl) (fun K hK => ?_)
        go_big_op
        refine (compareI_any _ _ _).mono ?_
        rintro e w' ⟨rfl, rfl⟩
        refine hK _ _ (regrown_of_below hS0) ?_
        clear hK K
        refine wpMix_act (by kernel_rfl) (fun K hK => ?_)
        go_big_op
        refine (compareI_any _ _ _).mono ?_
        rintro e w' ⟨rfl, rfl⟩
        refine hK _ _ (regrown_of_below hS0) ?_
        clear hK K
        refine wpMix_act (by kernel_rfl) (fun K hK => ?_)
        go_big_op
        refine hK _ _ (regrown_of_below (hS0.alloc hS0.size _)) ?_
        clear hK K
        refine mix_world (fun N => Below (W.heap.size) W N ∧ Sl fInt.cod N (.slice (some ⟨W.drew.heap.size, 0, none⟩) 2 2) [cmI L[k].buried L[m].buried, cmI L[k].caught L[m].caught] [W.drew.heap.size]) ⟨hS0.alloc hS0.size _, Sl.lit2 (E := fInt) W.drew [cmI L[k].buried L[m].buried, cmI L[k].caught L[m].caught] _ _ rfl (by intro x hx; simp at hx; rcases hx with rfl | rfl; exact cmI_ok _ _; exact cmI_ok _ _) (by simp) (by simp)⟩ ?_
        rintro wr3 ⟨hbr3S, hbr3F⟩
        refine wpMix_act (by kernel_rfl) (fun K hK => ?_)
        go_big_op
        refine (orJ_any _ _ _ _ hbr3F).mono ?_
        rintro e w' ⟨rfl, rfl⟩
        refine hK _ _ (regrown_of_below hbr3S) ?_
        clear hK K
        refine wpMix_pure (by kernel_rfl) (fun K hK => ?_); go_big_quiet_op; refine hK _ ?_; clear hK K
        refine wpMix_nil ?_
        go_wp2
        go_roundw
        case rel => exact ⟨k + 1, _, by omega, ⟨hlt, HN⟩, rfl, by go_num, hb2.trans ((hbr3S).mono hb2.size)⟩
        case measure => simp [intOf]; omega
      · have HN : Hid (∀ i (h : i < L.length), i < k + 1 → ¬ wors L[i] L[m]) := fun i h hi hc => by
          rcases Nat.lt_or_eq_of_le (Nat.le_of_lt_succ hi) with h1 | rfl
          · exact HM.out i h h1 hc
          · exact hw (wors_or.2 hc)
        clear HM
        have gc4 := cell_regrown c4
        have gc5 := cell_regrown c5
        have gd4 := cell_regrown d4
        have gd5 := cell_regrown d5
        refine wp_region_mixed [0, 1, 2, 3, 5, 6, 7, 8, 4, 9, 10, 11, 12] (C := fun w' => ∃ p : Regrown, w' = Go.Sort.grow (redrawn W p.d) p.os) [true, true, true, true, true, true, true, true, false, false, false, false, true] (by kernel_rfl) (by kernel_rfl) (by kernel_rfl) (fun _ _ d _ _ h => by cases d <;> exact h) (regrown_of_below (Below.drew (Below.refl _ _))) ?_
        simp only [List.map_cons, List.map_nil, List.getD_cons_zero, List.getD_cons_succ]
        have hS0 : Below (W.heap.size) W W.drew := Below.drew (Below.refl _ _)
        refine wpMix_pure (by kernel_rfl) (fun K hK => ?_); go_big_quiet_op; refine hK _ ?_; clear hK K
        refine wpMix_pure (by kernel_rfl) (fun K hK => ?_); go_big_quiet_op; refine hK _ ?_; clear hK K
        refine wpMix_pure (by kernel_rfl) (fun K hK => ?_); go_big_quiet_op; refine hK _ ?_; clear hK K
        refine wpMix_pure (by kernel_rfl) (fun K hK => ?_); go_big_quiet_op; refine hK _ ?_; clear hK K
        refine wpMix_pure (by kernel_rfl) (fun K hK => ?_); go_big_quiet_op; refine hK _ ?_; clear hK K
        refine wpMix_pure (by kernel_rfl) (fun K hK => ?_); go_big_quiet_op; refine hK _ ?_; clear hK K
        refine wpMix_pure (by kernel_rfl) (fun K hK => ?_); go_big_quiet_op; refine hK _ ?_; clear hK K
        refine wpMix_pure (by kernel_rfl) (fun K hK => ?_); go_big_quiet_op; refine hK _ ?_; clear hK K
        refine wpMix_act (by kernel_rfl) (fun K hK => ?_)
        go_big_op
        refine (compareI_any _ _ _).mono ?_
        rintro e w' ⟨rfl, rfl⟩
        refine hK _ _ (regrown_of_below hS0) ?_
        clear hK K
        refine wpMix_act (by kernel_rfl) (fun K hK => ?_)
        go_big_op
        refine (compareI_any _ _ _).mono ?_
        rintro e w' ⟨rfl, rfl⟩
        refine hK _ _ (regrown_of_below hS0) ?_
        clear hK K
        refine wpMix_act (by kernel_rfl) (fun K hK => ?_)
        go_big_op
        refine hK _ _ (regrown_of_below (hS0.alloc hS0.size _)) ?_
        clear hK K
        refine mix_world (fun N => Below (W.heap.size) W N ∧ Sl fInt.cod N (.slice (some ⟨W.drew.heap.size, 0, none⟩) 2 2) [cmI L[k].buried L[m].buried, cmI L[k].caught L[m].caught] [W.drew.heap.size]) ⟨hS0.alloc hS0.size _, Sl.lit2 (E := fInt) W.drew [cmI L[k].buried L[m].buried, cmI L[k].caught L[m].caught] _ _ rfl (by intro x hx; simp at hx; rcases hx with rfl | rfl; exact cmI_ok _ _; exact cmI_ok _ _) (by simp) (by simp)⟩ ?_
        rintro wr3 ⟨hbr3S, hbr3F⟩
        refine wpMix_act (by kernel_rfl) (fun K hK => ?_)
        go_big_op
        refine (orJ_any _ _ _ _ hbr3F).mono ?_
        rintro e w' ⟨rfl, rfl⟩
        refine hK _ _ (regrown_of_below hbr3S) ?_
        clear hK K
        refine wpMix_pure (by kernel_rfl) (fun K hK => ?_); go_big_quiet_op; refine hK _ ?_; clear hK K
        refine wpMix_nil ?_
        go_wp2
        go_roundw
        case rel => exact ⟨k + 1, _, by omega, ⟨hm, HN⟩, rfl, by go_num, hb2.trans ((hbr3S).mono hb2.size)⟩
        case measure => simp [intOf]; omega
    · have hF : ∀ i (h : i < L.length), ¬ wors L[i] L[m] := fun i h => HM.out i h (by omega)
      replace hF := Lib.hid hF
      clear HM
      go_wp2
      go_ret2
      exact ⟨m, hm, rfl, hF.out, hb1.trans (hb.mono hb1.size)⟩
def lvB (l : Int) (x : DIncident) : Bool := decide (x.level = l)
def rtV (L : List DIncident) (l d : Int) : Int := drF (1000 * cntB (lvB l) L) d
set_option maxRecDepth 100000 in
set_option maxHeartbeats 4000000 in
theorem rateOf_any (v : Value) (L : List DIncident) (fp : List Nat) (l d : Int) (w : World) (hx : Sl fIncident.cod w v L fp) (hl : L.length ≤ 48) (hd : 1 ≤ d ∧ d ≤ 1000) :
    Calls Tryz.prog 79 #[v, .int .i64 l, .int .i64 d] w fun e w' => e = .returned (.int .i64 (rtV L l d)) ∧ Below w.heap.size w w' := by
  obtain ⟨A, cap, rfl, hlen, hcap⟩ := hx.form
  go_enter Tryz.func79, Tryz.ntmps79
  go_wp2
  go_loopw [7, 12] (fun n i wr => ∃ (k : Nat) (c : Int), k ≤ L.length ∧ Hid (cntB (lvB l) (L.take k) = c) ∧ 0 ≤ c ∧ c ≤ k ∧ n = .int .i64 c ∧ i = .int .i64 k ∧ Below w.heap.size w wr) (fun _ i _ => L.length - (intOf i).toNat)
  case atStart => exact ⟨0, 0, Nat.zero_le _, rfl, by decide, by decide, rfl, rfl, Below.refl _ _⟩
  case round =>
    obtain ⟨k, c, hk, HC, g0, g1, rfl, rfl, hb⟩ := hrel
    by_cases hlt : k < L.length
    · obtain ⟨b, off, rfl, _, _, hp⟩ := PIncident.elem (hx.below' hb) hlt
      obtain ⟨c0, c1, c2, c3, c4, c5⟩ := id hp
      have hb2 := fun X => hb.alloc hb.size X
      by_cases hq : L[k].level = l
      · have HN := Lib.hid ((cntB_yes (p := lvB l) hlt (decide_eq_true hq)).trans (by rw [HC.out]))
        have e1 : (L[k].level == l) = true := by rw [beq_iff_eq]; exact hq
        clear hq
        go_wp2
        go_roundw
        case rel => exact ⟨k + 1, _, by omega, HN, by omega, by omega, by go_num, by go_num, hb2 _⟩
        case measure => simp [intOf]; omega
      · have HN := Lib.hid ((cntB_no (p := lvB l) hlt (decide_eq_false hq)).trans HC.out)
        have e1 : (L[k].level == l) = false := by rw [beq_eq_false_iff_ne]; exact hq
        clear hq
        go_wp2
        go_roundw
        case rel => exact ⟨k + 1, _, by omega, HN, by omega, by omega, rfl, by go_num, hb2 _⟩
        case measure => simp [intOf]; omega
    · have HV : Hid (rtV L l d = drF (1000 * c) d) := by show _ = _; unfold rtV; rw [← HC.out, cntB_full (by omega)]
      go_wp2_with fail
      refine (divRound_any (1000 * c) d _ (by omega) (by omega)).mono ?_
      rintro e w2 ⟨rfl, hb2⟩
      go_wp2
      go_ret
      exact ⟨ret_int HV.out.symm, hb.trans (hb2.mono hb.size)⟩
set_option maxRecDepth 100000 in
set_option maxHeartbeats 1000000 in
theorem daysOk_any (n : Int) (w : World) : Calls Tryz.prog 81 #[.int .i64 n] w fun e w' => e = .returned (.bool (inB n 1 1000)) ∧ w = w' := by
  go_enter Tryz.func81, Tryz.ntmps81
  go_wp2_with (go_at_call 100; refine (withinB_any _ _ _ _).mono ?_; rintro e w' ⟨rfl, rfl⟩)
  go_ret
  exact ⟨rfl, rfl⟩
set_option maxRecDepth 100000 in
set_option maxHeartbeats 4000000 in
theorem RateOf_any (v : Value) (L : List DIncident) (fp : List Nat) (l d : Int) (w : World) (hx : Sl fIncident.cod w v L fp) (hv : incsB L = true) (hl : 1 ≤ l ∧ l ≤ 5) (hd : 1 ≤ d ∧ d ≤ 1000) :
    Calls Tryz.prog 30 #[v, .int .i64 l, .int .i64 d] w fun e w' => e = .returned (.tuple #[.int .i64 (rtV L l d), .int .i64 0]) ∧ Below w.heap.size w w' := by
  obtain ⟨A, cap, rfl, hlen, hcap⟩ := hx.form
  have h48 := incsB_len hv
  go_enter Tryz.func30, Tryz.ntmps30
  go_wp2_with fail
  refine (ValidIncidents_any _ L fp _ hx).mono ?_
  rintro e w1 ⟨rfl, hb1⟩
  rw [hv]
  have hx1 := hx.below' hb1
  clear hv hx
  go_wp2_with fail
  refine (levelOk_any l _).mono ?_
  rintro e w' ⟨rfl, rfl⟩
  rw [show levelB l = true from inB_true.2 hl]
  go_wp2_with fail
  refine (daysOk_any d _).mono ?_
  rintro e w' ⟨rfl, rfl⟩
  rw [show inB d 1 1000 = true from inB_true.2 hd]
  go_wp2_with fail
  refine (rateOf_any _ L fp l d _ hx1 h48 hd).mono ?_
  rintro e w2 ⟨rfl, hb2⟩
  go_wp2
  go_ret2
  exact ⟨rfl, hb1.trans (hb2.mono hb1.size)⟩
def rtJ (L : List DIncident) (ds : List Int) (j : Nat) : Int := rtV L ((j : Int) + 1) (ds.getD j 0)
def mdC (L : List DIncident) (ds : List Int) : Int := if incsB L = false then 1 else if ds.length = 5 ∧ allIn ds 1 1000 = true then 0 else 7
/-- Of the levels 1 .. k + 1 the level b + 1 has the greatest rate, and is the first that has it. -/
def MdOk (L : List DIncident) (ds : List Int) (k b : Nat) : Prop := b ≤ k ∧ (∀ j, j ≤ k → rtJ L ds j ≤ rtJ L ds b) ∧ ∀ j, j < b → rtJ L ds j < rtJ L ds b
theorem MdOk.zero (L : List DIncident) (ds : List Int) : MdOk L ds 0 0 := ⟨Nat.le_refl _, fun j hj => (by (obtain rfl : j = 0 := by omega); exact Int.le_refl _), fun j hj => absurd hj (Nat.not_lt_zero _)⟩
theorem MdOk.more {L : List DIncident} {ds : List Int} {k b : Nat} (h : MdOk L ds k b) (hg : rtJ L ds b < rtJ L ds (k + 1)) : MdOk L ds (k + 1) (k + 1) := by
  obtain ⟨h1, h2, h3⟩ := h
  refine ⟨Nat.le_refl _, fun j hj => ?_, fun j hj => ?_⟩
  · rcases Nat.lt_or_eq_of_le hj with h | rfl
    · have := h2 j (by omega); omega
    · exact Int.le_refl _
  · have := h2 j (by omega); omega
theorem MdOk.keep {L : List DIncident} {ds : List Int} {k b : Nat} (h : MdOk L ds k b) (hg : ¬ rtJ L ds b < rtJ L ds (k + 1)) : MdOk L ds (k + 1) b := by
  obtain ⟨h1, h2, h3⟩ := h
  refine ⟨by omega, fun j hj => ?_, h3⟩
  rcases Nat.lt_or_eq_of_le hj with h | rfl
  · exact h2 j (by omega)
  · omega
theorem rtV_bounds {L : List DIncident} (hl : L.length ≤ 48) (l : Int) {d : Int} (hd : 1 ≤ d ∧ d ≤ 1000) : 0 ≤ rtV L l d ∧ rtV L l d ≤ 48000 := by
  unfold rtV
  have h1 := cntB_nonneg (lvB l) L
  have h2 := cntB_le (lvB l) L
  refine drF_between (by omega) (by omega) ?_
  have h3 : (48000 : Int) * 1 ≤ 48000 * d := Int.mul_le_mul_of_nonneg_left hd.1 (by decide)
  omega
set_option maxRecDepth 100000 in
set_option maxHeartbeats 8000000 in
theorem MostDangerous_any (v v2 : Value) (L : List DIncident) (ds : List Int) (fp fd : List Nat) (w : World) (hx : Sl fIncident.cod w v L fp) (hy : Sl fInt.cod w v2 ds fd) :
    Calls Tryz.prog 29 #[v, v2] w fun e w' => ∃ p q : Int, e = .returned (.tuple #[.int .i64 p, .int .i64 q, .int .i64 (mdC L ds)]) ∧ (mdC L ds ≠ 0 → p = 0 ∧ q = 0) ∧ (mdC L ds = 0 → ∃ b : Nat, p = (b : Int) + 1 ∧ q = rtJ L ds b ∧ MdOk L ds 4 b) ∧ Below w.heap.size w w' := by
  obtain ⟨A, cap, rfl, hlen, hcap⟩ := hx.form
  obtain ⟨A2, cap2, rfl, hlen2, hcap2⟩ := hy.form
  go_enter Tryz.func29, Tryz.ntmps29
  go_wp2_with fail
  refine (ValidIncidents_any _ L fp _ hx).mono ?_
  rintro e w1 ⟨rfl, hb1⟩
  cases hv : incsB L
  · have HC := Lib.hid (show mdC L ds = 1 by unfold mdC; rw [hv]; rfl)
    clear hv
    go_wp2
    go_ret3
    exact ⟨0, 0, by rw [HC.out]; rfl, fun _ => ⟨rfl, rfl⟩, fun h => by rw [HC.out] at h; exact absurd h (by decide), hb1⟩
  have hx1 := hx.below' hb1
  have hy1 := hy.below' hb1
  have h48 := incsB_len hv
  by_cases h5 : ds.length = 5
  rotate_left
  · have HC := Lib.hid (show mdC L ds = 7 by unfold mdC; rw [hv, if_neg (by decide), if_neg (fun h => h5 h.1)])
    have e5 : ((ds.length : Int) != 5) = true := by simp; omega
    clear hv h5
    go_wp2
    go_ret3
    exact ⟨0, 0, by rw [HC.out]; rfl, fun _ => ⟨rfl, rfl⟩, fun h => by rw [HC.out] at h; exact absurd h (by decide), hb1⟩
  have e5 : ((ds.length : Int) != 5) = false := by rw [h5]; rfl
  have H5 := Lib.hid h5
  clear h5
  go_wp2_with fail
  refine (allWithin_any _ ds fd 1 1000 _ hy1).mono ?_
  rintro e w2 ⟨rfl, hb2⟩
  replace hx1 := hx1.below' hb2
  replace hy1 := hy1.below' hb2
  have hB2 := hb1.trans (hb2.mono hb1.size)
  clear hb1 hb2
  cases ha : allIn ds 1 1000
  · have HC := Lib.hid (show mdC L ds = 7 by unfold mdC; rw [hv, if_neg (by decide), if_neg (fun h => by rw [ha] at h; exact absurd h.2 (by decide))])
    clear hv ha
    go_wp2
    go_ret3
    exact ⟨0, 0, by rw [HC.out]; rfl, fun _ => ⟨rfl, rfl⟩, fun h => by rw [HC.out] at h; exact absurd h (by decide), hB2⟩
  have HC := Lib.hid (show mdC L ds = 0 by unfold mdC; rw [hv, if_neg (by decide), if_pos ⟨H5.out, ha⟩])
  have hdk : ∀ j (h : j < ds.length), 1 ≤ ds[j] ∧ ds[j] ≤ 1000 := fun j h => by
    unfold allIn at ha
    rw [List.all_eq_true] at ha
    exact inB_true.1 (ha _ (List.getElem_mem h))
  have hgd : ∀ j (h : j < ds.length), rtJ L ds j = rtV L ((j : Int) + 1) ds[j] := fun j h => by unfold rtJ; rw [getD_of_lt h]
  clear hv ha
  obtain ⟨bd, od, rfl, _, _, n0, _⟩ := hy1.cell1 rfl (k := 0) (by have := H5.out; omega) rfl
  have hd0 := hdk 0 (by have := H5.out; omega)
  have hr0 := hgd 0 (by have := H5.out; omega)
  have hge0 : 0 < ds.length := by have := H5.out; omega
  have n0' : w2.cell? ⟨bd, od, none⟩ = some (.int .i64 (ds[0]'hge0)) := by simpa using n0
  go_wp2_with fail
  refine (rateOf_any _ L fp 1 (ds[0]'hge0) _ hx1 h48 hd0).mono ?_
  rintro e w3 ⟨rfl, hb3⟩
  replace hx1 := hx1.below' hb3
  replace hy1 := hy1.below' hb3
  have hB3 := hB2.trans (hb3.mono hB2.size)
  have hr0' : rtV L 1 (ds[0]'hge0) = rtJ L ds 0 := by rw [hr0]; rfl
  have hbd0 := rtV_bounds h48 1 hd0
  have hr0h := Lib.hid hr0'.symm
  clear hb3 hB2 n0 n0' hr0 hr0'
  go_wp2
  go_loopw [7, 8, 9] (fun p q i wr => ∃ (k b : Nat) (r : Int), k ≤ 4 ∧ Hid (MdOk L ds k b) ∧ b ≤ k ∧ Hid (rtJ L ds b = r) ∧ p = .int .i64 ((b : Int) + 1) ∧ q = .int .i64 r ∧ i = .int .i64 ((k : Int) + 2) ∧ Below w3.heap.size w3 wr) (fun _ _ i _ => 6 - (intOf i).toNat)
  case atStart => exact ⟨0, 0, _, by decide, MdOk.zero L ds, Nat.le_refl _, hr0h, rfl, rfl, rfl, Below.refl _ _⟩
  case round =>
    obtain ⟨k, b, r, hk, HM, hbk, HR, rfl, rfl, rfl, hb⟩ := hrel
    by_cases hlt : k < 4
    · have hk1 : k + 1 < ds.length := by have := H5.out; omega
      obtain ⟨bd', od', hA', _, _, n1, _⟩ := (hy1.below' hb).cell1 rfl (k := k + 1) hk1 rfl
      injection hA' with hA'
      injection hA' with hA1 hA2 _
      subst hA1 hA2
      have hd1 := hdk (k + 1) hk1
      have hr1 := hgd (k + 1) hk1
      have hle : (k : Int) + 2 ≤ 5 := by omega
      have n1' : wr.cell? ⟨bd, od + (k + 1), none⟩ = some (.int .i64 ds[k + 1]) := by simpa using n1
      go_wp2_with fail
      refine (rateOf_any _ L fp ((k : Int) + 2) ds[k + 1] _ (hx1.below' hb) h48 hd1).mono ?_
      rintro e w4 ⟨rfl, hb4⟩
      have hb5 := hb.trans (hb4.mono hb.size)
      have e2 : rtV L ((k : Int) + 2) ds[k + 1] = rtJ L ds (k + 1) := by rw [hr1]; congr 1 <;> omega
      rw [e2]
      clear n1 n1' hr1 e2 hb4 hb
      by_cases hg : r < rtJ L ds (k + 1)
      · have HN : Hid (MdOk L ds (k + 1) (k + 1)) := HM.out.more (by rw [HR.out]; exact hg)
        obtain ⟨s, hs⟩ : ∃ s, rtJ L ds (k + 1) = s := ⟨_, rfl⟩
        have HS := Lib.hid hs
        rw [hs] at hg ⊢
        clear hs
        go_wp2
        go_roundw
        case rel => exact ⟨k + 1, k + 1, _, by omega, HN, Nat.le_refl _, HS, by go_num, rfl, by go_num, hb5⟩
        case measure => simp [intOf]; omega
      · have HN : Hid (MdOk L ds (k + 1) b) := HM.out.keep (by rw [HR.out]; exact hg)
        generalize rtJ L ds (k + 1) = s at *
        go_wp2
        go_roundw
        case rel => exact ⟨k + 1, b, _, by omega, HN, by omega, HR, rfl, rfl, by go_num, hb5⟩
        case measure => simp [intOf]; omega
    · obtain rfl : k = 4 := by omega
      go_wp2
      go_ret3
      exact ⟨_, _, by rw [HC.out]; rfl, fun h => absurd HC.out h, fun _ => ⟨b, rfl, HR.out.symm, HM.out⟩, hB3.trans (hb.mono hB3.size)⟩
def sumI : List Int → Int
  | [] => 0
  | x :: xs => x + sumI xs
theorem sumI_sum (xs : List Int) : sumI xs = xs.sum := by
  induction xs with
  | nil => rfl
  | cons x xs ih => show x + sumI xs = _; rw [ih, List.sum_cons]
theorem sumI_snoc (xs : List Int) (x : Int) : sumI (xs ++ [x]) = sumI xs + x := by
  induction xs with
  | nil => show x + 0 = 0 + x; omega
  | cons y xs ih => show y + sumI (xs ++ [x]) = y + sumI xs + x; rw [ih]; omega
theorem sumI_bounds {xs : List Int} {m : Int} (h : ∀ x ∈ xs, 0 ≤ x ∧ x ≤ m) : 0 ≤ sumI xs ∧ sumI xs ≤ m * xs.length := by
  induction xs with
  | nil => exact ⟨Int.le_refl _, by show (0 : Int) ≤ m * 0; omega⟩
  | cons x xs ih =>
    obtain ⟨h1, h2⟩ := ih (fun y hy => h y (List.mem_cons_of_mem _ hy))
    have h3 := h x List.mem_cons_self
    show 0 ≤ x + sumI xs ∧ x + sumI xs ≤ _
    rw [List.length_cons, show ((xs.length + 1 : Nat) : Int) = (xs.length : Int) + 1 by omega, Int.mul_add, Int.mul_one]
    omega
set_option maxRecDepth 100000 in
set_option maxHeartbeats 4000000 in
theorem b10Sum_any (v : Value) (xs : List Int) (fp : List Nat) (w : World) (hx : Sl fInt.cod w v xs fp) (hok : ∀ x ∈ xs, 0 ≤ x ∧ x ≤ 1000000) (hl : xs.length ≤ 1000000) :
    Calls Tryz.prog 25 #[v] w fun e w' => e = .returned (.int .i64 (sumI xs)) ∧ w = w' := by
  obtain ⟨A, cap, rfl, hlen, hcap⟩ := hx.form
  go_enter Tryz.func25, Tryz.ntmps25
  go_wp2
  go_loop [3, 4] (fun s i => ∃ (k : Nat) (c : Int), k ≤ xs.length ∧ Hid (sumI (xs.take k) = c) ∧ 0 ≤ c ∧ c ≤ 1000000 * k ∧ s = .int .i64 c ∧ i = .int .i64 k) (fun _ i => xs.length - (intOf i).toNat)
  case atStart => exact ⟨0, 0, Nat.zero_le _, rfl, by decide, by decide, rfl, rfl⟩
  case round =>
    obtain ⟨k, c, hk, HS, g0, g1, rfl, rfl⟩ := hrel
    by_cases hlt : k < xs.length
    · obtain ⟨b, off, rfl, _, _, n1, _⟩ := hx.cell1 rfl (k := k) hlt rfl
      have hxk := hok _ (List.getElem_mem hlt)
      have HN : Hid (sumI (xs.take (k + 1)) = c + xs[k]) := by show _ = _; rw [List.take_succ_eq_append_getElem hlt, sumI_snoc, HS.out]
      go_wp2
      go_round
      case rel => exact ⟨k + 1, _, by omega, HN, by omega, by omega, by go_num, by go_num⟩
      case measure => simp [intOf]; omega
    · have HF : Hid (sumI xs = c) := by show _ = _; rw [← HS.out, List.take_of_length_le (by omega)]
      go_wp2
      go_ret
      exact ⟨ret_int HF.out.symm, rfl⟩

end Go.Proofs.YthabmofkjdiccaaGreatDoor

namespace Go.Proofs.YthabmofkjdiccaaGreatDoor
open Go.RowKit
set_option linter.unusedVariables false

/-- The text of a name and numbers. -/
def widT (i : ByteArray) (xs : List Int) : ByteArray := i ++ ⟨#[32]⟩ ++ listT xs
theorem widT_cut {i : ByteArray} {xs : List Int} (hi : ∀ b ∈ i.data.toList, b ≠ 32) (hf : fitsL xs = true) : cA (widT i xs) = i ∧ cZ (widT i xs) = listS xs := by
  have e : listT xs = listS xs := by unfold listT; rw [if_pos hf]
  refine words_back ?_
  refine (splS_of ?_).symm
  unfold widT
  rw [e, List.map_cons, List.map_cons, List.map_nil, Go.Joins.data_append, Go.Joins.data_append]
  rw [show i.data.toList ++ (⟨#[32]⟩ : ByteArray).data.toList ++ (listS xs).data.toList = i.data.toList ++ 32 :: (listS xs).data.toList by simp]
  rw [splL_app 32 _ _ hi, splL_none (listS_noblank xs)]
theorem fitsL_of {xs : List Int} (hl : xs.length ≤ 64) (h : ∀ x ∈ xs, -1000000000000 ≤ x ∧ x ≤ 1000000000000) : fitsL xs = true := by
  unfold fitsL
  rw [decide_eq_true hl, Bool.true_and, List.all_eq_true]
  exact fun x hx => inB_true.2 (h x hx)
set_option maxRecDepth 100000 in
set_option maxHeartbeats 4000000 in
theorem readWithId_of (i : ByteArray) (xs : List Int) (k : Nat) (w : World) (hi : ∀ b ∈ i.data.toList, b ≠ 32) (hiz : i.size ≤ 100) (hf : fitsL xs = true) (hk : xs.length = k) (m : Int) (hm : w.cell? ⟨0, 0, none⟩ = some (.int .i64 m)) (ht : RdTabs w) :
    Calls Tryz.prog 55 #[.string (widT i xs), .int .i64 k] w fun e w' => ∃ v, e = .returned (.tuple #[.string i, v, .bool true]) ∧ New fInt.cod w v xs w' := by
  have hxo : ∀ x ∈ xs, fInt.ok x := fun x hx => by
    unfold fitsL at hf
    rw [Bool.and_eq_true, List.all_eq_true] at hf
    have := inB_true.1 (hf.2 x hx)
    show _ ∧ _; omega
  have hl64 : xs.length ≤ 64 := by
    unfold fitsL at hf
    rw [Bool.and_eq_true] at hf
    exact of_decide_eq_true hf.1
  have hsz := listS_size hxo
  have hlt : listT xs = listS xs := by unfold listT; rw [if_pos hf]
  have hs : (widT i xs).size ≤ 1048576 := by
    unfold widT
    rw [hlt, ByteArray.size_append, ByteArray.size_append]
    show _ + 1 + _ ≤ _; omega
  obtain ⟨hA, hZ⟩ := widT_cut hi hf
  have hcut : Calls Tryz.prog 88 #[.string (widT i xs), .string ⟨#[32]⟩] w fun e w' => e = .returned (.tuple #[.string (cA (widT i xs)), .string (cZ (widT i xs)), .bool (Lib.cut (widT i xs).data.toList [32]).2.2]) ∧ ∃ n, w' = w.drewN n := Tryz.strings_Cut _ ⟨#[32]⟩ m w (by omega) hm
  rw [hA, hZ] at hcut
  have hr := rlF_list hf
  generalize (Lib.cut (widT i xs).data.toList [32]).2.2 = fnd at *
  generalize widT i xs = s at *
  clear hA hZ hlt
  go_enter Tryz.func55, Tryz.ntmps55
  go_wp2_with fail
  refine hcut.mono ?_
  rintro e w' ⟨rfl, n, rfl⟩
  have hW : Below w.heap.size w (w.drewN n) := below_drewN (Below.refl _ _) _
  generalize hwn : w.drewN n = wn at *
  go_wp2_with fail
  refine (implReadList_any (listS xs) m _ (by omega) (cell_below hW hm) (ht.below hW)).mono ?_
  rintro e w1 ⟨v1, rfl, hn1⟩
  have hn1' := hn1.later hW
  rw [hr] at hn1'
  have hn2 : New fInt.cod w v1 xs w1 := hn1'
  obtain ⟨⟨fpy, hsy, _, _⟩, _⟩ := id hn2
  obtain ⟨A, cap, rfl, _, _⟩ := hsy.form
  rw [hr, show (some xs : Option (List Int)).isSome = true from rfl]
  have hn3 : New fInt.cod w (.slice A k cap) xs w1 := by rw [← hk]; exact hn2
  have e5 : ((xs.length : Int) == (k : Int)) = true := by rw [beq_iff_eq]; omega
  have e6 : ((xs.length : Int) != (k : Int)) = false := by unfold bne; rw [e5]; rfl
  clear hn1 hn1' hsy hr hn2
  go_wp2
  go_ret3
  exact ⟨_, rfl, by first | exact hn3 | (rw [hk]; exact hn3)⟩
end Go.Proofs.YthabmofkjdiccaaGreatDoor
