/- Days of verification read. Written by wip/gen/rv.py. -/
import Derived.Test.YtaaholabodchaaaDoorRn
import Derived.Test.YtaaholabodchaaaDoorPVerified
import Derived.Test.YtaaholabodchaaaDoorFk
namespace Go.Proofs.YtaaholabodchaaaDoor
open Go.RowKit
set_option linter.unusedVariables false

def verB (x : DVerified) : Bool := inB x.day 0 36524 && inB x.told 1 5 && inB x.seen 1 5
def v00 : DVerified := ⟨0, 0, 0⟩
def vAg (x : DVerified) : Value := .agg #[.int .i64 x.day, .int .i64 x.told, .int .i64 x.seen]
def rvX (s : ByteArray) (d : Int) : DVerified := ⟨d, (numK 2 (cZ s)).getD 0 0, (numK 2 (cZ s)).getD 1 0⟩
def rvF (s : ByteArray) : Option DVerified := if oneK 2 (cZ s) then (match rdF (cA s) with | some d => if verB (rvX s d) then some (rvX s d) else none | none => none) else none
def VRet (s : ByteArray) (e : Ending) : Prop := e = .returned (.tuple #[vAg ((rvF s).getD v00), .bool (rvF s).isSome])
theorem VRet.no {s : ByteArray} (h : rvF s = none) : VRet s (.returned (.tuple #[vAg v00, .bool false])) := by unfold VRet; rw [h]; rfl
theorem VRet.yes {s : ByteArray} {x : DVerified} (h : rvF s = some x) : VRet s (.returned (.tuple #[vAg x, .bool true])) := by unfold VRet; rw [h]; rfl
theorem rvF_one {s : ByteArray} (h : oneK 2 (cZ s) = false) : rvF s = none := by unfold rvF; rw [h]; rfl
theorem rvF_day {s : ByteArray} (h : rdF (cA s) = none) : rvF s = none := by unfold rvF; rw [h]; split <;> rfl
theorem rvF_bad {s : ByteArray} {d p q : Int} (h : numK 2 (cZ s) = [p, q]) (hd : rdF (cA s) = some d) (hv : verB ⟨d, p, q⟩ = false) : rvF s = none := by
  have e : rvX s d = ⟨d, p, q⟩ := by unfold rvX; rw [h]; rfl
  unfold rvF; rw [hd]; simp only [e, hv]; split <;> rfl
theorem rvF_yes {s : ByteArray} {d p q : Int} (h1 : oneK 2 (cZ s) = true) (h : numK 2 (cZ s) = [p, q]) (hd : rdF (cA s) = some d) (hv : verB ⟨d, p, q⟩ = true) : rvF s = some ⟨d, p, q⟩ := by
  have e : rvX s d = ⟨d, p, q⟩ := by unfold rvX; rw [h]; rfl
  unfold rvF; rw [hd]; simp only [e, hv, h1]; rfl
theorem num2_ab (b : ByteArray) : ∃ p q, numK 2 b = [p, q] := by
  have h := numK_len 2 b
  match hn : numK 2 b, h with
  | [p, q], _ => exact ⟨p, q, rfl⟩
structure BoxV (w : World) (g : Nat) : Prop where
  d0 : w.cell? ⟨g, 0, none⟩ = some (.int .i64 0)
  d1 : w.cell? ⟨g, 1, none⟩ = some (.int .i64 0)
  d2 : w.cell? ⟨g, 2, none⟩ = some (.int .i64 0)
  z0 : w.frozen? ⟨g, 0, none⟩ = false
  z1 : w.frozen? ⟨g, 1, none⟩ = false
  z2 : w.frozen? ⟨g, 2, none⟩ = false
theorem BoxV.new (w : World) (T : TypeId) : BoxV (w.alloc (.cells #[.int .i64 0, .int .i64 0, .int .i64 0] T)) w.heap.size := by
  constructor <;> simp
theorem BoxV.below {w w' : World} {g B : Nat} (h : BoxV w g) (hb : Below B w w') (hg : g < B) : BoxV w' g :=
  ⟨(hb.cell (p := ⟨g, _, none⟩) hg).trans h.d0, (hb.cell (p := ⟨g, _, none⟩) hg).trans h.d1, (hb.cell (p := ⟨g, _, none⟩) hg).trans h.d2,
   (hb.frozen (p := ⟨g, _, none⟩) hg).trans h.z0, (hb.frozen (p := ⟨g, _, none⟩) hg).trans h.z1, (hb.frozen (p := ⟨g, _, none⟩) hg).trans h.z2⟩
theorem BoxV.far {V : World} {b g j : Nat} {v : Value} (h : BoxV V b) (hne : b ≠ g) : BoxV (V.setCell ⟨g, j, none⟩ v) b := by
  have k : ∀ i, (V.setCell ⟨g, j, none⟩ v).cell? ⟨b, i, none⟩ = V.cell? ⟨b, i, none⟩ := fun i => World.cell?_setCell_far V ⟨g, j, none⟩ ⟨b, i, none⟩ v (fun e => hne e.symm)
  have f : ∀ i, (V.setCell ⟨g, j, none⟩ v).frozen? ⟨b, i, none⟩ = V.frozen? ⟨b, i, none⟩ := fun i => frozen?_setCell _ _ _ _
  exact ⟨(k _).trans h.d0, (k _).trans h.d1, (k _).trans h.d2, (f _).trans h.z0, (f _).trans h.z1, (f _).trans h.z2⟩
theorem hit_cellV {w : World} {p : Addr} {x : Value} (h : (w.cell? p).isSome = true) : (w.setCell p x).cell? p = some x := by
  obtain ⟨v, hv⟩ := Option.isSome_iff_exists.1 h
  exact World.cell?_setCell_same w p x hv
set_option maxRecDepth 100000 in
set_option maxHeartbeats 2000000 in
theorem l02Day_any (n : Int) (w : World) : Calls Tryd.prog 38 #[.int .i64 n] w fun e w' => e = .returned (.bool (inB n 0 36524)) ∧ w = w' := by
  go_enter Tryd.func38, Tryd.ntmps38
  go_wp2_with (go_at_call 37; refine (l00InB_any _ _ _ _).mono ?_; rintro e w' ⟨rfl, rfl⟩)
  go_ret
  exact ⟨rfl, rfl⟩
set_option maxRecDepth 100000 in
set_option maxHeartbeats 2000000 in
theorem l17Is_any (n : Int) (w : World) : Calls Tryd.prog 39 #[.int .i64 n] w fun e w' => e = .returned (.bool (inB n 1 5)) ∧ w = w' := by
  go_enter Tryd.func39, Tryd.ntmps39
  go_wp2_with (go_at_call 37; refine (l00InB_any _ _ _ _).mono ?_; rintro e w' ⟨rfl, rfl⟩)
  go_ret
  exact ⟨rfl, rfl⟩
set_option maxRecDepth 100000 in
set_option maxHeartbeats 2000000 in
theorem l20One_any (pb po : Nat) (x : DVerified) (w : World) (hp : PVerified w pb po x) :
    Calls Tryd.prog 22 #[.pointer (some ⟨pb, po, none⟩)] w fun e w' => e = .returned (.bool (verB x)) ∧ Below w.heap.size w w' := by
  obtain ⟨c0, c1, c2⟩ := id hp
  have HV := Lib.hid (show verB x = (inB x.day 0 36524 && inB x.told 1 5 && inB x.seen 1 5) from rfl)
  go_enter Tryd.func22, Tryd.ntmps22
  go_wp2_with fail
  refine (l02Day_any _ _).mono ?_
  rintro e w' ⟨rfl, rfl⟩
  cases h1 : inB x.day 0 36524
  · have HX : Hid (verB x = false) := by show _ = _; rw [HV.out, h1]; rfl
    go_wp2
    go_ret
    exact ⟨ret_bool HX.out.symm, Below.refl _ _⟩
  · go_wp2_with fail
    refine (l17Is_any _ _).mono ?_
    rintro e w' ⟨rfl, rfl⟩
    cases h2 : inB x.told 1 5
    · have HX : Hid (verB x = false) := by show _ = _; rw [HV.out, h1, h2]; rfl
      go_wp2
      go_ret
      exact ⟨ret_bool HX.out.symm, Below.refl _ _⟩
    · have HX : Hid (verB x = inB x.seen 1 5) := by show _ = _; rw [HV.out, h1, h2]; rfl
      go_wp2_with fail
      refine (l17Is_any _ _).mono ?_
      rintro e w' ⟨rfl, rfl⟩
      rw [← HX.out]
      go_wp2
      go_ret
      exact ⟨rfl, Below.refl _ _⟩
set_option maxRecDepth 100000 in
set_option maxHeartbeats 2000000 in
theorem levelOk_any (n : Int) (w : World) : Calls Tryd.prog 49 #[.int .i64 n] w fun e w' => e = .returned (.bool (inB n 1 5)) ∧ w = w' := by
  go_enter Tryd.func49, Tryd.ntmps49
  go_wp2_with (go_at_call 43; refine (withinB_any _ _ _ _).mono ?_; rintro e w' ⟨rfl, rfl⟩)
  go_ret
  exact ⟨rfl, rfl⟩
set_option maxRecDepth 100000 in
set_option maxHeartbeats 2000000 in
theorem verValid_any (x : DVerified) (w : World) :
    Calls Tryd.prog 28 #[.agg #[.int .i64 x.day, .int .i64 x.told, .int .i64 x.seen]] w fun e w' => e = .returned (.bool (verB x)) ∧ Below w.heap.size w w' := by
  have HV := Lib.hid (show verB x = (inB x.day 0 36524 && inB x.told 1 5 && inB x.seen 1 5) from rfl)
  go_enter Tryd.func28, Tryd.ntmps28
  go_wp2_with fail
  refine (dayValid_any _ _).mono ?_
  rintro e w' ⟨rfl, rfl⟩
  cases h1 : inB x.day 0 36524
  · have HX : Hid (verB x = false) := by show _ = _; rw [HV.out, h1]; rfl
    go_wp2
    go_ret
    exact ⟨ret_bool HX.out.symm, (Below.refl _ _).alloc (Nat.le_refl _) _⟩
  · go_wp2_with fail
    refine (levelOk_any _ _).mono ?_
    rintro e w' ⟨rfl, rfl⟩
    cases h2 : inB x.told 1 5
    · have HX : Hid (verB x = false) := by show _ = _; rw [HV.out, h1, h2]; rfl
      go_wp2
      go_ret
      exact ⟨ret_bool HX.out.symm, (Below.refl _ _).alloc (Nat.le_refl _) _⟩
    · have HX : Hid (verB x = inB x.seen 1 5) := by show _ = _; rw [HV.out, h1, h2]; rfl
      go_wp2_with fail
      refine (levelOk_any _ _).mono ?_
      rintro e w' ⟨rfl, rfl⟩
      rw [← HX.out]
      go_wp2
      go_ret
      exact ⟨rfl, (Below.refl _ _).alloc (Nat.le_refl _) _⟩
def vtF (x : DVerified) (t : ByteArray) : ByteArray := if verB x then t ++ ⟨#[32]⟩ ++ listT [x.told, x.seen] else ⟨#[]⟩
set_option maxRecDepth 100000 in
set_option maxHeartbeats 4000000 in
theorem VerifiedText_any (x : DVerified) (y m d : Int) (w : World) (h : dateOk y m d) (hd : x.day = numD y m d) (hok : fVerified.ok x) (ht : Tab10 w) :
    Calls Tryd.prog 14 #[.agg #[.int .i64 x.day, .int .i64 x.told, .int .i64 x.seen]] w fun e w' => e = .returned (.string (vtF x (dayS y m d))) ∧ Below w.heap.size w w' := by
  have hDT := fun (w : World) (ht : Tab10 w) => DateText_any y m d x.day w h hd ht
  have h10 := dayS_size h
  have HF := Lib.hid (show vtF x (dayS y m d) = if verB x then dayS y m d ++ ⟨#[32]⟩ ++ listT [x.told, x.seen] else ⟨#[]⟩ from rfl)
  have hl2 : Hid (∀ y ∈ [x.told, x.seen], fInt.ok y) := fun y hy => by
    rcases List.mem_cons.1 hy with rfl | hy
    · exact hok.2.1
    · rw [List.mem_singleton] at hy; subst hy; exact hok.2.2
  generalize vtF x (dayS y m d) = R at *
  generalize dayS y m d = t at *
  clear h hd hok
  have hbx := PVerified.box w x 23
  obtain ⟨c0, c1, c2⟩ := id hbx
  have hB0 : Below w.heap.size w (w.alloc (.cells #[.int .i64 x.day, .int .i64 x.told, .int .i64 x.seen] 23)) := (Below.refl _ _).alloc (Nat.le_refl _) _
  have ht0 := ht.below hB0
  go_enter Tryd.func14, Tryd.ntmps14
  go_wp2_with fail
  refine (verValid_any x _).mono ?_
  rintro e w1 ⟨rfl, hb1⟩
  have hB1 := hB0.trans (hb1.mono hB0.size)
  have hp1 := hbx.below' hb1
  have ht1 := ht0.below hb1
  clear hbx c0 c1 c2 ht0 hb1
  obtain ⟨c0, c1, c2⟩ := id hp1
  have hg1 : w.heap.size < w1.heap.size := hp1.lt
  cases hv : verB x
  · have HX : Hid (R = ⟨#[]⟩) := by show _ = _; rw [HF.out, hv]; rfl
    go_wp2
    go_ret
    exact ⟨ret_str HX.out.symm, hB1⟩
  · have HX : Hid (R = t ++ ⟨#[32]⟩ ++ listT [x.told, x.seen]) := by show _ = _; rw [HF.out, hv]; rfl
    go_wp2
    have gc0 := cell_regrown c0
    have gc1 := cell_regrown c1
    have gc2 := cell_regrown c2
    refine wp_region_fork (C := fun w' => ∃ p : Regrown, w' = Go.Sort.grow (redrawn w1 p.d) p.os) [0, 1, 3, 4, 5, 6] 2 [7, 8, 9] [false, false, true] 7 [2, 8, 9] [false, false, true] (by kernel_rfl) (by kernel_rfl) (by kernel_rfl) (fun _ _ d _ _ h => by cases d <;> exact h) (regrown_of_below (Below.drew (Below.refl _ _))) ?_
    simp only [List.map_cons, List.map_nil, List.getD_cons_zero, List.getD_cons_succ]
    have hS0 : Below (w1.heap.size) w1 w1.drew := Below.drew (Below.refl _ _)
    refine wpFork_pure (by kernel_rfl) (fun K hK => ?_)
    go_big_quiet_op
    refine hK _ ?_; clear hK K
    refine wpFork_pure (by kernel_rfl) (fun K hK => ?_)
    go_big_quiet_op
    refine hK _ ?_; clear hK K
    refine wpFork_pure (by kernel_rfl) (fun K hK => ?_)
    go_big_quiet_op
    refine hK _ ?_; clear hK K
    refine wpFork_pure (by kernel_rfl) (fun K hK => ?_)
    go_big_quiet_op
    refine hK _ ?_; clear hK K
    refine wpFork_pure (by kernel_rfl) (fun K hK => ?_)
    go_big_quiet_op
    refine hK _ ?_; clear hK K
    refine wpFork_pure (by kernel_rfl) (fun K hK => ?_)
    go_big_quiet_op
    refine hK _ ?_; clear hK K
    refine wpFork_split ?_ ?_
    · skip
      refine wpMix_act (by kernel_rfl) (fun K hK => ?_)
      go_big_op
      refine (hDT _ (ht1.below hS0)).mono ?_
      rintro e wr1 ⟨rfl, hbr1⟩
      have hbr1S : Below (w1.heap.size) w1 wr1 := hS0.trans (hbr1.mono hS0.size)
      refine hK _ _ (regrown_of_below hbr1S) ?_
      clear hK K
      refine wpMix_act (by kernel_rfl) (fun K hK => ?_)
      go_big_op
      refine hK _ _ (regrown_of_below (hbr1S.alloc hbr1S.size _)) ?_
      clear hK K
      refine mix_world (fun N => Below (w1.heap.size) w1 N ∧ Sl fInt.cod N (.slice (some ⟨wr1.heap.size, 0, none⟩) 2 2) [x.told, x.seen] [wr1.heap.size]) ⟨hbr1S.alloc hbr1S.size _, Sl.lit2 (E := fInt) wr1 [x.told, x.seen] _ _ rfl hl2.out (by show 0 < 2; decide) (by show 2 ≤ _; decide)⟩ ?_
      rintro wr2 ⟨hbr2S, hbr2F⟩
      refine wpMix_act (by kernel_rfl) (fun K hK => ?_)
      go_big_op
      refine (withId_any t _ [x.told, x.seen] _ _ (by first | exact hbr2F | exact hbr4F.below' hbr5 | exact hbr5F) (by show 2 ≤ _; decide) (by omega) (ht1.below hbr2S)).mono ?_
      rintro e wr3 ⟨rfl, hbr3⟩
      have hbr3S : Below (w1.heap.size) w1 wr3 := hbr2S.trans (hbr3.mono hbr2S.size)
      refine hK _ _ (regrown_of_below hbr3S) ?_
      clear hK K
      refine wpMix_pure (by kernel_rfl) (fun K hK => ?_)
      go_big_quiet_op
      refine hK _ ?_; clear hK K
      refine wpMix_nil ?_
      have hS := hbr3S
      have hB9 := hB1.trans (hS.mono hB1.size)
      go_wp2
      go_ret
      exact ⟨ret_str HX.out.symm, hB9⟩
    · skip
      refine wpMix_act (by kernel_rfl) (fun K hK => ?_)
      go_big_op
      refine hK _ _ (regrown_of_below (hS0.alloc hS0.size _)) ?_
      clear hK K
      refine mix_world (fun N => Below (w1.heap.size) w1 N ∧ Sl fInt.cod N (.slice (some ⟨w1.drew.heap.size, 0, none⟩) 2 2) [x.told, x.seen] [w1.drew.heap.size]) ⟨hS0.alloc hS0.size _, Sl.lit2 (E := fInt) w1.drew [x.told, x.seen] _ _ rfl hl2.out (by show 0 < 2; decide) (by show 2 ≤ _; decide)⟩ ?_
      rintro wr4 ⟨hbr4S, hbr4F⟩
      refine wpMix_act (by kernel_rfl) (fun K hK => ?_)
      go_big_op
      refine (hDT _ (ht1.below hbr4S)).mono ?_
      rintro e wr5 ⟨rfl, hbr5⟩
      have hbr5S : Below (w1.heap.size) w1 wr5 := hbr4S.trans (hbr5.mono hbr4S.size)
      refine hK _ _ (regrown_of_below hbr5S) ?_
      clear hK K
      refine wpMix_act (by kernel_rfl) (fun K hK => ?_)
      go_big_op
      refine (withId_any t _ [x.told, x.seen] _ _ (by first | exact hbr2F | exact hbr4F.below' hbr5 | exact hbr5F) (by show 2 ≤ _; decide) (by omega) (ht1.below hbr5S)).mono ?_
      rintro e wr6 ⟨rfl, hbr6⟩
      have hbr6S : Below (w1.heap.size) w1 wr6 := hbr5S.trans (hbr6.mono hbr5S.size)
      refine hK _ _ (regrown_of_below hbr6S) ?_
      clear hK K
      refine wpMix_pure (by kernel_rfl) (fun K hK => ?_)
      go_big_quiet_op
      refine hK _ ?_; clear hK K
      refine wpMix_nil ?_
      have hS := hbr6S
      have hB9 := hB1.trans (hS.mono hB1.size)
      go_wp2
      go_ret
      exact ⟨ret_str HX.out.symm, hB9⟩

set_option maxRecDepth 100000 in
set_option maxHeartbeats 8000000 in
theorem l20Read_any (s : ByteArray) (w : World) (hs : s.size ≤ 1048576) :
    Calls Tryd.prog 11 #[.string s] w fun e w' => VRet s e ∧ Below w.heap.size w w' := by
  have hsz := spl_sizeR 32 s
  have HWF := Lib.hid (fun h => words_few (k := 2) (s := s) h)
  have HWB := Lib.hid (fun a b (h : splS 32 s = [a, b]) => words_back (s := s) (a := a) (b := b) h)
  have HBAD := Lib.hid (fun p q d hn hd hv => rvF_bad (s := s) (d := d) (p := p) (q := q) hn hd hv)
  have HYES := Lib.hid (fun p q d h1 hn hd hv => rvF_yes (s := s) (d := d) (p := p) (q := q) h1 hn hd hv)
  have HONE := Lib.hid (fun h => rvF_one (s := s) h)
  have HDAY := Lib.hid (fun h => rvF_day (s := s) h)
  go_enter Tryd.func11, Tryd.ntmps11
  go_wp2_with fail
  refine (l01Split_any s 32 _ hs).mono ?_
  rintro e w1 ⟨v1, rfl, hown, hb1⟩
  have hX6 : BoxV w1 w.heap.size := (BoxV.new w _).below hb1 (by simp)
  have hB1 : Below w.heap.size w w1 := ((Below.refl _ _).alloc (Nat.le_refl _) _).trans (hb1.mono (by simp))
  have hg1 : w.heap.size < w1.heap.size := by have := hb1.size; simp at this; omega
  have hok : ∀ x ∈ splS 32 s, fStr.ok x := fun x hx => by have := hsz x hx; show _ ≤ _; omega
  obtain ⟨fp1, hsl, _, _⟩ := Sl.of_own (n := (splS 32 s).length) rfl hown hok
  generalize splS 32 s = X at *
  clear hown hok hb1
  obtain ⟨A, cap, rfl, hle, hca⟩ := hsl.form
  by_cases h2 : X.length = 2
  · obtain ⟨a, b, rfl⟩ : ∃ a b, X = [a, b] := by
      match X, h2 with
      | [a, b], _ => exact ⟨a, b, rfl⟩
    obtain ⟨hA, hZ⟩ := HWB.out a b rfl
    rw [hA] at HDAY HBAD HYES
    rw [hZ] at HONE HBAD HYES
    clear HWF HWB hA hZ
    obtain ⟨g, off, rfl, _, _, ca, _⟩ := hsl.cell1 rfl (k := 0) (by simp) rfl
    obtain ⟨g', off', hA', _, _, cb, _⟩ := hsl.cell1 rfl (k := 1) (by simp) rfl
    injection hA' with hA'; injection hA' with ha1 ha2 _; subst ha1 ha2
    have ca0 : w1.cell? ⟨g, off, none⟩ = some (.string a) := by simpa using ca
    have cb0 : w1.cell? ⟨g, off + 1, none⟩ = some (.string b) := cb
    have hgl := block_lt_of_cell ca0
    have hsa := hsz a (by simp)
    have hsb := hsz b (by simp)
    have e2 : (([a, b] : List ByteArray).length : Int) = 2 := rfl
    clear ca cb hsl hsz h2
    go_wp2_with fail
    refine (l02Read_any a _ (by omega)).mono ?_
    rintro e w2 ⟨rfl, hb2⟩
    have hB2 := hB1.trans (hb2.mono hB1.size)
    have hX2 := hX6.below hb2 hg1
    have cb2 := (hb2.cell (p := ⟨g, off + 1, none⟩) hgl).trans cb0
    have hg2 : w.heap.size < w2.heap.size := Nat.lt_of_lt_of_le hg1 hb2.size
    clear ca0 cb0 hX6 hb2
    go_wp2_with fail
    refine (specReadList_any b _ (by omega)).mono ?_
    rintro e w3 ⟨v3, rfl, hn3⟩
    have hb3 := hn3.below
    have hB3 := hB2.trans (hb3.mono hB2.size)
    have hX3 := hX2.below hb3 hg2
    have hg3 : w.heap.size < w3.heap.size := Nat.lt_of_lt_of_le hg2 hb3.size
    clear cb2 hX2 hb3
    obtain ⟨d0, d1, d2, z0, z1, z2⟩ := id hX3
    cases hd : rdF a with
    | none =>
      have HN := Lib.hid (HDAY.out hd)
      rw [show (none : Option Int).isSome = false from rfl, show (none : Option Int).getD 0 = 0 from rfl]
      clear hn3 hd
      go_wp2
      exact bodyPost_ret (v := .tuple #[vAg v00, .bool false]) (by simp [vAg, v00, results, hit_cellV, d0, d1, d2, Tryd.results11, go_sem]) rfl ⟨VRet.no HN.out, by (repeat (refine Below.setCell ?_ (by first | exact Nat.le_refl _ | (show _ ≤ _; omega)) _)); assumption⟩
    | some d =>
      rw [show (some d).isSome = true from rfl, show (some d).getD 0 = d from rfl]
      have HDD := Lib.hid hd
      clear hd
      cases hr : rlF b with
      | none =>
        have HN := Lib.hid (HONE.out (oneK_none hr))
        rw [show (none : Option (List Int)).isSome = false from rfl]
        clear hn3 hr
        go_wp2
        exact bodyPost_ret (v := .tuple #[vAg v00, .bool false]) (by simp [vAg, v00, results, hit_cellV, d0, d1, d2, Tryd.results11, go_sem]) rfl ⟨VRet.no HN.out, by (repeat (refine Below.setCell ?_ (by first | exact Nat.le_refl _ | (show _ ≤ _; omega)) _)); assumption⟩
      | some xs =>
        rw [hr] at hn3
        have hn4 : New fInt.cod w2 v3 xs w3 := hn3
        rw [show (some xs : Option (List Int)).isSome = true from rfl]
        obtain ⟨⟨fpy, hsy, _, _⟩, _⟩ := hn4
        have h1 := oneK_some (k := 2) hr
        by_cases hl3 : xs.length = 2
        · rw [decide_eq_true hl3] at h1
          have hnum := numK_some hr hl3
          obtain ⟨p, q, rfl⟩ : ∃ p q, xs = [p, q] := by
            match xs, hl3 with
            | [p, q], _ => exact ⟨p, q, rfl⟩
          have HNO := Lib.hid (HBAD.out p q d hnum HDD.out)
          have HYE := Lib.hid (HYES.out p q d h1 hnum HDD.out)
          obtain ⟨A2, cap2, rfl, hle2, _⟩ := hsy.form
          obtain ⟨g2, o2, rfl, _, okp, n0, _⟩ := hsy.cell1 rfl (k := 0) (by simp) rfl
          obtain ⟨g2', o2', hA2, _, okq, n1, _⟩ := hsy.cell1 rfl (k := 1) (by simp) rfl
          injection hA2 with hA2; injection hA2 with ha1 ha2 _; subst ha1 ha2
          have n00 : w3.cell? ⟨g2, o2, none⟩ = some (.int .i64 p) := by simpa using n0
          have n11 : w3.cell? ⟨g2, o2 + 1, none⟩ = some (.int .i64 q) := n1
          have e3 : (([p, q] : List Int).length : Int) = 2 := rfl
          clear n0 n1 hsy hn3 hr HONE HDAY HBAD HYES HDD h1 hnum hl3
          go_wp2
          have gn00 := cell_regrown n00
          have gn11 := cell_regrown n11
          refine wp_region_mix (C := fun w' => ∃ p : Regrown, w' = Go.Sort.grow (redrawn w3 p.d) p.os) [true, true, true, true, true, true, true, true, false, false] (by kernel_rfl) (by kernel_rfl) (by kernel_rfl) (fun _ _ d _ _ h => by cases d <;> exact h) (regrown_of_below (Below.drew (Below.refl _ _))) ?_
          have hS0 : Below (w3.heap.size) w3 w3.drew := Below.drew (Below.refl _ _)
          refine wpMix_pure (by kernel_rfl) (fun K hK => ?_)
          go_big_quiet_op
          refine hK _ ?_; clear hK K
          refine wpMix_pure (by kernel_rfl) (fun K hK => ?_)
          go_big_quiet_op
          refine hK _ ?_; clear hK K
          refine wpMix_pure (by kernel_rfl) (fun K hK => ?_)
          go_big_quiet_op
          refine hK _ ?_; clear hK K
          refine wpMix_pure (by kernel_rfl) (fun K hK => ?_)
          go_big_quiet_op
          refine hK _ ?_; clear hK K
          refine wpMix_pure (by kernel_rfl) (fun K hK => ?_)
          go_big_quiet_op
          refine hK _ ?_; clear hK K
          refine wpMix_pure (by kernel_rfl) (fun K hK => ?_)
          go_big_quiet_op
          refine hK _ ?_; clear hK K
          refine wpMix_pure (by kernel_rfl) (fun K hK => ?_)
          go_big_quiet_op
          refine hK _ ?_; clear hK K
          refine wpMix_pure (by kernel_rfl) (fun K hK => ?_)
          go_big_quiet_op
          refine hK _ ?_; clear hK K
          refine wpMix_act (by kernel_rfl) (fun K hK => ?_)
          go_big_op
          refine hK _ _ (regrown_of_below (by first | exact hS0.alloc hS0.size _ | exact Below.drew ((Below.refl _ _).alloc (Nat.le_refl _) _) | exact (Below.drew (Below.refl _ _)).alloc (Nat.le_refl _) _)) ?_
          clear hK K
          refine wpMix_act (by kernel_rfl) (fun K hK => ?_)
          go_big_op
          refine hK _ _ (regrown_of_below (by first | exact hS0.alloc hS0.size _ | exact Below.drew ((Below.refl _ _).alloc (Nat.le_refl _) _) | exact (Below.drew (Below.refl _ _)).alloc (Nat.le_refl _) _)) ?_
          clear hK K
          refine wpMix_nil ?_
          have hBx : Below w3.heap.size w3 (w3.alloc (.cells #[.int .i64 d, .int .i64 p, .int .i64 q] 23)).drew := Below.drew ((Below.refl _ _).alloc (Nat.le_refl _) _)
          have hBV := hB3.trans (hBx.mono hB3.size)
          have hXV := hX3.below hBx hg3
          have hpx : PVerified (w3.alloc (.cells #[.int .i64 d, .int .i64 p, .int .i64 q] 23)).drew w3.heap.size 0 ⟨d, p, q⟩ := (PVerified.box w3 ⟨d, p, q⟩ _).below' (Below.drew (Below.refl _ _))
          have hgV : w3.heap.size < (w3.alloc (.cells #[.int .i64 d, .int .i64 p, .int .i64 q] 23)).drew.heap.size := by
            show _ < (w3.alloc _).heap.size
            simp
          clear d0 d1 d2 z0 z1 z2 hX3 n00 n11 hBx gn00 gn11 hS0
          generalize (w3.alloc (.cells #[.int .i64 d, .int .i64 p, .int .i64 q] 23)).drew = V at *
          generalize hwq : w3.heap.size = wq at *
          go_wp2_with fail
          refine (l20One_any wq 0 ⟨d, p, q⟩ _ hpx).mono ?_
          rintro e U ⟨rfl, hbU⟩
          have hBU := hBV.trans (hbU.mono hBV.size)
          have hXU := hXV.below hbU (by omega)
          have hpU := hpx.below' hbU
          clear hXV hpx
          obtain ⟨d0, d1, d2, z0, z1, z2⟩ := hXU
          obtain ⟨x0, x1, x2⟩ := hpU
          cases hgb : verB ⟨d, p, q⟩
          · have HN := Lib.hid (HNO.out hgb)
            clear hgb
            go_wp2
            exact bodyPost_ret (v := .tuple #[vAg v00, .bool false]) (by simp [vAg, v00, results, hit_cellV, d0, d1, d2, Tryd.results11, go_sem]) rfl ⟨VRet.no HN.out, by (repeat (refine Below.setCell ?_ (by first | exact Nat.le_refl _ | (show _ ≤ _; omega)) _)); assumption⟩
          · have HY := Lib.hid (HYE.out hgb)
            clear hgb
            go_wp2
            exact bodyPost_ret (v := .tuple #[vAg ⟨d, p, q⟩, .bool true]) (by simp [vAg, v00, results, hit_cellV, d0, d1, d2, Tryd.results11, go_sem]) rfl ⟨VRet.yes HY.out, by (repeat (refine Below.setCell ?_ (by first | exact Nat.le_refl _ | (show _ ≤ _; omega)) _)); assumption⟩
        · rw [decide_eq_false hl3] at h1
          have HN := Lib.hid (HONE.out h1)
          obtain ⟨A2, cap2, rfl, _, _⟩ := hsy.form
          have e5 : ((xs.length : Int) == 2) = false := by rw [beq_eq_false_iff_ne]; omega
          have e6 : ((xs.length : Int) != 2) = true := by unfold bne; rw [e5]; rfl
          clear hn3 hr hsy h1
          go_wp2
          exact bodyPost_ret (v := .tuple #[vAg v00, .bool false]) (by simp [vAg, v00, results, hit_cellV, d0, d1, d2, Tryd.results11, go_sem]) rfl ⟨VRet.no HN.out, by (repeat (refine Below.setCell ?_ (by first | exact Nat.le_refl _ | (show _ ≤ _; omega)) _)); assumption⟩
  · have HN := Lib.hid (HONE.out (HWF.out h2))
    obtain ⟨d0, d1, d2, z0, z1, z2⟩ := hX6
    have e5 : ((X.length : Int) == 2) = false := by rw [beq_eq_false_iff_ne]; omega
    have e6 : ((X.length : Int) != 2) = true := by unfold bne; rw [e5]; rfl
    clear hsl h2
    go_wp2
    exact bodyPost_ret (v := .tuple #[vAg v00, .bool false]) (by simp [vAg, v00, results, hit_cellV, d0, d1, d2, Tryd.results11, go_sem]) rfl ⟨VRet.no HN.out, by (repeat (refine Below.setCell ?_ (by first | exact Nat.le_refl _ | (show _ ≤ _; omega)) _)); assumption⟩

set_option maxRecDepth 100000 in
set_option maxHeartbeats 8000000 in
theorem implReadVerified_any (s : ByteArray) (m : Int) (w : World) (hs : s.size ≤ 1048576) (hm : w.cell? ⟨0, 0, none⟩ = some (.int .i64 m)) (ht : RdTabs w) :
    Calls Tryd.prog 6 #[.string s] w fun e w' => VRet s e ∧ Below w.heap.size w w' := by
  have HW := Lib.hid (show wiA s = if oneK 2 (cZ s) then cA s else ⟨#[]⟩ from rfl)
  have HCA := Lib.hid (fun h => (words_of (s := s) (k := 2) h).2)
  have HLT := Lib.hid (fun h => (numK_text (k := 2) (b := cZ s) h).1)
  have HBAD := Lib.hid (fun p q d hn hd hv => rvF_bad (s := s) (d := d) (p := p) (q := q) hn hd hv)
  have HYES := Lib.hid (fun p q d h1 hn hd hv => rvF_yes (s := s) (d := d) (p := p) (q := q) h1 hn hd hv)
  have HONE := Lib.hid (fun h => rvF_one (s := s) h)
  have HDAY := Lib.hid (fun h => rvF_day (s := s) h)
  have hokn := numK_ok (k := 2) (b := cZ s)
  obtain ⟨p, q, hnum⟩ := num2_ab (cZ s)
  have hsA : (wiA s).size ≤ 1048576 := by
    unfold wiA; split
    · have := (cAZ_size s).1; omega
    · show 0 ≤ _; omega
  go_enter Tryd.func6, Tryd.ntmps6
  go_wp2_with fail
  refine (readWithId_any s m _ hs (cell_below ((Below.refl _ _).alloc (Nat.le_refl _) _) hm) (ht.below ((Below.refl _ _).alloc (Nat.le_refl _) _))).mono ?_
  rintro e w1 ⟨v1, rfl, ⟨⟨fpy, hsy, _, _⟩, hb1⟩⟩
  have hX1 : BoxV w1 w.heap.size := (BoxV.new w _).below hb1 (by simp)
  have hB1 : Below w.heap.size w w1 := ((Below.refl _ _).alloc (Nat.le_refl _) _).trans (hb1.mono (by simp))
  have hg1 : w.heap.size < w1.heap.size := by have := hb1.size; simp at this; omega
  have hnum' := hnum
  rw [hnum] at hsy hokn
  generalize cZ s = sz at *
  generalize cA s = sa at *
  generalize wiA s = sw at *
  clear hb1
  obtain ⟨A2, cap2, rfl, hle2, _⟩ := hsy.form
  obtain ⟨g2, o2, rfl, _, okp, n0, _⟩ := hsy.cell1 rfl (k := 0) (by simp) rfl
  obtain ⟨g2', o2', hA2, _, okq, n1, _⟩ := hsy.cell1 rfl (k := 1) (by simp) rfl
  injection hA2 with hA2; injection hA2 with ha1 ha2 _; subst ha1 ha2
  have n00 : w1.cell? ⟨g2, o2, none⟩ = some (.int .i64 p) := by simpa using n0
  have n11 : w1.cell? ⟨g2, o2 + 1, none⟩ = some (.int .i64 q) := n1
  have hgl := block_lt_of_cell n00
  clear n0 n1 hsy
  have e3 : (([p, q] : List Int).length : Int) = 2 := rfl
  have e3' : ([p, q] : List Int).length = 2 := rfl
  go_wp2_with fail
  refine (implReadDate_any sw _ hsA (ht.below hB1).tab).mono ?_
  rintro e w2 ⟨rfl, hb2⟩
  have hB2 := hB1.trans (hb2.mono hB1.size)
  have hX2 := hX1.below hb2 hg1
  have n02 := (hb2.cell (p := ⟨g2, o2, none⟩) hgl).trans n00
  have n12 := (hb2.cell (p := ⟨g2, o2 + 1, none⟩) hgl).trans n11
  have hg2 : w.heap.size < w2.heap.size := Nat.lt_of_lt_of_le hg1 hb2.size
  clear n00 n11 hX1 hb2
  have hDR : ∀ d, (rdF sw).getD 0 = d → -9223372036854775808 ≤ d ∧ d ≤ 9223372036854775807 := fun d hd => by
    cases hr : rdF sw with
    | none => rw [hr] at hd; have : d = 0 := hd.symm; omega
    | some d' =>
      rw [hr] at hd
      have e : d' = d := hd
      obtain ⟨_, _, _, h1, h2, _⟩ := rdF_is hr
      have := numD_bounds h1
      omega
  generalize hdd : (rdF sw).getD 0 = d at *
  have HDD := Lib.hid hdd
  have hdr := hDR d rfl
  have hokX : fVerified.ok ⟨d, p, q⟩ := ⟨hdr, okp, okq⟩
  generalize hds : (rdF sw).isSome = two at *
  have HDS := Lib.hid hds
  clear hdd hds hDR
  generalize hon : oneK 2 sz = one at *
  have HON := Lib.hid hon
  clear hon
  go_wp2
  have gn02 := cell_regrown n02
  have gn12 := cell_regrown n12
  refine wp_region_mix (C := fun w' => ∃ p : Regrown, w' = Go.Sort.grow (redrawn w2 p.d) p.os) [true, true, true, true, true, true, true, true, false, false] (by kernel_rfl) (by kernel_rfl) (by kernel_rfl) (fun _ _ d _ _ h => by cases d <;> exact h) (regrown_of_below (Below.drew (Below.refl _ _))) ?_
  have hS0 : Below (w2.heap.size) w2 w2.drew := Below.drew (Below.refl _ _)
  refine wpMix_pure (by kernel_rfl) (fun K hK => ?_)
  go_big_quiet_op
  refine hK _ ?_; clear hK K
  refine wpMix_pure (by kernel_rfl) (fun K hK => ?_)
  go_big_quiet_op
  refine hK _ ?_; clear hK K
  refine wpMix_pure (by kernel_rfl) (fun K hK => ?_)
  go_big_quiet_op
  refine hK _ ?_; clear hK K
  refine wpMix_pure (by kernel_rfl) (fun K hK => ?_)
  go_big_quiet_op
  refine hK _ ?_; clear hK K
  refine wpMix_pure (by kernel_rfl) (fun K hK => ?_)
  go_big_quiet_op
  refine hK _ ?_; clear hK K
  refine wpMix_pure (by kernel_rfl) (fun K hK => ?_)
  go_big_quiet_op
  refine hK _ ?_; clear hK K
  refine wpMix_pure (by kernel_rfl) (fun K hK => ?_)
  go_big_quiet_op
  refine hK _ ?_; clear hK K
  refine wpMix_pure (by kernel_rfl) (fun K hK => ?_)
  go_big_quiet_op
  refine hK _ ?_; clear hK K
  refine wpMix_act (by kernel_rfl) (fun K hK => ?_)
  go_big_op
  refine hK _ _ (regrown_of_below (by first | exact hS0.alloc hS0.size _ | exact Below.drew ((Below.refl _ _).alloc (Nat.le_refl _) _) | exact (Below.drew (Below.refl _ _)).alloc (Nat.le_refl _) _)) ?_
  clear hK K
  refine wpMix_act (by kernel_rfl) (fun K hK => ?_)
  go_big_op
  refine hK _ _ (regrown_of_below (by first | exact hS0.alloc hS0.size _ | exact Below.drew ((Below.refl _ _).alloc (Nat.le_refl _) _) | exact (Below.drew (Below.refl _ _)).alloc (Nat.le_refl _) _)) ?_
  clear hK K
  refine wpMix_nil ?_
  have hBx : Below w2.heap.size w2 (w2.alloc (.cells #[.int .i64 d, .int .i64 p, .int .i64 q] 23)).drew := Below.drew ((Below.refl _ _).alloc (Nat.le_refl _) _)
  have hBV := hB2.trans (hBx.mono hB2.size)
  have hXV := hX2.below hBx hg2
  have hpx : PVerified (w2.alloc (.cells #[.int .i64 d, .int .i64 p, .int .i64 q] 23)).drew w2.heap.size 0 ⟨d, p, q⟩ := (PVerified.box w2 ⟨d, p, q⟩ _).below' (Below.drew (Below.refl _ _))
  have hgV : w2.heap.size < (w2.alloc (.cells #[.int .i64 d, .int .i64 p, .int .i64 q] 23)).drew.heap.size := by
    show _ < (w2.alloc _).heap.size
    simp
  clear hX2 n02 n12 hBx gn02 gn12 hS0
  generalize (w2.alloc (.cells #[.int .i64 d, .int .i64 p, .int .i64 q] 23)).drew = V at *
  generalize hwq : w2.heap.size = wq at *
  obtain ⟨d0, d1, d2, z0, z1, z2⟩ := id hXV
  obtain ⟨x0, x1, x2⟩ := id hpx
  cases one
  · have HN := Lib.hid (HONE.out rfl)
    go_wp2
    exact bodyPost_ret (v := .tuple #[vAg v00, .bool false]) (by simp [vAg, v00, results, hit_cellV, d0, d1, d2, Tryd.results6, go_sem]) rfl ⟨VRet.no HN.out, by (repeat (refine Below.setCell ?_ (by first | exact Nat.le_refl _ | (show _ ≤ _; omega)) _)); assumption⟩
  · cases two
    · have HN : Hid (rvF s = none) := by
        refine Lib.hid (HDAY.out ?_)
        have h2 := HDS.out
        rw [show sw = sa from HW.out] at h2
        cases hr : rdF sa with
        | none => rfl
        | some _ => rw [hr] at h2; cases h2
      go_wp2
      exact bodyPost_ret (v := .tuple #[vAg v00, .bool false]) (by simp [vAg, v00, results, hit_cellV, d0, d1, d2, Tryd.results6, go_sem]) rfl ⟨VRet.no HN.out, by (repeat (refine Below.setCell ?_ (by first | exact Nat.le_refl _ | (show _ ≤ _; omega)) _)); assumption⟩
    · have hd1 : rdF sa = some d := by
        have h2 := HDS.out
        have h3 := HDD.out
        rw [show sw = sa from HW.out] at h2 h3
        cases hr : rdF sa with
        | none => rw [hr] at h2; cases h2
        | some d' => rw [hr] at h3; rw [show d' = d from h3]
      obtain ⟨dy, dm, dd, hdok, hdn, hds⟩ := rdF_is hd1
      have hcat := HCA.out rfl
      have hlt := HLT.out rfl
      rw [hnum'] at hlt
      have htx : vtF ⟨d, p, q⟩ (dayS dy dm dd) = if verB ⟨d, p, q⟩ then s else ⟨#[]⟩ := by
        unfold vtF
        rw [show listT [(⟨d, p, q⟩ : DVerified).told, (⟨d, p, q⟩ : DVerified).seen] = sz from hlt, show dayS dy dm dd = sa from hds.symm, hcat]
      have hne : s ≠ ⟨#[]⟩ := fun e => by
        have := congrArg ByteArray.size (hcat.trans e)
        rw [ByteArray.size_append, ByteArray.size_append] at this
        exact absurd this (by show ¬ (sa.size + 1 + sz.size = 0); omega)
      have HNO := Lib.hid (HBAD.out p q d hnum' hd1)
      have HYE := Lib.hid (HYES.out p q d rfl hnum' hd1)
      have HTX := Lib.hid htx
      have htV := (ht.below hBV).tab
      have HDN := Lib.hid hdn
      clear htx hcat hlt hds hd1 hdn hnum' hnum
      go_wp2_with fail
      refine (VerifiedText_any ⟨d, p, q⟩ dy dm dd _ hdok HDN.out hokX htV).mono ?_
      rintro e U ⟨rfl, hbU⟩
      have hBU := hBV.trans (hbU.mono hBV.size)
      have hXU := hXV.below hbU (by omega)
      have hpU := hpx.below' hbU
      clear hXV hpx x0 x1 x2 d0 d1 d2 z0 z1 z2
      obtain ⟨d0, d1, d2, z0, z1, z2⟩ := hXU
      obtain ⟨x0, x1, x2⟩ := hpU
      cases hgb : verB ⟨d, p, q⟩
      · have HN := Lib.hid (HNO.out hgb)
        have e9 : s.toList.isEmpty = false := by
          rw [ByteArray.toList_eq, ← Bool.not_eq_true, List.isEmpty_iff]
          exact fun e => hne (data_inj (by rw [e]))
        rw [show vtF ⟨d, p, q⟩ (dayS dy dm dd) = ⟨#[]⟩ from by rw [HTX.out, hgb]; rfl]
        clear hgb
        go_wp2
        exact bodyPost_ret (v := .tuple #[vAg v00, .bool false]) (by simp [vAg, v00, results, hit_cellV, d0, d1, d2, Tryd.results6, go_sem]) rfl ⟨VRet.no HN.out, by (repeat (refine Below.setCell ?_ (by first | exact Nat.le_refl _ | (show _ ≤ _; omega)) _)); assumption⟩
      · have HY := Lib.hid (HYE.out hgb)
        have e9 : (s.toList == s.toList) = true := beq_self_eq_true _
        have e10 : (s.toList != s.toList) = false := by unfold bne; rw [e9]; rfl
        rw [show vtF ⟨d, p, q⟩ (dayS dy dm dd) = s from by rw [HTX.out, hgb]; rfl]
        clear hgb
        go_wp2
        exact bodyPost_ret (v := .tuple #[vAg ⟨d, p, q⟩, .bool true]) (by simp [vAg, v00, results, hit_cellV, d0, d1, d2, Tryd.results6, go_sem]) rfl ⟨VRet.yes HY.out, by (repeat (refine Below.setCell ?_ (by first | exact Nat.le_refl _ | (show _ ≤ _; omega)) _)); assumption⟩

end Go.Proofs.YtaaholabodchaaaDoor
