
/- Layers, slopes and assets: contracts. Written by wip/gen/ub.py. -/
import Derived.Test.YtpebibegdeioeaaUa
namespace Go.Proofs.Ytpebibegdeioeaa
open Go.RowKit
set_option linter.unusedVariables false

def lyAg (x : DLayer) : Value := .agg #[.int .i64 x.form, .int .i64 x.ice, .int .i64 x.water, .int .i64 x.density, .int .i64 x.degrees, .int .i64 x.hardness, .int .i64 x.age]
set_option maxRecDepth 100000 in
set_option maxHeartbeats 4000000 in
theorem l03One_any (pb po : Nat) (x : DLayer) (w : World) (hp : PLayer w pb po x) :
    Calls Try.prog 60 #[.pointer (some ⟨pb, po, none⟩)] w fun e w' => e = .returned (.bool (layerB x)) ∧ w = w' := by
  obtain ⟨c0, c1, c2, c3, c4, c5, c6⟩ := id hp
  have HV : Hid (layerB x = (inB x.form 1 6 && (inB x.ice 1 1000000 && (inB x.water 0 1000000 && (inB x.density 30 900 && (inB x.degrees (-4000) 0 && (inB x.hardness 1 6 && (inB x.age 0 10000)))))))) := rfl
  go_enter Try.func60, Try.ntmps60
  go_wp2_with fail
  refine (l00InB_any _ _ _ _).mono ?_
  rintro e w' ⟨rfl, rfl⟩
  cases hq0 : inB x.form 1 6
  · have HX : Hid (layerB x = false) := by show _ = _; rw [HV.out, hq0]; simp
    go_wp2
    go_ret
    exact ⟨ret_bool HX.out.symm, rfl⟩
  go_wp2_with fail
  refine (l00InB_any _ _ _ _).mono ?_
  rintro e w' ⟨rfl, rfl⟩
  cases hq1 : inB x.ice 1 1000000
  · have HX : Hid (layerB x = false) := by show _ = _; rw [HV.out, hq0, hq1]; simp
    go_wp2
    go_ret
    exact ⟨ret_bool HX.out.symm, rfl⟩
  go_wp2_with fail
  refine (l00InB_any _ _ _ _).mono ?_
  rintro e w' ⟨rfl, rfl⟩
  cases hq2 : inB x.water 0 1000000
  · have HX : Hid (layerB x = false) := by show _ = _; rw [HV.out, hq0, hq1, hq2]; simp
    go_wp2
    go_ret
    exact ⟨ret_bool HX.out.symm, rfl⟩
  go_wp2_with fail
  refine (l00InB_any _ _ _ _).mono ?_
  rintro e w' ⟨rfl, rfl⟩
  cases hq3 : inB x.density 30 900
  · have HX : Hid (layerB x = false) := by show _ = _; rw [HV.out, hq0, hq1, hq2, hq3]; simp
    go_wp2
    go_ret
    exact ⟨ret_bool HX.out.symm, rfl⟩
  go_wp2_with fail
  refine (l00InB_any _ _ _ _).mono ?_
  rintro e w' ⟨rfl, rfl⟩
  cases hq4 : inB x.degrees (-4000) 0
  · have HX : Hid (layerB x = false) := by show _ = _; rw [HV.out, hq0, hq1, hq2, hq3, hq4]; simp
    go_wp2
    go_ret
    exact ⟨ret_bool HX.out.symm, rfl⟩
  go_wp2_with fail
  refine (l00InB_any _ _ _ _).mono ?_
  rintro e w' ⟨rfl, rfl⟩
  cases hq5 : inB x.hardness 1 6
  · have HX : Hid (layerB x = false) := by show _ = _; rw [HV.out, hq0, hq1, hq2, hq3, hq4, hq5]; simp
    go_wp2
    go_ret
    exact ⟨ret_bool HX.out.symm, rfl⟩
  go_wp2_with fail
  refine (l00InB_any _ _ _ _).mono ?_
  rintro e w' ⟨rfl, rfl⟩
  cases hq6 : inB x.age 0 10000
  · have HX : Hid (layerB x = false) := by show _ = _; rw [HV.out, hq0, hq1, hq2, hq3, hq4, hq5, hq6]; rfl
    go_wp2
    go_ret
    exact ⟨ret_bool HX.out.symm, rfl⟩
  · have HX : Hid (layerB x = true) := by show _ = _; rw [HV.out, hq0, hq1, hq2, hq3, hq4, hq5, hq6]; rfl
    go_wp2
    go_ret
    exact ⟨ret_bool HX.out.symm, rfl⟩
def lyOk (L : List DLayer) (i : Nat) : Bool := layerB (L.getD i ⟨0, 0, 0, 0, 0, 0, 0⟩)
theorem all_layer (L : List DLayer) : L.all layerB = allIdx (lyOk L) L.length := by
  rw [Bool.eq_iff_iff, allIdx_true, List.all_eq_true]
  constructor
  · intro h i hi
    unfold lyOk
    rw [List.getD_eq_getElem?_getD, List.getElem?_eq_getElem hi]
    exact h _ (List.getElem_mem hi)
  · intro h x hx
    obtain ⟨i, hi, rfl⟩ := List.getElem_of_mem hx
    have := h i hi
    unfold lyOk at this
    rw [List.getD_eq_getElem?_getD, List.getElem?_eq_getElem hi] at this
    exact this
theorem lyOk_at {L : List DLayer} {k : Nat} (h : k < L.length) : lyOk L k = layerB L[k] := by unfold lyOk; rw [List.getD_eq_getElem?_getD, List.getElem?_eq_getElem h]; rfl
set_option maxRecDepth 100000 in
set_option maxHeartbeats 4000000 in
theorem l03Ok_any (v : Value) (L : List DLayer) (fp : List Nat) (w : World) (hx : Sl fLayer.cod w v L fp) :
    Calls Try.prog 37 #[v] w fun e w' => e = .returned (.bool (profB L)) ∧ w = w' := by
  obtain ⟨A, cap, rfl, hlen, hcap⟩ := hx.form
  go_enter Try.func37, Try.ntmps37
  go_wp2
  go_loop [3] (fun i => ∃ k : Nat, k ≤ L.length ∧ i = .int .i64 k ∧ Hid (allIdx (lyOk L) k = true)) (fun i => L.length - (intOf i).toNat)
  case atStart => exact ⟨0, Nat.zero_le _, rfl, rfl⟩
  case round =>
    obtain ⟨k, hk, rfl, H0⟩ := hrel
    by_cases hlt : k < L.length
    · obtain ⟨b, off, rfl, _, _, hp⟩ := PLayer.elem hx hlt
      have hat := lyOk_at hlt
      cases hq : layerB L[k]
      · have HX : Hid (profB L = false) := by show _ = _; unfold profB; rw [all_layer, allIdx_bad hlt (hat.trans hq)]; rfl
        go_wp2_with fail
        refine (l03One_any _ _ _ _ hp).mono ?_
        rintro e w' ⟨rfl, rfl⟩
        rw [hq]
        go_wp2
        go_ret
        exact ⟨ret_bool HX.out.symm, rfl⟩
      · have HN : Hid (allIdx (lyOk L) (k + 1) = true) := allIdx_step H0.out (hat.trans hq)
        clear hat
        go_wp2_with fail
        refine (l03One_any _ _ _ _ hp).mono ?_
        rintro e w' ⟨rfl, rfl⟩
        rw [hq]
        go_wp2
        go_round
        case rel => exact ⟨k + 1, by omega, by go_num, HN⟩
        case measure => simp [intOf]; omega
    · have HX : Hid (profB L = decide (L.length ≤ 16)) := by show _ = _; unfold profB; rw [all_layer, show L.length = k by omega, H0.out]; rfl
      by_cases h16 : L.length ≤ 16
      · have HY : Hid (profB L = true) := by show _ = _; rw [HX.out]; exact decide_eq_true h16
        go_wp2
        go_ret
        exact ⟨ret_bool (by rw [HY.out]; simp <;> omega), rfl⟩
      · have HY : Hid (profB L = false) := by show _ = _; rw [HX.out]; exact decide_eq_false h16
        go_wp2
        go_ret
        exact ⟨ret_bool (by rw [HY.out]; simp <;> omega), rfl⟩
set_option maxRecDepth 100000 in
set_option maxHeartbeats 4000000 in
theorem ValidLayer_any (x : DLayer) (w : World) :
    Calls Try.prog 71 #[lyAg x] w fun e w' => e = .returned (.bool (layerB x)) ∧ Below w.heap.size w w' := by
  have HV : Hid (layerB x = (inB x.form 1 6 && (inB x.ice 1 1000000 && (inB x.water 0 1000000 && (inB x.density 30 900 && (inB x.degrees (-4000) 0 && (inB x.hardness 1 6 && (inB x.age 0 10000)))))))) := rfl
  unfold lyAg
  go_enter Try.func71, Try.ntmps71
  go_wp2_with fail
  refine (withinB_any _ _ _ _).mono ?_
  rintro e w' ⟨rfl, rfl⟩
  cases hq0 : inB x.form 1 6
  · have HX : Hid (layerB x = false) := by show _ = _; rw [HV.out, hq0]; simp
    go_wp2
    go_ret
    exact ⟨ret_bool HX.out.symm, (Below.refl _ _).alloc (Nat.le_refl _) _⟩
  go_wp2_with fail
  refine (withinB_any _ _ _ _).mono ?_
  rintro e w' ⟨rfl, rfl⟩
  cases hq1 : inB x.ice 1 1000000
  · have HX : Hid (layerB x = false) := by show _ = _; rw [HV.out, hq0, hq1]; simp
    go_wp2
    go_ret
    exact ⟨ret_bool HX.out.symm, (Below.refl _ _).alloc (Nat.le_refl _) _⟩
  go_wp2_with fail
  refine (withinB_any _ _ _ _).mono ?_
  rintro e w' ⟨rfl, rfl⟩
  cases hq2 : inB x.water 0 1000000
  · have HX : Hid (layerB x = false) := by show _ = _; rw [HV.out, hq0, hq1, hq2]; simp
    go_wp2
    go_ret
    exact ⟨ret_bool HX.out.symm, (Below.refl _ _).alloc (Nat.le_refl _) _⟩
  go_wp2_with fail
  refine (withinB_any _ _ _ _).mono ?_
  rintro e w' ⟨rfl, rfl⟩
  cases hq3 : inB x.density 30 900
  · have HX : Hid (layerB x = false) := by show _ = _; rw [HV.out, hq0, hq1, hq2, hq3]; simp
    go_wp2
    go_ret
    exact ⟨ret_bool HX.out.symm, (Below.refl _ _).alloc (Nat.le_refl _) _⟩
  go_wp2_with fail
  refine (withinB_any _ _ _ _).mono ?_
  rintro e w' ⟨rfl, rfl⟩
  cases hq4 : inB x.degrees (-4000) 0
  · have HX : Hid (layerB x = false) := by show _ = _; rw [HV.out, hq0, hq1, hq2, hq3, hq4]; simp
    go_wp2
    go_ret
    exact ⟨ret_bool HX.out.symm, (Below.refl _ _).alloc (Nat.le_refl _) _⟩
  go_wp2_with fail
  refine (withinB_any _ _ _ _).mono ?_
  rintro e w' ⟨rfl, rfl⟩
  cases hq5 : inB x.hardness 1 6
  · have HX : Hid (layerB x = false) := by show _ = _; rw [HV.out, hq0, hq1, hq2, hq3, hq4, hq5]; simp
    go_wp2
    go_ret
    exact ⟨ret_bool HX.out.symm, (Below.refl _ _).alloc (Nat.le_refl _) _⟩
  go_wp2_with fail
  refine (withinB_any _ _ _ _).mono ?_
  rintro e w' ⟨rfl, rfl⟩
  cases hq6 : inB x.age 0 10000
  · have HX : Hid (layerB x = false) := by show _ = _; rw [HV.out, hq0, hq1, hq2, hq3, hq4, hq5, hq6]; rfl
    go_wp2
    go_ret
    exact ⟨ret_bool HX.out.symm, (Below.refl _ _).alloc (Nat.le_refl _) _⟩
  · have HX : Hid (layerB x = true) := by show _ = _; rw [HV.out, hq0, hq1, hq2, hq3, hq4, hq5, hq6]; rfl
    go_wp2
    go_ret
    exact ⟨ret_bool HX.out.symm, (Below.refl _ _).alloc (Nat.le_refl _) _⟩
set_option maxRecDepth 100000 in
set_option maxHeartbeats 4000000 in
theorem VP1_any (x : DLayer) (w : World) :
    Calls Try.prog 70 #[lyAg x] w fun e w' => e = .returned (.bool (!(layerB x))) ∧ Below w.heap.size w w' := by
  have hB : Below w.heap.size w (w.alloc (.cells #[.int .i64 x.form, .int .i64 x.ice, .int .i64 x.water, .int .i64 x.density, .int .i64 x.degrees, .int .i64 x.hardness, .int .i64 x.age] 83)) := (Below.refl _ _).alloc (Nat.le_refl _) _
  unfold lyAg
  go_enter Try.func70, Try.ntmps70
  go_wp2_with fail
  refine (ValidLayer_any x _).mono ?_
  rintro e w1 ⟨rfl, hb⟩
  go_wp2
  go_ret
  exact ⟨rfl, by first | exact hb | exact hB.trans (hb.mono hB.size)⟩
def IdxL (L : List DLayer) (w : World) (e : Ending) (w' : World) : Prop := ∃ r : Int, e = .returned (.int .i64 r) ∧ (L.all layerB = true → r = -1) ∧ (L.all layerB = false → 0 ≤ r) ∧ Below w.heap.size w w'
set_option maxRecDepth 100000 in
set_option maxHeartbeats 4000000 in
theorem indexLayer_any (v : Value) (L : List DLayer) (fp : List Nat) (w : World) (hx : Sl fLayer.cod w v L fp) :
    Calls Try.prog 80 #[v, .func (.func 70) #[] #[]] w fun e w' => IdxL L w e w' := by
  obtain ⟨A, cap, rfl, hlen, hcap⟩ := hx.form
  go_enter Try.func80, Try.ntmps80
  go_wp2
  go_loopw [8] (fun i wr => ∃ k : Nat, k ≤ L.length ∧ i = .int .i64 k ∧ Hid (allIdx (lyOk L) k = true) ∧ Below w.heap.size w wr) (fun i _ => L.length - (intOf i).toNat)
  case atStart => exact ⟨0, Nat.zero_le _, rfl, rfl, Below.refl _ _⟩
  case round =>
    obtain ⟨k, hk, rfl, H0, hb⟩ := hrel
    by_cases hlt : k < L.length
    · obtain ⟨b, off, rfl, _, _, hp⟩ := PLayer.elem (hx.below' hb) hlt
      have hat := lyOk_at hlt
      obtain ⟨c0, c1, c2, c3, c4, c5, c6⟩ := id hp
      go_wp2_with fail
      refine (VP1_any L[k] _).mono ?_
      rintro e w1 ⟨rfl, hb1⟩
      have hbb := hb.trans (hb1.mono hb.size)
      cases hq : layerB L[k]
      · have HX : Hid (L.all layerB = false) := by show _ = _; rw [all_layer, allIdx_bad hlt (hat.trans hq)]
        go_wp2
        go_ret
        exact ⟨_, rfl, fun h => by (rw [HX.out] at h; cases h), fun _ => by omega, hbb⟩
      · have HN : Hid (allIdx (lyOk L) (k + 1) = true) := allIdx_step H0.out (hat.trans hq)
        clear hat c0 c1 c2 c3 c4 c5 c6
        go_wp2
        go_roundw
        case rel => exact ⟨k + 1, by omega, by go_num, HN, hbb⟩
        case measure => simp [intOf]; omega
    · have HX : Hid (L.all layerB = true) := by show _ = _; rw [all_layer, show L.length = k by omega]; exact H0.out
      go_wp2
      go_ret
      exact ⟨-1, rfl, fun _ => rfl, fun h => by (rw [HX.out] at h; cases h), hb⟩
set_option maxRecDepth 100000 in
set_option maxHeartbeats 4000000 in
theorem containsLayer_any (v : Value) (L : List DLayer) (fp : List Nat) (w : World) (hx : Sl fLayer.cod w v L fp) :
    Calls Try.prog 69 #[v, .func (.func 70) #[] #[]] w fun e w' => e = .returned (.bool (!(L.all layerB))) ∧ Below w.heap.size w w' := by
  go_enter Try.func69, Try.ntmps69
  go_wp2_with fail
  refine (indexLayer_any v L fp w hx).mono ?_
  rintro e w' ⟨r, rfl, hr1, hr2, hb⟩
  cases hq : L.all layerB
  · have h3 := hr2 hq
    clear hr1 hr2
    go_wp2
    go_ret
    exact ⟨ret_bool (by simp [hq]), hb⟩
  · have h3 := hr1 hq
    clear hr1 hr2
    subst h3
    go_wp2
    go_ret
    exact ⟨ret_bool (by simp [hq]), hb⟩
set_option maxRecDepth 100000 in
set_option maxHeartbeats 4000000 in
theorem ValidProfile_any (v : Value) (L : List DLayer) (fp : List Nat) (w : World) (hx : Sl fLayer.cod w v L fp) :
    Calls Try.prog 48 #[v] w fun e w' => e = .returned (.bool (profB L)) ∧ Below w.heap.size w w' := by
  obtain ⟨A, cap, rfl, hlen, hcap⟩ := hx.form
  go_enter Try.func48, Try.ntmps48
  by_cases h16 : L.length ≤ 16
  · have HY : Hid (profB L = L.all layerB) := by show _ = _; unfold profB; rw [decide_eq_true h16, Bool.and_true]
    go_wp2_with fail
    refine (containsLayer_any _ L fp w hx).mono ?_
    rintro e w1 ⟨rfl, hb⟩
    go_wp2
    go_ret
    exact ⟨ret_bool (by rw [HY.out] <;> simp), hb⟩
  · have HY : Hid (profB L = false) := by show _ = _; unfold profB; rw [decide_eq_false h16, Bool.and_false]
    go_wp2
    go_ret
    exact ⟨ret_bool HY.out.symm, Below.refl _ _⟩
set_option maxRecDepth 100000 in
set_option maxHeartbeats 400000 in
theorem l07Slope_any (rise run : Int) (w : World) : Calls Try.prog 61 #[.int .i64 rise, .int .i64 run] w fun e w' => e = .returned (.bool (slopeB rise run)) ∧ w = w' := by
  have HV : Hid (slopeB rise run = (inB rise 0 1000 && inB run 1 1000)) := rfl
  go_enter Try.func61, Try.ntmps61
  go_wp2_with fail
  refine (l00InB_any _ _ _ _).mono ?_
  rintro e w' ⟨rfl, rfl⟩
  cases hq0 : inB rise 0 1000
  · have HX : Hid (slopeB rise run = false) := by show _ = _; rw [HV.out, hq0]; simp
    go_wp2
    go_ret
    exact ⟨ret_bool HX.out.symm, rfl⟩
  go_wp2_with fail
  refine (l00InB_any _ _ _ _).mono ?_
  rintro e w' ⟨rfl, rfl⟩
  cases hq1 : inB run 1 1000
  · have HX : Hid (slopeB rise run = false) := by show _ = _; rw [HV.out, hq0, hq1]; rfl
    go_wp2
    go_ret
    exact ⟨ret_bool HX.out.symm, rfl⟩
  · have HX : Hid (slopeB rise run = true) := by show _ = _; rw [HV.out, hq0, hq1]; rfl
    go_wp2
    go_ret
    exact ⟨ret_bool HX.out.symm, rfl⟩
set_option maxRecDepth 100000 in
set_option maxHeartbeats 400000 in
theorem slopeOk_any (rise run : Int) (w : World) : Calls Try.prog 49 #[.int .i64 rise, .int .i64 run] w fun e w' => e = .returned (.bool (slopeB rise run)) ∧ w = w' := by
  have HV : Hid (slopeB rise run = (inB rise 0 1000 && inB run 1 1000)) := rfl
  go_enter Try.func49, Try.ntmps49
  go_wp2_with fail
  refine (withinB_any _ _ _ _).mono ?_
  rintro e w' ⟨rfl, rfl⟩
  cases hq0 : inB rise 0 1000
  · have HX : Hid (slopeB rise run = false) := by show _ = _; rw [HV.out, hq0]; simp
    go_wp2
    go_ret
    exact ⟨ret_bool HX.out.symm, rfl⟩
  go_wp2_with fail
  refine (withinB_any _ _ _ _).mono ?_
  rintro e w' ⟨rfl, rfl⟩
  cases hq1 : inB run 1 1000
  · have HX : Hid (slopeB rise run = false) := by show _ = _; rw [HV.out, hq0, hq1]; rfl
    go_wp2
    go_ret
    exact ⟨ret_bool HX.out.symm, rfl⟩
  · have HX : Hid (slopeB rise run = true) := by show _ = _; rw [HV.out, hq0, hq1]; rfl
    go_wp2
    go_ret
    exact ⟨ret_bool HX.out.symm, rfl⟩
set_option maxRecDepth 100000 in
set_option maxHeartbeats 400000 in
theorem l07Doubt_any (n : Int) (w : World) : Calls Try.prog 62 #[.int .i64 n] w fun e w' => e = .returned (.bool (inB n 0 1000)) ∧ w = w' := by
  go_enter Try.func62, Try.ntmps62
  go_wp2_with (go_at_call 58; refine (l00InB_any _ _ _ _).mono ?_; rintro e w' ⟨rfl, rfl⟩)
  go_ret
  exact ⟨rfl, rfl⟩
set_option maxRecDepth 100000 in
set_option maxHeartbeats 400000 in
theorem l07Limit_any (n : Int) (w : World) : Calls Try.prog 63 #[.int .i64 n] w fun e w' => e = .returned (.bool (inB n 0 1000000)) ∧ w = w' := by
  go_enter Try.func63, Try.ntmps63
  go_wp2_with (go_at_call 58; refine (l00InB_any _ _ _ _).mono ?_; rintro e w' ⟨rfl, rfl⟩)
  go_ret
  exact ⟨rfl, rfl⟩
set_option maxRecDepth 100000 in
set_option maxHeartbeats 400000 in
theorem l17Tonnes_any (n : Int) (w : World) : Calls Try.prog 65 #[.int .i64 n] w fun e w' => e = .returned (.bool (inB n 0 1000000)) ∧ w = w' := by
  go_enter Try.func65, Try.ntmps65
  go_wp2_with (go_at_call 58; refine (l00InB_any _ _ _ _).mono ?_; rintro e w' ⟨rfl, rfl⟩)
  go_ret
  exact ⟨rfl, rfl⟩
set_option maxRecDepth 100000 in
set_option maxHeartbeats 400000 in
theorem doubtValid_any (n : Int) (w : World) : Calls Try.prog 50 #[.int .i64 n] w fun e w' => e = .returned (.bool (inB n 0 1000)) ∧ w = w' := by
  go_enter Try.func50, Try.ntmps50
  go_wp2_with (go_at_call 27; refine (withinB_any _ _ _ _).mono ?_; rintro e w' ⟨rfl, rfl⟩)
  go_ret
  exact ⟨rfl, rfl⟩
def slabC (L : List DLayer) (rise run doubt limit : Int) : Int := if profB L = false then 1 else if (slopeB rise run && (inB doubt 0 1000 && inB limit 0 1000000)) = false then 2 else 0
def sbAg (v : Value) (rise run doubt more : Int) : Value := .agg #[v, .int .i64 rise, .int .i64 run, .int .i64 doubt, .int .i64 more]
structure SbBox (w : World) (g : Nat) (v : Value) (rise run doubt more : Int) : Prop where
  c0 : w.cell? ⟨g, 0, none⟩ = some v
  c1 : w.cell? ⟨g, 1, none⟩ = some (.int .i64 rise)
  c2 : w.cell? ⟨g, 2, none⟩ = some (.int .i64 run)
  c3 : w.cell? ⟨g, 3, none⟩ = some (.int .i64 doubt)
  c4 : w.cell? ⟨g, 4, none⟩ = some (.int .i64 more)
theorem SbBox.below' {w w' : World} {g : Nat} {v : Value} {rise run doubt more : Int} (h : SbBox w g v rise run doubt more) (hb : Below w.heap.size w w') : SbBox w' g v rise run doubt more :=
  have hl : g < w.heap.size := block_lt_of_cell h.c0
  ⟨(hb.cell (p := ⟨g, _, none⟩) hl).trans h.c0, (hb.cell (p := ⟨g, _, none⟩) hl).trans h.c1, (hb.cell (p := ⟨g, _, none⟩) hl).trans h.c2, (hb.cell (p := ⟨g, _, none⟩) hl).trans h.c3, (hb.cell (p := ⟨g, _, none⟩) hl).trans h.c4⟩
theorem SbBox.new (w : World) (v : Value) (rise run doubt more : Int) (T : TypeId) : SbBox (w.alloc (.cells #[v, .int .i64 rise, .int .i64 run, .int .i64 doubt, .int .i64 more] T)) w.heap.size v rise run doubt more := by
  constructor <;> simp
set_option maxRecDepth 100000 in
set_option maxHeartbeats 4000000 in
theorem slabCode_any (v : Value) (L : List DLayer) (fp : List Nat) (rise run doubt more limit : Int) (w : World) (hx : Sl fLayer.cod w v L fp) :
    Calls Try.prog 23 #[sbAg v rise run doubt more, .int .i64 limit] w fun e w' => e = .returned (.int .i64 (slabC L rise run doubt limit)) ∧ Below w.heap.size w w' := by
  obtain ⟨A, cap, rfl, hlen, hcap⟩ := hx.form
  have hB : Below w.heap.size w (w.alloc (.cells #[.slice A L.length cap, .int .i64 rise, .int .i64 run, .int .i64 doubt, .int .i64 more] 58)) := (Below.refl _ _).alloc (Nat.le_refl _) _
  have pb := SbBox.new w (.slice A L.length cap) rise run doubt more 58
  replace hx := hx.below' hB
  unfold sbAg
  go_enter Try.func23, Try.ntmps23
  go_wp2_with fail
  generalize w.alloc (.cells #[.slice A L.length cap, .int .i64 rise, .int .i64 run, .int .i64 doubt, .int .i64 more] 58) = w0 at *
  refine (ValidProfile_any _ L fp _ hx).mono ?_
  rintro e w1 ⟨rfl, hb1⟩
  have hbb := hB.trans (hb1.mono hB.size)
  obtain ⟨c0, c1, c2, c3, c4⟩ := pb.below' hb1
  cases h1 : profB L
  · have HV : Hid (slabC L rise run doubt limit = 1) := by show _ = _; unfold slabC; rw [if_pos h1]
    go_wp2
    go_ret
    exact ⟨ret_int HV.out.symm, hbb⟩
  go_wp2_with fail
  refine (slopeOk_any _ _ _).mono ?_
  rintro e w' ⟨rfl, rfl⟩
  cases h2 : slopeB rise run
  · have HV : Hid (slabC L rise run doubt limit = 2) := by show _ = _; unfold slabC; rw [if_neg (by rw [h1]; simp), if_pos (by rw [h2]; simp)]
    go_wp2
    go_ret
    exact ⟨ret_int HV.out.symm, hbb⟩
  go_wp2_with fail
  refine (doubtValid_any _ _).mono ?_
  rintro e w' ⟨rfl, rfl⟩
  cases h3 : inB doubt 0 1000
  · have HV : Hid (slabC L rise run doubt limit = 2) := by show _ = _; unfold slabC; rw [if_neg (by rw [h1]; simp), if_pos (by rw [h2, h3]; simp)]
    go_wp2
    go_ret
    exact ⟨ret_int HV.out.symm, hbb⟩
  go_wp2_with fail
  refine (withinB_any _ _ _ _).mono ?_
  rintro e w' ⟨rfl, rfl⟩
  cases h4 : inB limit 0 1000000
  · have HV : Hid (slabC L rise run doubt limit = 2) := by show _ = _; unfold slabC; rw [if_neg (by rw [h1]; simp), if_pos (by rw [h2, h3, h4]; simp)]
    go_wp2
    go_ret
    exact ⟨ret_int HV.out.symm, hbb⟩
  have HV : Hid (slabC L rise run doubt limit = 0) := by show _ = _; unfold slabC; rw [if_neg (by rw [h1]; simp), if_neg (by rw [h2, h3, h4]; simp)]
  go_wp2
  go_ret
  exact ⟨ret_int HV.out.symm, hbb⟩
end Go.Proofs.Ytpebibegdeioeaa
