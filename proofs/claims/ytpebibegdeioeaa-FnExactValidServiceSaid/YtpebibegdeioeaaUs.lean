
/- Slabs: indexes, the weakest layer, levels. Plain laws. By hand. -/
import Derived.Test.YtpebibegdeioeaaTLayer
import Derived.Test.YtpebibegdeioeaaQd
import Derived.Test.YtpebibegdeioeaaUg
namespace Go.Proofs.Ytpebibegdeioeaa
open Go.RowKit
set_option linter.unusedVariables false

def layerB (x : DLayer) : Bool := inB x.form 1 6 && (inB x.ice 1 1000000 && (inB x.water 0 1000000 && (inB x.density 30 900 && (inB x.degrees (-4000) 0 && (inB x.hardness 1 6 && inB x.age 0 10000)))))
def profB (L : List DLayer) : Bool := L.all layerB && decide (L.length ≤ 16)
structure LayerP (x : DLayer) : Prop where
  form : 1 ≤ x.form ∧ x.form ≤ 6
  ice : 1 ≤ x.ice ∧ x.ice ≤ 1000000
  water : 0 ≤ x.water ∧ x.water ≤ 1000000
  density : 30 ≤ x.density ∧ x.density ≤ 900
theorem layerP_of {x : DLayer} (h : layerB x = true) : LayerP x := by
  unfold layerB at h
  simp only [Bool.and_eq_true] at h
  exact ⟨inB_true.1 h.1, inB_true.1 h.2.1, inB_true.1 h.2.2.1, inB_true.1 h.2.2.2.1⟩
theorem prof_one {L : List DLayer} (h : profB L = true) {x : DLayer} (hx : x ∈ L) : LayerP x := by
  unfold profB at h
  rw [Bool.and_eq_true, List.all_eq_true] at h
  exact layerP_of (h.1 x hx)
theorem prof_len {L : List DLayer} (h : profB L = true) : L.length ≤ 16 := by
  unfold profB at h
  rw [Bool.and_eq_true, decide_eq_true_eq] at h
  exact h.2
def iceS (L : List DLayer) : Int := sumL (L.map fun x => x.ice)
def watS (L : List DLayer) : Int := sumL (L.map fun x => x.water)
theorem iceS_snoc (L : List DLayer) {k : Nat} (h : k < L.length) : iceS (L.take (k + 1)) = iceS (L.take k) + L[k].ice := by
  unfold iceS; rw [List.take_succ_eq_append_getElem h, List.map_append, sumL_append]; simp [sumL]
theorem watS_snoc (L : List DLayer) {k : Nat} (h : k < L.length) : watS (L.take (k + 1)) = watS (L.take k) + L[k].water := by
  unfold watS; rw [List.take_succ_eq_append_getElem h, List.map_append, sumL_append]; simp [sumL]
theorem sumL_bound {M : List Int} {B : Int} (h : ∀ x ∈ M, 0 ≤ x ∧ x ≤ B) (hB : 0 ≤ B) : 0 ≤ sumL M ∧ sumL M ≤ B * (M.length : Int) := by
  induction M with
  | nil => simp [sumL]
  | cons a l ih =>
    obtain ⟨h1, h2⟩ := ih (fun x hx => h x (by simp [hx]))
    have h3 := h a (by simp)
    simp only [sumL, List.length_cons]
    rw [show ((l.length + 1 : Nat) : Int) = (l.length : Int) + 1 by omega, Int.mul_add, Int.mul_one]
    omega
theorem iceS_bound {L : List DLayer} (h : ∀ x ∈ L, LayerP x) : 0 ≤ iceS L ∧ iceS L ≤ 1000000 * (L.length : Int) := by
  have := sumL_bound (M := L.map fun x => x.ice) (B := 1000000) (fun x hx => by
    obtain ⟨y, hy, rfl⟩ := List.mem_map.1 hx
    have := (h y hy).ice; omega) (by omega)
  rw [List.length_map] at this
  exact this
theorem watS_bound {L : List DLayer} (h : ∀ x ∈ L, LayerP x) : 0 ≤ watS L ∧ watS L ≤ 1000000 * (L.length : Int) := by
  have := sumL_bound (M := L.map fun x => x.water) (B := 1000000) (fun x hx => by
    obtain ⟨y, hy, rfl⟩ := List.mem_map.1 hx
    have := (h y hy).water; omega) (by omega)
  rw [List.length_map] at this
  exact this
/-- The load above layer k. -/
def loadF (L : List DLayer) (k : Nat) : Int := iceS (L.drop (k + 1)) + watS (L.drop (k + 1))
theorem loadF_bound {L : List DLayer} (h : profB L = true) (k : Nat) : 0 ≤ loadF L k ∧ loadF L k ≤ 32000000 := by
  have hl := prof_len h
  have h1 := iceS_bound (L := L.drop (k + 1)) (fun x hx => prof_one h (List.mem_of_mem_drop hx))
  have h2 := watS_bound (L := L.drop (k + 1)) (fun x hx => prof_one h (List.mem_of_mem_drop hx))
  rw [List.length_drop] at h1 h2
  unfold loadF
  omega
def stressF (load rise run : Int) : Int := drF (load * 981 * rise * run) (100000 * (rise * rise + run * run))
structure SlopeP (rise run : Int) : Prop where
  r : 0 ≤ rise ∧ rise ≤ 1000
  u : 1 ≤ run ∧ run ≤ 1000
theorem mulB {a b A B : Int} (ha : 0 ≤ a ∧ a ≤ A) (hb : 0 ≤ b ∧ b ≤ B) : 0 ≤ a * b ∧ a * b ≤ A * B :=
  ⟨Int.mul_nonneg ha.1 hb.1, Int.le_trans (Int.mul_le_mul_of_nonneg_right ha.2 hb.1) (Int.mul_le_mul_of_nonneg_left hb.2 (by omega))⟩
theorem stress_parts {load rise run : Int} (hl : 0 ≤ load ∧ load ≤ 64000000) (hs : SlopeP rise run) :
    (0 ≤ load * 981 ∧ load * 981 ≤ 62784000000) ∧ (0 ≤ load * 981 * rise ∧ load * 981 * rise ≤ 62784000000000) ∧ (0 ≤ load * 981 * rise * run ∧ load * 981 * rise * run ≤ 62784000000000000) ∧ (0 ≤ rise * rise ∧ rise * rise ≤ 1000000) ∧ (1 ≤ run * run ∧ run * run ≤ 1000000) ∧ (1 ≤ rise * rise + run * run ∧ rise * rise + run * run ≤ 2000000) := by
  have h1 : 0 ≤ load * 981 ∧ load * 981 ≤ 62784000000 := by omega
  have h2 := mulB h1 hs.r
  have h3 := mulB h2 (show 0 ≤ run ∧ run ≤ 1000 by have := hs.u; omega)
  have h4 := mulB hs.r hs.r
  have h5 := mulB (show 0 ≤ run ∧ run ≤ 1000 by have := hs.u; omega) (show 0 ≤ run ∧ run ≤ 1000 by have := hs.u; omega)
  have h6 : 1 * 1 ≤ run * run := Int.le_trans (Int.mul_le_mul_of_nonneg_right hs.u.1 (by omega)) (Int.mul_le_mul_of_nonneg_left hs.u.1 (by have := hs.u; omega))
  refine ⟨h1, by omega, by omega, by omega, by omega, by omega⟩
theorem stress_bound {load rise run : Int} (hl : 0 ≤ load ∧ load ≤ 64000000) (hs : SlopeP rise run) : 0 ≤ stressF load rise run ∧ stressF load rise run ≤ 1000000000000 := by
  obtain ⟨h1, h2, h3, h4, h5, h6⟩ := stress_parts hl hs
  unfold stressF
  refine drF_between (by omega) (by omega) ?_
  omega
theorem stress_comm (load rise run : Int) : 981 * load * rise * run = load * 981 * rise * run := by rw [Int.mul_comm 981 load]
def facF (form : Int) : Int := [0, 20, 22, 30, 12, 8, 35].getD form.toNat 0
theorem facF_bound {form : Int} (h : 1 ≤ form ∧ form ≤ 6) : 8 ≤ facF form ∧ facF form ≤ 35 := by
  have : form = 1 ∨ form = 2 ∨ form = 3 ∨ form = 4 ∨ form = 5 ∨ form = 6 := by omega
  rcases this with rfl | rfl | rfl | rfl | rfl | rfl <;> decide
def baseF (x : DLayer) : Int := drF (x.density * x.density * facF x.form) 1000
theorem dens_parts {x : DLayer} (h : LayerP x) : (900 ≤ x.density * x.density ∧ x.density * x.density ≤ 810000) ∧ (0 ≤ x.density * x.density * facF x.form ∧ x.density * x.density * facF x.form ≤ 28350000) := by
  have h0 : 0 ≤ x.density ∧ x.density ≤ 900 := by have := h.density; omega
  have h1 := mulB h0 h0
  have h2 : 30 * 30 ≤ x.density * x.density := Int.le_trans (Int.mul_le_mul_of_nonneg_right h.density.1 (by omega)) (Int.mul_le_mul_of_nonneg_left h.density.1 h0.1)
  have h3 := facF_bound h.form
  have h4 := mulB (show 0 ≤ x.density * x.density ∧ x.density * x.density ≤ 810000 by omega) (show 0 ≤ facF x.form ∧ facF x.form ≤ 35 by omega)
  exact ⟨by omega, by omega⟩
theorem baseF_bound {x : DLayer} (h : LayerP x) : 0 ≤ baseF x ∧ baseF x ≤ 28350 := by
  obtain ⟨h1, h2⟩ := dens_parts h
  unfold baseF
  exact drF_between (by omega) (by omega) (by omega)
def lowS (x : DLayer) (doubt : Int) : Int := baseF x * (1000 - doubt) / 1000
def highS (x : DLayer) (doubt : Int) : Int := (baseF x * (1000 + doubt) + 999) / 1000
theorem strength_bound {x : DLayer} (h : LayerP x) {doubt : Int} (hd : 0 ≤ doubt ∧ doubt ≤ 1000) :
    (0 ≤ baseF x * (1000 - doubt) ∧ baseF x * (1000 - doubt) ≤ 28350000) ∧ (0 ≤ baseF x * (1000 + doubt) ∧ baseF x * (1000 + doubt) ≤ 56700000) ∧ (0 ≤ lowS x doubt ∧ lowS x doubt ≤ 28350) ∧ (0 ≤ highS x doubt ∧ highS x doubt ≤ 56701) ∧ lowS x doubt ≤ highS x doubt := by
  have h1 := baseF_bound h
  have h2 := mulB h1 (show 0 ≤ 1000 - doubt ∧ 1000 - doubt ≤ 1000 by omega)
  have h3 := mulB h1 (show 0 ≤ 1000 + doubt ∧ 1000 + doubt ≤ 2000 by omega)
  have h4 : baseF x * (1000 - doubt) ≤ baseF x * (1000 + doubt) := Int.mul_le_mul_of_nonneg_left (by omega) h1.1
  unfold lowS highS
  refine ⟨by omega, by omega, by omega, by omega, by omega⟩
/-- The bounds of the index of layer k. -/
def idxL (L : List DLayer) (k : Nat) (rise run doubt : Int) : Int := if stressF (loadF L k) rise run = 0 then 1000000 else min 1000000 (lowS (L.getD k ⟨0, 0, 0, 0, 0, 0, 0⟩) doubt * 1000 / stressF (loadF L k) rise run)
def idxH (L : List DLayer) (k : Nat) (rise run doubt : Int) : Int := if stressF (loadF L k) rise run = 0 then 1000000 else min 1000000 ((highS (L.getD k ⟨0, 0, 0, 0, 0, 0, 0⟩) doubt * 1000 + stressF (loadF L k) rise run - 1) / stressF (loadF L k) rise run)
theorem idx_bound {L : List DLayer} (h : profB L = true) {k : Nat} (hk : k < L.length) {rise run doubt : Int} (hs : SlopeP rise run) (hd : 0 ≤ doubt ∧ doubt ≤ 1000) :
    (0 ≤ idxL L k rise run doubt ∧ idxL L k rise run doubt ≤ 1000000) ∧ (0 ≤ idxH L k rise run doubt ∧ idxH L k rise run doubt ≤ 1000000) := by
  have h1 := stress_bound (show 0 ≤ loadF L k ∧ loadF L k ≤ 64000000 by have := loadF_bound h k; omega) hs
  have hx : L.getD k ⟨0, 0, 0, 0, 0, 0, 0⟩ = L[k] := by rw [List.getD_eq_getElem?_getD, List.getElem?_eq_getElem hk]; rfl
  obtain ⟨_, _, h4, h5, _⟩ := strength_bound (prof_one h (List.getElem_mem hk)) hd
  unfold idxL idxH
  rw [hx]
  constructor
  · split
    · omega
    · have : 0 ≤ lowS L[k] doubt * 1000 / stressF (loadF L k) rise run := Int.ediv_nonneg (by omega) h1.1
      omega
  · split
    · omega
    · have : 0 ≤ (highS L[k] doubt * 1000 + stressF (loadF L k) rise run - 1) / stressF (loadF L k) rise run := Int.ediv_nonneg (by omega) h1.1
      omega
/-- The weakest of the first k layers: its place and its lesser bound. -/
def weakTo (L : List DLayer) (rise run doubt : Int) (st : Int × Int) : Nat → Int × Int
  | 0 => st
  | k + 1 => let p := weakTo L rise run doubt st k; if p.1 < 0 ∨ idxL L k rise run doubt < p.2 then ((k : Int), idxL L k rise run doubt) else p
def weakF (L : List DLayer) (rise run doubt : Int) : Int × Int := weakTo L rise run doubt (-1, 0) L.length
theorem weakTo_start (L : List DLayer) (rise run doubt : Int) (a b : Int) (k : Nat) : weakTo L rise run doubt (-1, a) (k + 1) = weakTo L rise run doubt (-1, b) (k + 1) := by
  induction k with
  | zero => simp [weakTo]
  | succ k ih =>
    rw [weakTo]
    conv => rhs; rw [weakTo]
    simp only [ih]
theorem weakTo_in (L : List DLayer) (rise run doubt : Int) (a : Int) (k : Nat) (hk : 0 < k) : ∃ j, j < k ∧ weakTo L rise run doubt (-1, a) k = ((j : Int), idxL L j rise run doubt) := by
  induction k with
  | zero => omega
  | succ k ih =>
    rw [weakTo]
    by_cases h0 : k = 0
    · subst h0
      exact ⟨0, by omega, by simp [weakTo]⟩
    · obtain ⟨j, hj, e⟩ := ih (by omega)
      simp only [e]
      split
      · exact ⟨k, by omega, rfl⟩
      · exact ⟨j, by omega, rfl⟩
end Go.Proofs.Ytpebibegdeioeaa
