/- Parts of the proof: Gr, Sza, TString, So, De, Dz. -/
import Derived.Test.YtphljobklilbdaaGreatDoorG03
import Derived.Test.YtphljobklilbdaaGreatDoorG01
import Derived.Test.YtphljobklilbdaaGreatDoorG02
import Derived.Lib.ItoaNum
import Derived.Laws.IdiomStrings
namespace Go.Proofs.YtphljobklilbdaaGreatDoor
open Go.RowKit
set_option linter.unusedVariables false

def groupB (x : DGroup) : Bool := nameB x.id && inB x.people 1 30 && inB x.guides 0 x.people && inB x.beacons 0 30 && inB x.shovels 0 30 && inB x.probes 0 30 && inB x.skill 1 5
def levelB (n : Int) : Bool := inB n 1 5

def allIn (xs : List Int) (lo hi : Int) : Bool := xs.all fun x => inB x lo hi
set_option maxRecDepth 100000 in
set_option maxHeartbeats 1000000 in
theorem allWithin1_any (x lo hi : Int) (a1 a2 : Addr) (w : World) (h1 : w.cell? a1 = some (.int .i64 lo)) (h2 : w.cell? a2 = some (.int .i64 hi)) :
    Calls Tryz.prog 47 #[.int .i64 x, .pointer (some a1), .pointer (some a2)] w fun e w' => e = .returned (.bool (!(inB x lo hi))) ∧ w = w' := by
  go_enter Tryz.func47, Tryz.ntmps47
  go_wp2_with (go_at_call 27; refine (withinB_any _ _ _ _).mono ?_; rintro e w' ⟨rfl, rfl⟩)
  go_ret
  exact ⟨rfl, rfl⟩

/-- Where the first element outside stands, or -1. -/
def IdxR (xs : List Int) (lo hi : Int) (w : World) (e : Ending) (w' : World) : Prop := ∃ r : Int, e = .returned (.int .i64 r) ∧ (allIn xs lo hi = true → r = -1) ∧ (allIn xs lo hi = false → 0 ≤ r) ∧ w = w'
set_option maxRecDepth 100000 in
set_option maxHeartbeats 1000000 in
theorem indexWithin_any (v : Value) (xs : List Int) (fp : List Nat) (lo hi : Int) (a1 a2 : Addr) (w : World) (hx : Sl fInt.cod w v xs fp) (h1 : w.cell? a1 = some (.int .i64 lo)) (h2 : w.cell? a2 = some (.int .i64 hi)) :
    Calls Tryz.prog 62 #[v, .func (.func 47) #[] #[.pointer (some a1), .pointer (some a2)]] w fun e w' => IdxR xs lo hi w e w' := by
  obtain ⟨A, cap, rfl, hlen, hcap⟩ := hx.form
  go_enter Tryz.func62, Tryz.ntmps62
  go_wp2
  go_loop [8] (fun i => ∃ k : Nat, k ≤ xs.length ∧ i = .int .i64 k ∧ Hid (allIn (xs.take k) lo hi = true)) (fun i => xs.length - (intOf i).toNat)
  case atStart => exact ⟨0, Nat.zero_le _, rfl, rfl⟩
  case round =>
    obtain ⟨k, hk, rfl, HE⟩ := hrel
    by_cases hlt : k < xs.length
    · obtain ⟨b, off, rfl, _, hok, hc, _⟩ := hx.cell1 rfl hlt rfl
      cases hb : inB xs[k] lo hi
      · have HA : Hid (allIn xs lo hi = false) := by
          show allIn xs lo hi = false
          unfold allIn
          rw [List.all_eq_false]
          exact ⟨xs[k], List.getElem_mem hlt, by rw [hb]; simp⟩
        go_wp2_with (go_at_call 47; refine (allWithin1_any _ _ _ _ _ _ h1 h2).mono ?_; rintro e w' ⟨rfl, rfl⟩)
        go_ret
        exact ⟨k, rfl, fun h => by (rw [HA.out] at h; cases h), fun _ => by omega, rfl⟩
      · have HA : Hid (allIn (xs.take (k + 1)) lo hi = true) := by
          show allIn _ lo hi = true
          have h0 := HE.out
          unfold allIn at *
          rw [List.take_succ_eq_append_getElem hlt, List.all_append, h0]
          simp [hb]
        go_wp2_with (go_at_call 47; refine (allWithin1_any _ _ _ _ _ _ h1 h2).mono ?_; rintro e w' ⟨rfl, rfl⟩)
        go_round
        case rel => exact ⟨k + 1, by omega, by go_num, HA⟩
        case measure => simp [intOf]; omega
    · have HA : Hid (allIn xs lo hi = true) := by have := HE.out; rw [List.take_of_length_le (by omega)] at this; exact this
      go_wp2
      go_ret
      exact ⟨-1, rfl, fun _ => rfl, fun h => by (rw [HA.out] at h; cases h), rfl⟩

set_option maxRecDepth 100000 in
set_option maxHeartbeats 1000000 in
theorem containsWithin_any (v : Value) (xs : List Int) (fp : List Nat) (lo hi : Int) (a1 a2 : Addr) (w : World) (hx : Sl fInt.cod w v xs fp) (h1 : w.cell? a1 = some (.int .i64 lo)) (h2 : w.cell? a2 = some (.int .i64 hi)) :
    Calls Tryz.prog 46 #[v, .func (.func 47) #[] #[.pointer (some a1), .pointer (some a2)]] w fun e w' => e = .returned (.bool (!(allIn xs lo hi))) ∧ w = w' := by
  go_enter Tryz.func46, Tryz.ntmps46
  go_wp2_with fail
  refine (indexWithin_any v xs fp lo hi a1 a2 w hx h1 h2).mono ?_
  rintro e w' ⟨r, rfl, hr1, hr2, rfl⟩
  cases hb : allIn xs lo hi
  · have h3 := hr2 hb
    clear hr1 hr2
    go_wp2
    go_ret
    exact ⟨ret_bool (by simp [hb]), rfl⟩
  · have h3 := hr1 hb
    clear hr1 hr2
    subst h3
    go_wp2
    go_ret
    exact ⟨ret_bool (by simp [hb]), rfl⟩

set_option maxRecDepth 100000 in
set_option maxHeartbeats 1000000 in
theorem allWithin_any (v : Value) (xs : List Int) (fp : List Nat) (lo hi : Int) (w : World) (hx : Sl fInt.cod w v xs fp) :
    Calls Tryz.prog 32 #[v, .int .i64 lo, .int .i64 hi] w fun e w' => e = .returned (.bool (allIn xs lo hi)) ∧ Below w.heap.size w w' := by
  have hmf : ∀ (fn : Fn) (first cap : Array Value) (W : World), (Instr.makeFunc fn first cap).run Tryz.prog W = .ok (.func fn first cap) W := fun _ _ _ _ => rfl
  have hx2 := (hx.below' ((Below.refl _ _).alloc (Nat.le_refl _) (.cells #[.int .i64 lo] 2))).below' ((Below.refl _ _).alloc (Nat.le_refl _) (.cells #[.int .i64 hi] 2))
  go_enter Tryz.func32, Tryz.ntmps32
  go_wp2_with fail
  refine (containsWithin_any v xs fp lo hi _ _ _ hx2 (by simp) (by simp)).mono ?_
  rintro e w' ⟨rfl, rfl⟩
  cases hb : allIn xs lo hi
  all_goals
    go_wp2
    go_ret
    exact ⟨ret_bool (by simp [hb]), (by repeat (first | exact Below.refl _ _ | assumption | refine Below.alloc ?_ (by first | omega | (simp <;> omega)) _ | refine Below.setCell ?_ (by first | (show _ ≤ _; omega) | (simp <;> omega)) _ | refine Below.drew ?_ | refine below_drewN ?_ _))⟩

end Go.Proofs.YtphljobklilbdaaGreatDoor

namespace Go.Proofs.YtphljobklilbdaaGreatDoor
open Go.RowKit
set_option linter.unusedVariables false
set_option linter.unusedSimpArgs false

theorem visit_all {xs : List DStand} {cs : List Int} {snow least money : Int} {B g : Nat} {lv cv : Value} {fl fc : List Nat} (henv : PEnv xs cs snow least B lv cv fl fc) : ∀ m, m ≤ xs.length → VisitSt xs cs snow least money B g lv cv fl fc m
  | 0, _ => visit_zero henv
  | m + 1, h => visit_succ henv m (node_of_visit henv m h (visit_all henv m (by omega)))
theorem allIn_all {xs : List Int} {lo hi : Int} (h : allIn xs lo hi = true) : ∀ c ∈ xs, lo ≤ c ∧ c ≤ hi := by
  intro c hc
  obtain ⟨k, hk, rfl⟩ := List.getElem_of_mem hc
  unfold allIn at h
  first
    | exact inB_true.1 (List.all_eq_true.1 h _ hc)
    | exact inB_true.1 (by have := allIdx_true.1 h k hk; simpa [List.getD_eq_getElem?_getD, hk] using this)
set_option maxRecDepth 100000 in
set_option maxHeartbeats 400000 in
theorem budgetValid_any (a : Int) (w : World) : Calls Tryz.prog 33 #[.int .i64 a] w fun e w' => e = .returned (.bool (inB a 1 20000)) ∧ w = w' := by
  go_enter Tryz.func33, Tryz.ntmps33
  go_wp2_with (go_at_call 27; refine (withinB_any _ _ _ _).mono ?_; rintro e w' ⟨rfl, rfl⟩)
  go_ret
  exact ⟨rfl, rfl⟩
/-- What PlantBest says when it says OK. -/
def PBest (xs : List DStand) (cs : List Int) (money snow least : Int) (w : World) (v : Value) (mo : Int) (w' : World) : Prop :=
  standsB xs = true ∧ cs.length = xs.length ∧ (∀ c ∈ cs, 0 ≤ c ∧ c ≤ 1000000) ∧ (0 ≤ money ∧ money ≤ 100000000) ∧ protokB snow least = true ∧ ∃ Q, Own fInt w' w.heap.size 2 v (PI Q) ∧ PlantGood xs cs snow least money Q mo
set_option maxRecDepth 100000 in
set_option maxHeartbeats 8000000 in
theorem PlantBest_any (v c : Value) (xs : List DStand) (cs : List Int) (fl fc : List Nat) (money snow least budget : Int) (w : World) (hx : Sl fStand.cod w v xs fl) (hc : Sl fInt.cod w c cs fc) (hcz : cs.length ≤ 1000) :
    Calls Tryz.prog 10 #[v, c, .int .i64 money, .int .i64 snow, .int .i64 least, .int .i64 budget] w fun e w' => ∃ (r : Value) (mo k : Int), e = .returned (.tuple #[r, .int .i64 mo, .int .i64 k]) ∧ (k = 0 → PBest xs cs money snow least w r mo w') ∧ Below w.heap.size w w' := by
  obtain ⟨A, cap, rfl, hlen, hcap⟩ := hx.form
  obtain ⟨Ac, cc, rfl, hlc, hcc⟩ := hc.form
  have hfl := hx.lt
  have hfc := hc.lt
  go_enter Tryz.func10, Tryz.ntmps10
  go_wp2_with fail
  refine (ValidStands_any _ xs fl _ hx).mono ?_
  rintro e w1 ⟨rfl, hb1⟩
  replace hx := hx.below' hb1
  replace hc := hc.below' hb1
  cases hv : standsB xs
  · go_wp2
    go_ret3
    exact ⟨_, _, _, rfl, fun h => absurd h (by decide), hb1⟩
  have hl16 := standsB_len hv
  go_wp2_with fail
  refine (protectOk_any _ _ _).mono ?_
  rintro e w' ⟨rfl, rfl⟩
  cases hpo : protokB snow least
  · go_wp2
    go_ret3
    exact ⟨_, _, _, rfl, fun h => absurd h (by decide), hb1⟩
  by_cases hcl : cs.length = xs.length
  rotate_left
  · have e1 : ((cs.length : Int) != (xs.length : Int)) = true := by rw [bne_iff_ne]; omega
    clear hcl
    go_wp2
    go_ret3
    exact ⟨_, _, _, rfl, fun h => absurd h (by decide), hb1⟩
  have e1 : ((cs.length : Int) != (xs.length : Int)) = false := by rw [bne_eq_false_iff_eq]; omega
  have HCL := Lib.hid hcl
  clear hcl
  go_wp2_with fail
  refine (allWithin_any _ cs fc 0 1000000 _ hc).mono ?_
  rintro e w2 ⟨rfl, hb2⟩
  replace hx := hx.below' hb2
  replace hc := hc.below' hb2
  have hb3 := hb1.trans (hb2.mono hb1.size)
  clear hb2
  cases hal : allIn cs 0 1000000
  · go_wp2
    go_ret3
    exact ⟨_, _, _, rfl, fun h => absurd h (by decide), hb3⟩
  have hca := allIn_all hal
  go_wp2_with fail
  refine (withinB_any _ _ _ _).mono ?_
  rintro e w' ⟨rfl, rfl⟩
  cases hmo : inB money 0 100000000
  · go_wp2
    go_ret3
    exact ⟨_, _, _, rfl, fun h => absurd h (by decide), hb3⟩
  go_wp2_with fail
  refine (budgetValid_any _ _).mono ?_
  rintro e w' ⟨rfl, rfl⟩
  cases hbu : inB budget 1 20000
  · go_wp2
    go_ret3
    exact ⟨_, _, _, rfl, fun h => absurd h (by decide), hb3⟩
  have hbu2 := inB_true.1 hbu
  have hmo2 := inB_true.1 hmo
  have hpo2 : (0 ≤ snow ∧ snow ≤ 2000) ∧ 0 ≤ least ∧ least ≤ 1000 := by
    have h := hpo
    unfold protokB at h
    rw [Bool.and_eq_true] at h
    exact ⟨inB_true.1 h.1, inB_true.1 h.2⟩
  have hB1 := hb3.size
  have henv : PEnv xs cs snow least w2.heap.size (.slice A xs.length cap) (.slice Ac cs.length cc) fl fc := ⟨hv, HCL.out, hca, hpo2.1, hpo2.2, fun b hb => Nat.lt_of_lt_of_le (hfl b hb) hB1, fun b hb => Nat.lt_of_lt_of_le (hfc b hb) hB1⟩
  have hA : Below w2.heap.size w2 (w2.alloc (.cells #[.slice A xs.length cap, .slice Ac cs.length cc, .int .i64 snow, .int .i64 least, .int .i64 budget, .slice none 0 0, .slice none 0 0, .int .i64 (-1)] 66)) := (Below.refl _ _).alloc (Nat.le_refl _) _
  have hM : PMem (w2.alloc (.cells #[.slice A xs.length cap, .slice Ac cs.length cc, .int .i64 snow, .int .i64 least, .int .i64 budget, .slice none 0 0, .slice none 0 0, .int .i64 (-1)] 66)) w2.heap.size w2.heap.size (.slice A xs.length cap) (.slice Ac cs.length cc) snow least budget (-1) [] [] (.slice none 0 0) (.slice none 0 0) :=
    ⟨BoxL.new w2 _ _ _ rfl, Own.nil _ _ _ _, Own.nil _ _ _ _, Nat.le_refl _, fun e => (by cases e), fun e => (by cases e), fun b e => (by cases e)⟩
  have hx3 := hx.below' hA
  have hc3 := hc.below' hA
  have hvs := visit_all (money := money) (g := w2.heap.size) henv xs.length (Nat.le_refl _) 0 [] [] money 0 budget (-1) _ _ _ (by omega) (PlantP.start xs cs snow least hmo2.1) (.inl ⟨rfl, rfl⟩) (by omega) hmo2 hx3 hc3 hM
  rw [show ((0 : Nat) : Int) = 0 from rfl] at hvs
  have hcl := HCL.out
  clear hx hc hx3 hc3 hbu hal
  have HCL2 := Lib.hid hcl
  clear hcl HCL e1
  go_wp2_with fail
  refine hvs.mono ?_
  rintro e wz ⟨rfl, Q9, mo9, bu9, vp9, vb9, hmz, hfz, hiz, hgz, hbz, hlz⟩
  have hBz : Below w.heap.size w wz := hb3.trans ((hA.trans ((hfz.below hM).mono (Nat.le_refl _))).mono hB1)
  have c4 : wz.cell? ⟨w2.heap.size, 4, none⟩ = some (.int .i64 bu9) := hmz.bx.cell 4 _ rfl
  have hcl := HCL2.out
  clear hvs hM hA hfz
  by_cases hb9 : 0 ≤ bu9
  rotate_left
  · have hb8 : bu9 < 0 := by omega
    have HK := Lib.hid hcl
    clear hcl hb9
    go_wp2
    go_ret3
    exact ⟨_, _, _, rfl, fun h => absurd h (by decide), hBz⟩
  have c6 : wz.cell? ⟨w2.heap.size, 6, none⟩ = some vb9 := hmz.bx.cell 6 _ rfl
  have c7 : wz.cell? ⟨w2.heap.size, 7, none⟩ = some (.int .i64 mo9) := hmz.bx.cell 7 _ rfl
  have HK := Lib.hid hcl
  clear hcl
  go_wp2
  have gc6 := cell_regrown c6
  have gc7 := cell_regrown c7
  refine wp_region_mix (C := fun w' => ∃ p : Regrown, w' = Go.Sort.grow (redrawn wz p.d) p.os) [true, true, true, true, true, true, true] (by kernel_rfl) (by kernel_rfl) (by kernel_rfl) (fun _ _ d _ _ h => by cases d <;> exact h) (regrown_of_below (Below.drew (Below.refl _ _))) ?_
  have hS0 : Below (wz.heap.size) wz wz.drew := Below.drew (Below.refl _ _)
  refine wpMix_pure (by kernel_rfl) (fun K hK => ?_); go_big_quiet_op; refine hK _ ?_; clear hK K
  refine wpMix_pure (by kernel_rfl) (fun K hK => ?_); go_big_quiet_op; refine hK _ ?_; clear hK K
  refine wpMix_pure (by kernel_rfl) (fun K hK => ?_); go_big_quiet_op; refine hK _ ?_; clear hK K
  refine wpMix_pure (by kernel_rfl) (fun K hK => ?_); go_big_quiet_op; refine hK _ ?_; clear hK K
  refine wpMix_pure (by kernel_rfl) (fun K hK => ?_); go_big_quiet_op; refine hK _ ?_; clear hK K
  refine wpMix_pure (by kernel_rfl) (fun K hK => ?_); go_big_quiet_op; refine hK _ ?_; clear hK K
  refine wpMix_pure (by kernel_rfl) (fun K hK => ?_); go_big_quiet_op; refine hK _ ?_; clear hK K
  refine wpMix_nil ?_
  have hB9 := hBz.trans (hS0.mono hBz.size)
  clear gc6 gc7
  go_wp2
  go_ret3
  exact ⟨_, _, _, rfl, fun _ => ⟨hv, HK.out, hca, inB_true.1 hmo, hpo, Q9, ownM_ (hmz.below hS0).bs hB1, hgz hb9⟩, hB9⟩

end Go.Proofs.YtphljobklilbdaaGreatDoor

namespace Go.Proofs.YtphljobklilbdaaGreatDoor
open Go.RowKit
set_option linter.unusedVariables false

def totString (x : ByteArray) : Nat := x.size
def totStringS (xs : List ByteArray) : Nat := xs.length + (xs.map totString).sum




def mkString (k : Int) : ByteArray := mt (k)
def marksString (k : Int) (n : Nat) : List ByteArray := (List.range n).map fun (i : Nat) => mkString (k + 1 * (i : Int))

theorem marksString_get (k0 : Int) (n i : Nat) (h : i < (marksString k0 n).length) : (marksString k0 n)[i] = mkString (k0 + 1 * (i : Int)) := by
  simp [marksString]
theorem marksString_len (k0 : Int) (n : Nat) : (marksString k0 n).length = n := by simp [marksString]



end Go.Proofs.YtphljobklilbdaaGreatDoor

namespace Go.Proofs.YtphljobklilbdaaGreatDoor
open Go.RowKit
set_option linter.unusedVariables false

/-! ### lists of strings in order -/
def Srt (L : List ByteArray) : Prop := L.Pairwise (fun a b => ltS b a = false)
def srtF (L : List ByteArray) : List ByteArray := L.mergeSort (fun a b => !ltS b a)
theorem leS_trans {a b c : ByteArray} (h1 : ltS b a = false) (h2 : ltS c b = false) : ltS c a = false := by
  cases h : ltS c a with
  | false => rfl
  | true =>
    cases h3 : ltS b c with
    | true => have := ltS_trans h3 h; rw [this] at h1; cases h1
    | false =>
      have := ltS_tri h3 h2
      subst this
      rw [h] at h1; cases h1
theorem leS_total (a b : ByteArray) : (!ltS b a || !ltS a b) = true := by
  cases h : ltS b a with
  | false => rfl
  | true => rw [ltS_asymm h]; rfl
theorem srtF_perm (L : List ByteArray) : (srtF L).Perm L := List.mergeSort_perm _ _
theorem srtF_srt (L : List ByteArray) : Srt (srtF L) := by
  have h := List.pairwise_mergeSort (le := fun a b => !ltS b a) (fun a b c h1 h2 => by simp at *; exact leS_trans h1 h2) leS_total L
  exact h.imp (fun h => by simpa using h)
theorem srt_unique {a b : List ByteArray} (ha : Srt a) (hb : Srt b) (h : a.Perm b) : a = b :=
  List.Perm.eq_of_pairwise (fun x y _ _ h1 h2 => ltS_tri h2 h1) ha hb h
theorem srtF_of {a L : List ByteArray} (ha : Srt a) (h : a.Perm L) : a = srtF L := srt_unique ha (srtF_srt L) (h.trans (srtF_perm L).symm)
theorem srtF_len (L : List ByteArray) : (srtF L).length = L.length := (srtF_perm L).length_eq
/-- x put in behind the first k of A. -/
theorem srt_insert {A : List ByteArray} {x : ByteArray} {k : Nat} (hA : Srt A) (h1 : ∀ y ∈ A.take k, ltS x y = false) (h2 : ∀ y ∈ A.drop k, ltS y x = false) : Srt (A.take k ++ x :: A.drop k) := by
  unfold Srt at *
  rw [List.pairwise_append, List.pairwise_cons]
  refine ⟨hA.take, ⟨h2, hA.drop⟩, ?_⟩
  intro a ha b hb
  rcases List.mem_cons.1 hb with rfl | hb
  · exact h1 a ha
  · rw [← List.take_append_drop k A, List.pairwise_append] at hA
    exact hA.2.2 a ha b hb
theorem srt_below {A : List ByteArray} {x : ByteArray} {k : Nat} (hA : Srt A) (hk : k < A.length) (h : ltS x A[k] = false) : ∀ y ∈ A.take (k + 1), ltS x y = false := by
  intro y hy
  obtain ⟨m, hm, rfl⟩ := List.getElem_of_mem hy
  simp at hm
  rw [List.getElem_take]
  rcases Nat.lt_or_ge m k with h2 | h2
  · exact leS_trans (List.pairwise_iff_getElem.1 hA m k (by omega) hk h2) h
  · obtain rfl : m = k := by omega
    exact h
theorem srt_take1 : ∀ L : List ByteArray, Srt (L.take 1)
  | [] => List.Pairwise.nil
  | x :: L => by simp [Srt]
theorem gtS_cases (a b : ByteArray) : (ltS b a = false ∧ Op.bytesLess a.toList b.toList = true) ∨ (ltS b a = false ∧ Op.bytesLess a.toList b.toList = false ∧ (a.toList == b.toList) = true) ∨ (ltS b a = true ∧ Op.bytesLess a.toList b.toList = false ∧ (a.toList == b.toList) = false) := by
  cases h : ltS b a with
  | true =>
    refine .inr (.inr ⟨rfl, ltS_asymm h, bytes_beq_false (fun e => ?_)⟩)
    subst e; rw [ltS_irrefl] at h; cases h
  | false =>
    cases h1 : ltS a b with
    | true => exact .inl ⟨rfl, h1⟩
    | false => exact .inr (.inl ⟨rfl, h1, eqS_true.2 (ltS_tri h1 h)⟩)
/-- The rows of the insertion: x at place k of A, R behind. -/
def insL (A : List ByteArray) (x : ByteArray) (R : List ByteArray) (k : Nat) : List ByteArray := A.take k ++ x :: (A.drop k ++ R)
theorem insL_len {A R : List ByteArray} {x : ByteArray} {k : Nat} (hk : k ≤ A.length) : (insL A x R k).length = A.length + 1 + R.length := by
  unfold insL; simp; omega
theorem insL_at {A R : List ByteArray} {x : ByteArray} {k : Nat} (hk : k ≤ A.length) : (insL A x R k)[k]? = some x := by
  unfold insL; rw [List.getElem?_append_right (by simp; omega)]; simp [Nat.min_eq_left hk]
theorem insL_before {A R : List ByteArray} {x : ByteArray} {k : Nat} (hk : k + 1 ≤ A.length) : (insL A x R (k + 1))[k]? = some A[k] := by
  unfold insL; rw [List.getElem?_append_left (by simp; omega)]; simp
theorem insL_swap {A R : List ByteArray} {x : ByteArray} {k : Nat} (hk : k + 1 ≤ A.length) : ((insL A x R (k + 1)).set (k + 1) A[k]).set k x = insL A x R k := by
  apply List.ext_getElem?
  intro j
  have hl : (A.take (k + 1)).length = k + 1 := by simp; omega
  have hl2 : (A.take k).length = k := by simp; omega
  have hd : A.drop k = A[k] :: A.drop (k + 1) := List.drop_eq_getElem_cons (by omega)
  unfold insL
  rw [List.getElem?_set, List.getElem?_set]
  simp only [List.length_set, List.length_append, hl, List.length_cons, List.length_drop]
  by_cases h1 : k = j
  · subst h1
    rw [if_pos rfl, if_pos (by omega), List.getElem?_append_right (by omega), hl2]
    simp
  · rw [if_neg h1]
    by_cases h2 : k + 1 = j
    · subst h2
      rw [if_pos rfl, if_pos (by omega), List.getElem?_append_right (by omega), hl2, hd]
      generalize A[k] = a
      generalize A.drop (k + 1) = D
      simp
    · rw [if_neg h2]
      rcases Nat.lt_or_ge j k with h3 | h3
      · rw [List.getElem?_append_left (by omega), List.getElem?_append_left (by omega), List.getElem?_take, List.getElem?_take, if_pos (by omega), if_pos h3]
      · rw [List.getElem?_append_right (by omega), List.getElem?_append_right (by omega), hl, hl2, hd]
        obtain ⟨d, rfl⟩ : ∃ d, j = k + 2 + d := ⟨j - k - 2, by omega⟩
        rw [show k + 2 + d - (k + 1) = d + 1 by omega, show k + 2 + d - k = d + 1 + 1 by omega]
        generalize A[k] = a
        generalize A.drop (k + 1) = D
        simp
theorem insL_perm {A R : List ByteArray} {x : ByteArray} {k : Nat} : (insL A x R k).Perm (A ++ x :: R) := by
  unfold insL
  have h1 : (A.take k ++ x :: (A.drop k ++ R)).Perm (x :: (A.take k ++ (A.drop k ++ R))) := List.perm_middle
  have h2 : (A ++ x :: R).Perm (x :: (A ++ R)) := List.perm_middle
  rw [← List.append_assoc, List.take_append_drop] at h1
  exact h1.trans h2.symm
theorem insL_app {A R : List ByteArray} {x : ByteArray} {k : Nat} : insL A x [] k ++ R = insL A x R k := by unfold insL; simp
theorem insL_full {A R : List ByteArray} {x : ByteArray} : insL A x R A.length = A ++ x :: R := by unfold insL; simp

/-! ### a place of a row of the call's own -/
theorem flat1_set {α : Type} {E : Flat α} (h1 : E.n = 1) : ∀ (L : List α) (k : Nat) (y : α) (u : Value), E.enc y = [u] → (L.flatMap E.enc).set k u = (L.set k y).flatMap E.enc
  | [], k, y, u, hu => by simp
  | x :: L, 0, y, u, hu => by
    have hl := E.len x
    rw [h1] at hl
    obtain ⟨a, ha⟩ := List.length_eq_one_iff.1 hl
    simp [ha, hu]
  | x :: L, k + 1, y, u, hu => by
    have hl := E.len x
    rw [h1] at hl
    obtain ⟨a, ha⟩ := List.length_eq_one_iff.1 hl
    have ih := flat1_set h1 L k y u hu
    simp [ha, ih]
theorem Own.set1 {α : Type} {E : Flat α} (h1 : E.n = 1) {w : World} {base : Nat} {e : TypeId} {g n cap : Nat} {L : List α} (h : Own E w base e (.slice (some ⟨g, 0, none⟩) n cap) L) (k : Nat) (y : α) (u : Value) (hu : E.enc y = [u]) :
    Own E (w.setCell ⟨g, k, none⟩ u) base e (.slice (some ⟨g, 0, none⟩) n cap) (L.set k y) := by
  have hn : n = L.length := by
    rcases h.2 with ⟨hv, _⟩ | ⟨g', cap', cur, hv, _⟩
    · cases hv
    · injection hv
  have h' : w.ownsRow base e E.n (.slice (some ⟨g, 0, none⟩) L.length cap) L.length (L.flatMap E.enc) := by rw [hn] at h; exact h
  have h2 := (h'.stored k u).1
  rw [flat1_set h1 L k y u hu] at h2
  show World.ownsRow _ base e E.n _ (L.set k y).length _
  rw [List.length_set, hn]
  exact h2
theorem Own.cellS {w : World} {base : Nat} {e : TypeId} {g n cap : Nat} {L : List ByteArray} (h : Own fStr w base e (.slice (some ⟨g, 0, none⟩) n cap) L) {k : Nat} {x : ByteArray} (hx : L[k]? = some x) : w.cell? ⟨g, k, none⟩ = some (.string x) := by
  have hn : n = L.length := by
    rcases h.2 with ⟨hv, _⟩ | ⟨g', cap', cur, hv, _⟩
    · cases hv
    · injection hv
  have h' : w.ownsRow base e 1 (.slice (some ⟨g, 0, none⟩) L.length cap) L.length (L.flatMap fStr.enc) := by rw [hn] at h; exact h
  have hk : k < L.length := by
    rcases Nat.lt_or_ge k L.length with h | h
    · exact h
    · rw [List.getElem?_eq_none h] at hx; cases hx
  rw [h'.cellAt k (by omega)]
  have := flat_get fStr.enc 1 L (fun x _ => fStr.len x) k hk 0 (by omega)
  simp only [Nat.mul_one, Nat.add_zero] at this
  rw [this]
  have e1 : L[k] = x := by rw [List.getElem?_eq_getElem hk] at hx; exact Option.some.inj hx
  rw [e1]; rfl
theorem Own.frozenS {α : Type} {E : Flat α} {w : World} {base : Nat} {e : TypeId} {g n cap : Nat} {L : List α} (h : Own E w base e (.slice (some ⟨g, 0, none⟩) n cap) L) (k : Nat) : w.frozen? ⟨g, k, none⟩ = false := by
  have hn : n = L.length := by
    rcases h.2 with ⟨hv, _⟩ | ⟨g', cap', cur, hv, _⟩
    · cases hv
    · injection hv
  have h' : w.ownsRow base e E.n (.slice (some ⟨g, 0, none⟩) L.length cap) L.length (L.flatMap E.enc) := by rw [hn] at h; exact h
  exact h'.frozenAt k
/-- The end of a call that hands back a row of its own. -/
def OwnRS {α : Type} (E : Flat α) (T : TypeId) (w : World) (xs : List α) (e : Ending) (w' : World) : Prop := ∃ v, e = .returned v ∧ Own E w' w.heap.size T v xs ∧ Below w.heap.size w w'
theorem infoStr3 : (Tryz.prog.info? 9).map (fun i => (i.zero, i.size, i.bytes)) = some (some (.string ⟨#[]⟩), 1, 16) := by kernel_rfl

end Go.Proofs.YtphljobklilbdaaGreatDoor

namespace Go.Proofs.YtphljobklilbdaaGreatDoor
open Go.RowKit
set_option linter.unusedVariables false

/-- The digits, none for 0. -/
def dig (u : Nat) : List UInt8 := if h : u = 0 then [] else dig (u / 10) ++ [UInt8.ofNat (48 + u % 10)]
termination_by u
decreasing_by omega
theorem dig_zero : dig 0 = [] := by rw [dig, dif_pos rfl]
theorem dig_step {u : Nat} (h : u ≠ 0) : dig u = dig (u / 10) ++ [UInt8.ofNat (48 + u % 10)] := by rw [dig, dif_neg h]
theorem dig_dec : ∀ (u : Nat), u ≠ 0 → Lib.decDigits u = dig u := by
  intro u
  induction u using Nat.strongRecOn with
  | _ u ih =>
    intro h
    rw [dig_step h, Lib.decDigits]
    by_cases h1 : u < 10
    · rw [dif_pos h1, Nat.div_eq_of_lt h1, dig_zero, Nat.mod_eq_of_lt h1]; rfl
    · rw [dif_neg h1, ih (u / 10) (by omega) (by omega)]
theorem dig_len : ∀ (k u : Nat), u < 10 ^ k → (dig u).length ≤ k
  | 0, u, h => by rw [Nat.pow_zero] at h; obtain rfl : u = 0 := (by omega); rw [dig_zero]; exact Nat.le_refl _
  | k + 1, u, h => by
    by_cases h0 : u = 0
    · subst h0; rw [dig_zero]; simp
    · rw [dig_step h0, List.length_append]
      have := dig_len k (u / 10) (by rw [Nat.pow_succ] at h; omega)
      simp; omega
def decS (n : Int) : ByteArray := ⟨(Lib.itoa n).toArray⟩
theorem decS_zero : decS 0 = ⟨#[48]⟩ := by unfold decS Lib.itoa; rw [if_neg (by decide), show (0 : Int).toNat = 0 from rfl, Lib.decDigits, dif_pos (by decide)]; rfl
theorem itoa_ne {n : Int} (h : n ≠ 0) : Lib.itoa n = (if n < 0 then [45] else []) ++ dig n.natAbs := by
  unfold Lib.itoa
  by_cases h1 : n < 0
  · rw [if_pos h1, if_pos h1, dig_dec _ (by omega)]; rfl
  · rw [if_neg h1, if_neg h1, show n.toNat = n.natAbs by omega, dig_dec _ (by omega)]; rfl
theorem Own.cellB {w : World} {base : Nat} {e : TypeId} {g n cap : Nat} {L : List UInt8} (h : Own fByte w base e (.slice (some ⟨g, 0, none⟩) n cap) L) {k : Nat} {x : UInt8} (hx : L[k]? = some x) : w.cell? ⟨g, k, none⟩ = some (.int .u8 x.toNat) := by
  have hn : n = L.length := by
    rcases h.2 with ⟨hv, _⟩ | ⟨g', cap', cur, hv, _⟩
    · cases hv
    · injection hv
  have h' : w.ownsRow base e 1 (.slice (some ⟨g, 0, none⟩) L.length cap) L.length (L.flatMap fByte.enc) := by rw [hn] at h; exact h
  have hk : k < L.length := by
    rcases Nat.lt_or_ge k L.length with h | h
    · exact h
    · rw [List.getElem?_eq_none h] at hx; cases hx
  rw [h'.cellAt k (by omega)]
  have := flat_get fByte.enc 1 L (fun x _ => fByte.len x) k hk 0 (by omega)
  simp only [Nat.mul_one, Nat.add_zero] at this
  rw [this]
  have e1 : L[k] = x := by rw [List.getElem?_eq_getElem hk] at hx; exact Option.some.inj hx
  rw [e1]; rfl
set_option maxRecDepth 100000 in
theorem infoU8d : (Tryz.prog.info? 5).map (fun i => (i.zero, i.size, i.bytes)) = some (some (.int .u8 0), 1, 1) := by kernel_rfl
set_option maxRecDepth 100000 in
/-- What a row of bytes of the call's own is as a text. -/
theorem Own.text {w : World} {base : Nat} {v : Value} {L : List UInt8} (h : Own fByte w base 5 v L) : (convert 22 9 v).run Tryz.prog w = .ok (.string ⟨L.toArray⟩) w := by
  obtain ⟨A, cap, rfl⟩ := h.form
  cases A with
  | none =>
    rcases h.2 with ⟨hv, hz⟩ | ⟨g', cap', cur, hv, _⟩
    · have : L = [] := List.eq_nil_of_length_eq_zero hz
      subst this
      show _ = Result.ok (Value.string ByteArray.empty) w
      exact run_convert_bytes_nil w _ _ Tryz.underlying22 Tryz.underlying5 _ _ _ Tryz.underlying9
    · cases hv
  | some A =>
    rcases h.2 with ⟨hv, _⟩ | ⟨g', cap', cur, hv, _⟩
    · cases hv
    · injection hv with h1 h2 h3
      injection h1 with h1
      subst h1
      refine run_convert_bytes_back w _ _ _ _ cap L Tryz.underlying22 Tryz.underlying5 Tryz.underlying9 (fun j hj => ?_)
      have h4 := h.cellB (k := j) (x := L[j]) (by simp [hj])
      have e : (⟨g', 0, none⟩ : Addr).add j = ⟨g', j, none⟩ := by unfold Addr.add; split <;> simp_all
      rw [e]; exact h4

end Go.Proofs.YtphljobklilbdaaGreatDoor

namespace Go.Proofs.YtphljobklilbdaaGreatDoor
open Go.RowKit
set_option linter.unusedVariables false

theorem decS_size (n : Int) : (decS n).size = (Lib.itoa n).length := by unfold decS; show (Lib.itoa n).toArray.size = _; simp
theorem itoa_len20 {n : Int} (h0 : -9223372036854775808 ≤ n) (h1 : n ≤ 9223372036854775807) : (Lib.itoa n).length ≤ 21 := by
  by_cases h : n = 0
  · subst h; rw [← decS_size, decS_zero]; decide
  · rw [itoa_ne h, List.length_append]
    have := dig_len 20 n.natAbs (by omega)
    split <;> simp <;> omega
end Go.Proofs.YtphljobklilbdaaGreatDoor
