
/- Pages, found lines and bars: the plain laws of FnPages. By hand. -/
import Derived.Test.YtibihiejpieadaaPs
import Derived.Test.YtibihiejpieadaaFl
import Derived.Test.YtibihiejpieadaaBl
import Derived.Test.YtibihiejpieadaaB10
namespace Go.Proofs.Ytibihiejpieadaa
open Go.RowKit
set_option linter.unusedVariables false

structure Paged (P : List (List ByteArray)) (h : Int) (hd : ByteArray) (xs : List ByteArray) (a : Nat → Nat) : Prop where
  a0 : a 0 = 0
  aN : a P.length = xs.length
  step : ∀ i (hi : i < P.length), a (i + 1) + 1 = a i + P[i].length
  two : ∀ i (hi : i < P.length), 2 ≤ P[i].length ∧ (P[i].length : Int) ≤ h
  full : ∀ i (hi : i + 1 < P.length), ((P[i]'(by omega)).length : Int) = h
  hd0 : ∀ i (hi : i < P.length) (h0 : 0 < P[i].length), P[i][0] = hd
  el : ∀ i (hi : i < P.length) k (hk : k + 1 < P[i].length), ∃ hl : a i + k < xs.length, P[i][k + 1] = xs[a i + k]
theorem pgAll_len {m : Nat} {hd : ByteArray} {xs : List ByteArray} : (pgAll m hd xs).length = pgN m xs.length := by
  unfold pgAll; rw [List.length_map, List.length_range]
theorem pgAll_at {m : Nat} {hd : ByteArray} {xs : List ByteArray} {i : Nat} (hi : i < (pgAll m hd xs).length) : (pgAll m hd xs)[i] = hd :: pgAt m xs i := by
  simp only [pgAll, List.getElem_map, List.getElem_range]
theorem pgAt_length {m : Nat} {xs : List ByteArray} {i : Nat} : (pgAt m xs i).length = min m (xs.length - i * m) := by
  unfold pgAt; rw [List.length_take, List.length_drop]
theorem paged_all {m : Nat} {hd : ByteArray} {xs : List ByteArray} (hm : 0 < m) : Paged (pgAll m hd xs) ((m : Int) + 1) hd xs (fun i => min (i * m) xs.length) := by
  have hl : ∀ i (hi : i < (pgAll m hd xs).length), (pgAll m hd xs)[i].length = min m (xs.length - i * m) + 1 := fun i hi => by
    rw [pgAll_at, List.length_cons, pgAt_length]
  have hlt : ∀ i (hi : i < (pgAll m hd xs).length), i * m < xs.length := fun i hi => (pgN_lt hm).1 (by rw [pgAll_len] at hi; exact hi)
  refine ⟨?_, ?_, ?_, ?_, ?_, ?_, ?_⟩
  · show min (0 * m) _ = 0; omega
  · show min ((pgAll m hd xs).length * m) _ = _
    rw [pgAll_len]
    have h1 : ¬ pgN m xs.length < pgN m xs.length := Nat.lt_irrefl _
    rw [pgN_lt hm] at h1
    omega
  · intro i hi
    rw [hl i hi]
    have := hlt i hi
    show min ((i + 1) * m) _ + 1 = min (i * m) _ + _
    rw [Nat.add_mul]
    omega
  · intro i hi
    rw [hl i hi]
    have := hlt i hi
    omega
  · intro i hi
    rw [hl i (by omega)]
    have := hlt (i + 1) hi
    rw [Nat.add_mul] at this
    omega
  · intro i hi h0
    simp only [pgAll_at, List.getElem_cons_zero]
  · intro i hi k hk
    have h1 := hlt i hi
    have h2 := hl i hi
    refine ⟨by show min (i * m) _ + k < _; omega, ?_⟩
    simp only [pgAll_at, List.getElem_cons_succ]
    unfold pgAt
    rw [List.getElem_take, List.getElem_drop]
    congr 1
    omega
theorem paged_of {xs : List ByteArray} {h : Int} {hd : ByteArray} (hc : pgC xs h hd = 0) : ∃ a, Paged (pgF xs h hd) h hd xs a := by
  cases h0 : linesB xs
  · have := (pg_bad1 (h := h) (hd := hd) h0).1; omega
  · cases h1 : pgOk h hd
    · have := (pg_bad2 h0 h1).1; omega
    · rw [(pg_good h0 h1).2]
      unfold pgOk at h1
      rw [Bool.and_eq_true] at h1
      have h2 := inB_true.1 h1.1
      have h3 := paged_all (hd := hd) (xs := xs) (show 0 < h.toNat - 1 by omega)
      rw [show (((h.toNat - 1 : Nat) : Int) + 1) = h by omega] at h3
      exact ⟨_, h3⟩

theorem hasB_self {s : ByteArray} (h : 0 < s.size) : hasB s s = true := by
  refine hasB_hit (k := 0) (Lib.NoOcc.zero _ _) (Nat.zero_le _) ?_
  rw [occ_extract (by omega), beq_iff_eq]
  simp [List.take_of_length_le, ← ByteArray.size_data]
theorem hitL_eq {xs : List ByteArray} {word : ByteArray} : hitL xs word xs.length = ((List.range xs.length).filter (fun i => hasB (xs.getD i ⟨#[]⟩) word)).map (fun i : Nat => (i : Int)) := by
  unfold hitL
  exact keptL_full (by rw [List.length_range]; exact Nat.le_refl _)
theorem rises_filter {n : Nat} (p : Nat → Bool) : risesB (((List.range n).filter p).map (fun i : Nat => (i : Int))) n = true := by
  have hs : ((List.range n).filter p).Pairwise (· < ·) := (List.pairwise_lt_range).filter _
  have hr : ∀ x ∈ (List.range n).filter p, x < n := fun x hx => by simpa using (List.mem_filter.1 hx).1
  generalize (List.range n).filter p = L at *
  unfold risesB
  rw [allIdx_true]
  intro i hi
  rw [List.length_map] at hi
  have h1 : (L.map (fun i : Nat => (i : Int)))[i]'(by rw [List.length_map]; exact hi) = (L[i] : Int) := by rw [List.getElem_map]
  have h2 := hr _ (List.getElem_mem hi)
  rcases Nat.eq_zero_or_pos i with rfl | hp
  · exact riseAt_zero (by rw [List.length_map]; exact hi) (by rw [h1]; omega) (by rw [h1]; omega)
  · obtain ⟨m, rfl⟩ : ∃ m, i = m + 1 := ⟨i - 1, by omega⟩
    have h3 : L[m] < L[m + 1] := List.pairwise_iff_getElem.1 hs m (m + 1) (by omega) hi (by omega)
    refine riseAt_ok (by rw [List.length_map]; exact hi) (by rw [h1]; omega) (by rw [h1]; omega) ?_
    rw [h1, List.getElem_map]
    omega
theorem flF_rises {xs : List ByteArray} {word : ByteArray} : risesB (flF xs word) xs.length = true := by
  unfold flF
  split
  · rw [hitL_eq]; exact rises_filter _
  · rfl
theorem flF_has {xs : List ByteArray} {word : ByteArray} (hc : flC xs word = 0) {i : Nat} (hi : i < xs.length) (he : xs[i] = word) : memI i (flF xs word) = true := by
  unfold flC at hc
  split at hc
  · rename_i h0
    split at hc
    · rename_i h1
      unfold flF
      rw [h0, decide_eq_true h1, hitL_eq, memI_true]
      show _ ∈ List.map _ _
      rw [List.mem_map]
      refine ⟨i, ?_, rfl⟩
      rw [List.mem_filter, getD_of_lt hi, he]
      exact ⟨List.mem_range.2 hi, hasB_self h1⟩
    · omega
  · omega

theorem barF_bad {xs : List Int} {width : Int} (h : barC xs width ≠ 0) : barF xs width = [] := by
  unfold barC at h
  unfold barF
  split
  · rename_i h0
    rw [if_pos h0] at h
    unfold doneC at h
    unfold doneF
    split at h
    · exact absurd rfl h
    · rename_i h1; rw [if_neg h1]
  · rfl
structure BarsOk (B : List ByteArray) (xs : List Int) (width : Int) : Prop where
  len : B.length = xs.length
  le : ∀ i (hi : i < B.length), (B[i].size : Int) ≤ width
  mono : ∀ i k (hi : i < B.length) (hk : k < B.length), xs[i]'(by omega) ≤ xs[k]'(by omega) → B[i].size ≤ B[k].size
theorem barF_ok {xs : List Int} {width : Int} (h : barC xs width = 0) : BarsOk (barF xs width) xs width := by
  unfold barC at h
  split at h
  · rename_i h0
    have h0' := h0
    rw [Bool.and_eq_true] at h0'
    have hw := inB_true.1 h0'.2
    have hin := h0'.1
    have hF : barF xs width = barsF xs width := by
      unfold barF; rw [if_pos h0]
      unfold doneC at h
      unfold doneF
      split at h
      · rename_i h1; rw [if_pos h1]
      · omega
    rw [hF]
    have hsz : ∀ i (hi : i < (barsF xs width).length), ((barsF xs width)[i].size) = barN (mostF xs) width (xs[i]'(by unfold barsF at hi; simpa using hi)) := fun i hi => by
      simp only [barsF, List.getElem_map, barS_size]
    have hl : (barsF xs width).length = xs.length := by unfold barsF; rw [List.length_map]
    have hm0 : 0 ≤ mostF xs := mostF_ge _ _
    refine ⟨hl, fun i hi => ?_, fun i k hi hk hle => ?_⟩
    · rw [hsz]
      have hx := allIn_one hin (List.getElem_mem (show i < xs.length by omega))
      have hmx : xs[i]'(by omega) ≤ mostF xs := mostF_mem _ _ _ (List.getElem_mem _)
      clear hsz hF
      generalize xs[i]'(by omega) = x at *
      generalize mostF xs = m at *
      unfold barN
      have h1 : x * width / max m 1 ≤ width := by
        rw [show x * width = width * x from Int.mul_comm _ _]
        have h2 : width * x ≤ width * max m 1 := Int.mul_le_mul_of_nonneg_left (by omega) (by omega)
        calc width * x / max m 1 ≤ width * max m 1 / max m 1 := Int.ediv_le_ediv (by omega) h2
          _ = width := Int.mul_ediv_cancel _ (by omega)
      omega
    · rw [hsz, hsz]
      unfold barN
      have h2 := Int.mul_le_mul_of_nonneg_right hle (show 0 ≤ width by omega)
      have h3 := Int.ediv_le_ediv (show 0 < max (mostF xs) 1 by omega) h2
      omega
  · omega
end Go.Proofs.Ytibihiejpieadaa
