
/- Contracts of FindLines. Written by wip/gen/fl.py. -/
import Derived.Test.YtibihiejpieadaaLn
import Derived.Test.YtibihiejpieadaaColl
import Derived.Test.YtibihiejpieadaaAll
import Derived.Test.YtibihiejpieadaaShelf
import Derived.Test.YtibihiejpieadaaLawS
import Derived.Lib.IndexLaws
import Derived.Lib.IndexMore
namespace Go.Proofs.Ytibihiejpieadaa
open Go.RowKit
set_option linter.unusedVariables false

def hasB (s sub : ByteArray) : Bool := Lib.contains s.data.toList sub.data.toList
theorem hasB_hit {s sub : ByteArray} {k : Nat} (h : Lib.NoOcc s.data.toList sub.data.toList k) (hk : k ≤ s.size) (ho : Lib.occAt s.data.toList sub.data.toList k = true) : hasB s sub = true := by
  unfold hasB Lib.contains
  rw [Lib.index_hit h (by simpa using hk) ho]; simp
theorem hasB_past {s sub : ByteArray} {k : Nat} (hsub : 0 < sub.size) (h : Lib.NoOcc s.data.toList sub.data.toList k) (hk : s.size < k + sub.size) : hasB s sub = false := by
  unfold hasB Lib.contains
  have hne : sub.data.toList ≠ [] := fun e => by
    have : sub.data.toList.length = sub.size := by simp
    rw [e] at this; simp at this; omega
  rw [Lib.index_past hne h (by simpa using hk)]; rfl
theorem occ_extract {s sub : ByteArray} {k : Nat} (hk : k + sub.size ≤ s.size) : Lib.occAt s.data.toList sub.data.toList k = ((s.data.toList.drop k).take sub.size == sub.data.toList) := by
  unfold Lib.occAt
  have hl : sub.data.toList.length = sub.size := by simp
  rw [Bool.eq_iff_iff, List.isPrefixOf_iff_prefix, beq_iff_eq, List.prefix_iff_eq_take, hl]
  exact ⟨fun h => h.symm, fun h => h.symm⟩
theorem occ_toList {s sub : ByteArray} {k : Nat} (hk : k + sub.size ≤ s.size) : Lib.occAt s.data.toList sub.data.toList k = ((s.extract k (k + sub.size)).toList == sub.toList) := by
  rw [occ_extract hk, ByteArray.toList_eq, ByteArray.toList_eq, ByteArray.data_extract, Array.toList_extract, List.extract_eq_take_drop]
  congr 2
  omega

theorem infoInt0 : (Try.prog.info? 2).map (fun i => (i.zero, i.size, i.bytes)) = some (some (.int .i64 0), 1, 8) := by kernel_rfl
def hitL (xs : List ByteArray) (word : ByteArray) (k : Nat) : List Int := keptL (fun i => hasB (xs.getD i ⟨#[]⟩) word) (fun i : Nat => (i : Int)) (List.range xs.length) k
theorem hitL_yes {xs : List ByteArray} {word : ByteArray} {k : Nat} (hk : k < xs.length) (h : hasB xs[k] word = true) : hitL xs word (k + 1) = hitL xs word k ++ [(k : Int)] := by
  have := keptL_yes (p := fun i => hasB (xs.getD i ⟨#[]⟩) word) (f := fun i : Nat => (i : Int)) (xs := List.range xs.length) (k := k) (by simpa using hk) (by simp [hk, h])
  simpa [hitL] using this
theorem hitL_no {xs : List ByteArray} {word : ByteArray} {k : Nat} (hk : k < xs.length) (h : hasB xs[k] word = false) : hitL xs word (k + 1) = hitL xs word k :=
  keptL_no (by simpa using hk) (by simp [hk, h])
theorem hitL_len {xs : List ByteArray} {word : ByteArray} {k : Nat} : (hitL xs word k).length ≤ k := keptL_len
theorem hitL_ok {xs : List ByteArray} {word : ByteArray} {k : Nat} (hk : xs.length ≤ 1000000) : ∀ x ∈ hitL xs word k, fInt.ok x := by
  intro x hx
  unfold hitL keptL at hx
  obtain ⟨i, hi, rfl⟩ := List.mem_map.1 hx
  have := List.mem_range.1 (List.mem_of_mem_take (List.mem_filter.1 hi).1)
  show _ ∧ _
  omega
def flC (xs : List ByteArray) (word : ByteArray) : Int := if linesB xs then (if 0 < word.size then 0 else 2) else 1
def flF (xs : List ByteArray) (word : ByteArray) : List Int := if linesB xs && decide (0 < word.size) then hitL xs word xs.length else []
theorem flF_len {xs : List ByteArray} {word : ByteArray} (h : xs.length ≤ 1048576) : (flF xs word).length ≤ 100000000000 := by
  unfold flF; split
  · have := hitL_len (xs := xs) (word := word) (k := xs.length); omega
  · simp
theorem linesB_len {xs : List ByteArray} (h : linesB xs = true) : xs.length ≤ 200 := by unfold linesB at h; simp at h; exact h.2
theorem linesB_one {xs : List ByteArray} (h : linesB xs = true) {k : Nat} (hk : k < xs.length) : xs[k].size ≤ 100 := by
  unfold linesB at h
  rw [Bool.and_eq_true, List.all_eq_true] at h
  have := h.1 xs[k] (List.getElem_mem hk)
  unfold lineB at this
  simp at this
  exact this.2
theorem size0_eq {s : ByteArray} (h : ¬ 0 < s.size) : s = ⟨#[]⟩ := by
  have h1 : s.data.toList.length = s.size := by simp
  have h2 : s.data.toList = [] := List.eq_nil_of_length_eq_zero (by omega)
  exact data_inj h2
theorem size_ne {s : ByteArray} (h : 0 < s.size) : s.toList ≠ [] := fun e => by
  rw [ByteArray.toList_eq] at e
  have : s.data.toList.length = s.size := by simp
  rw [e] at this; simp at this; omega
set_option maxRecDepth 100000 in
set_option maxHeartbeats 4000000 in
theorem implFindLines_any (v : Value) (xs : List ByteArray) (fp : List Nat) (word : ByteArray) (w : World) (hx : Sl fStr.cod w v xs fp) (hword : word.size ≤ 1048576) (m : Int) (hm : w.cell? ⟨0, 0, none⟩ = some (.int .i64 m)) :
    Calls Try.prog 10 #[v, .string word] w fun e w' => NewR2 fInt.cod w (flF xs word) (flC xs word) e w' := by
  obtain ⟨A, cap, rfl, hlen, hcap⟩ := hx.form
  obtain ⟨i0, hi, hz0, hz1, hz2⟩ := info_parts infoInt0
  cases h0 : linesB xs
  · go_enter Try.func10, Try.ntmps10
    go_wp2_with (go_at_call 37; refine (implValidReport_any _ _ _ _ hx).mono ?_; rintro e w' ⟨rfl, rfl⟩)
    go_ret2
    exact ⟨_, by rw [flC, h0]; rfl, by rw [flF, h0]; exact New.nil (Below.refl _ _)⟩
  · by_cases hw0 : 0 < word.size
    · have HC := Lib.hid (show flC xs word = 0 from by rw [flC, h0, if_pos rfl, if_pos hw0])
      have HF := Lib.hid (show flF xs word = hitL xs word xs.length from by rw [flF, h0]; simp [hw0])
      have hlen2 := linesB_len h0
      have HOK := hitL_ok (word := word) (k := xs.length) (show xs.length ≤ 1000000 by omega)
      have e1 := size_ne hw0
      have e2 : word.toList.isEmpty = false := by simpa using e1
      have e3 : (word.toList == []) = false := by simpa using e1
      go_enter Try.func10, Try.ntmps10
      go_wp2_with (go_at_call 37; refine (implValidReport_any _ _ _ _ hx).mono ?_; rintro e w' ⟨rfl, rfl⟩)
      go_loopw [6, 18] (fun v i wr => ∃ k : Nat, k ≤ xs.length ∧ i = .int .i64 k ∧ Own fInt wr w.heap.size 2 v (hitL xs word k) ∧ Below w.heap.size w wr) (fun _ i _ => xs.length - (intOf i).toNat)
      case atStart => exact ⟨0, Nat.zero_le _, rfl, Own.nil fInt _ _ _, Below.refl _ _⟩
      case round =>
        obtain ⟨k, hk, rfl, ho, hb⟩ := hrel
        by_cases hlt : k < xs.length
        · obtain ⟨b, off, rfl, _, hok, hc, _⟩ := (hx.below' hb).cell1 rfl hlt rfl
          have hkl := hitL_len (xs := xs) (word := word) (k := k)
          have hid : xs[k].size ≤ 9223372036854775807 := hok
          cases hgo : hasB xs[k] word
          · have ho2 : Own fInt wr w.heap.size 2 u6 (hitL xs word (k + 1)) := by rw [hitL_no hlt hgo]; exact ho
            have hgo' : Lib.contains xs[k].data.toList word.data.toList = false := hgo
            clear ho
            go_wp2_with (go_at_call 41; refine (Try.strings_Contains _ _ m _ (by have := linesB_one h0 hlt; omega) (cell_below hb hm)).mono ?_; rintro e w' ⟨rfl, rfl⟩)
            go_roundw
            case rel => exact ⟨k + 1, by omega, by go_num, ho2, hb⟩
            case measure => simp [intOf]; omega
          · have hgo' : Lib.contains xs[k].data.toList word.data.toList = true := hgo
            have hs2 := hb.size
            have ho3 : wr.ownsRow w.heap.size 2 1 u6 (hitL xs word k).length ((hitL xs word k).flatMap fInt.enc) := ho
            clear ho
            go_wp2_with (first | (go_at_call 41; refine (Try.strings_Contains _ _ m _ (by have := linesB_one h0 hlt; omega) (cell_below hb hm)).mono ?_; rintro e w' ⟨rfl, rfl⟩) | (at_builtin; refine wpList_append_one rfl _ _ 32 rfl w.heap.size 2 i0 (.int .i64 0) 1 8 Try.underlying32 hi hz0 hz1 hz2 rfl (by decide) u6 (hitL xs word k).length _ rfl ho3 [.int .i64 k] rfl (by intro u hu; rw [List.mem_singleton] at hu; subst hu; rfl) rfl (by omega) (by decide) hs2 ?_))
            intro v' u hown hbu _ _
            have hbu' := hb.trans hbu
            have ho2 : Own fInt u w.heap.size 2 v' (hitL xs word (k + 1)) := by rw [hitL_yes hlt hgo]; exact Own.push _ rfl hown
            clear hown
            go_wp2
            go_roundw
            case rel => exact ⟨k + 1, by omega, by go_num, ho2, hbu'⟩
            case measure => simp [intOf]; omega
        · have hk2 : k = xs.length := by omega
          subst hk2
          have ho2 : Own fInt wr w.heap.size 2 u6 (flF xs word) := by rw [HF.out]; exact ho
          clear ho
          go_wp2
          go_ret2
          exact ⟨_, by rw [HC.out]; rfl, ho2.new hb (by rw [HF.out]; exact HOK)⟩
    · obtain rfl := size0_eq hw0
      go_enter Try.func10, Try.ntmps10
      go_wp2_with (go_at_call 37; refine (implValidReport_any _ _ _ _ hx).mono ?_; rintro e w' ⟨rfl, rfl⟩)
      go_ret2
      exact ⟨_, by rw [flC, h0]; rfl, by rw [flF, h0]; exact New.nil (Below.refl _ _)⟩

end Go.Proofs.Ytibihiejpieadaa
