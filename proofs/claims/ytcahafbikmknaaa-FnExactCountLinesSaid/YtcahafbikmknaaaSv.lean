/- Contracts: slices.Values, AppendSeq, Collect, Sort, Sorted at strings; SortLines. Written by wip/gen/sv.py. -/
import Derived.Test.YtcahafbikmknaaaSo
import Derived.Test.YtcahafbikmknaaaLn
import Derived.Test.YtcahafbikmknaaaShelf
import Derived.RangeFuncBox
import Derived.RangeFuncLeaves
import Derived.Shelf.Abstract
import Derived.OwnWalkIn
import Derived.TacticsInMore
import Derived.LoopNIn
import Derived.LoopIn
import Derived.Maps.AppendAt
import Derived.Sort.OwnSorted
namespace Go.Proofs.Ytcahafbikmknaaa
open Go.RowKit Go.Shelf Go.Sort
set_option linter.unusedVariables false
attribute [local go_sem] Oper.semAt_some

/-! ### slices.Sort -/
theorem encStr_map (L : List ByteArray) : L.flatMap fStr.enc = (L.map (fun x : ByteArray => x.data.toList)).map encStr := by
  induction L with
  | nil => rfl
  | cons x L ih => rw [List.flatMap_cons, ih]; rfl
theorem srtF_map (L : List ByteArray) : (srtF L).map (fun x : ByteArray => x.data.toList) = (L.map (fun x : ByteArray => x.data.toList)).mergeSort (fun x y => decide (x ≤ y)) := by
  unfold srtF
  refine List.map_mergeSort (fun a _ b _ => ?_)
  rw [ltS_eq, Bool.eq_iff_iff]
  simp only [Bool.not_eq_true', decide_eq_false_iff_not, decide_eq_true_eq]
  exact Iff.rfl
theorem sortS_any (g cap base : Nat) (L : List ByteArray) (w : World) (h : Own fStr w base 9 (.slice (some ⟨g, 0, none⟩) L.length cap) L) (hl : L.length ≤ 1000000) :
    Calls Try.prog 67 #[.slice (some ⟨g, 0, none⟩) L.length cap] w fun e w' => e = .returned (.tuple #[]) ∧ Own fStr w' base 9 (.slice (some ⟨g, 0, none⟩) L.length cap) (srtF L) ∧ Below base w w' := by
  rcases h.2 with ⟨hv, _⟩ | ⟨g', cap', cur, hv, hg, hh, hnc, hcm, hsz, hxs⟩
  · cases hv
  · injection hv with hv1 _ hv2
    injection hv1 with hv1
    injection hv1 with hv1 _ _
    subst hv1 hv2
    have hgl : g < w.heap.size := (Array.getElem?_eq_some_iff.1 hh).1
    have hll : (L.map (fun x : ByteArray => x.data.toList)).length = L.length := List.length_map _
    have hH : Holds encStr w g 0 (L.map (fun x : ByteArray => x.data.toList)).toArray := holds_of_block hh (by rw [hll, ← encStr_map]; have e1 : fStr.n = 1 := rfl; rw [e1, Nat.mul_one] at hxs; exact hxs)
    have c := Try.slices_Sort_string g 0 cap (L.map (fun x : ByteArray => x.data.toList)) w hH hgl (by rw [hll]; omega)
    rw [hll, ← srtF_map] at c
    refine c.mono ?_
    rintro e w' ⟨rfl, n, os, rfl⟩
    refine ⟨rfl, ?_, (Below.refl base w).grown (grownBy_sorted _) (by omega) (fun j hj => by cases hj; exact hg)⟩
    have h2 := ownsRow_sorted (n := n) (os := os) (w := w) (base := base) (ss := L.map (fun x : ByteArray => x.data.toList)) (ts := (srtF L).map (fun x : ByteArray => x.data.toList)) (by simp [srtF_len]) hg hh (by rw [hll]; exact hnc) hcm hsz
    rw [hll, ← encStr_map] at h2
    show World.ownsRow _ base _ 1 _ (srtF L).length _
    rw [srtF_len]
    exact h2
/-! ### slices.Values, slices.AppendSeq -/
set_option maxRecDepth 100000 in
set_option maxHeartbeats 2000000 in
theorem values1S_in (F : Fence) (n : Nat) (h7 : F.fn 68) (hro : F.round = none) (hn : 1 ≤ n) (l Bs n₀ b off cap : Nat) (zs : List ByteArray) (hreach : zs.length ≤ 1000000) (hb : b < n₀) (J Jx : List ByteArray → World → Prop)
    (hY : ∀ pre x W, J pre W → pre.length < zs.length → YieldAt F (n - 1) Try.prog l #[.string x] W fun e W' =>
      (e = .returned (.bool true) ∧ J (pre ++ [x]) W' ∧ Below n₀ W W') ∨ (e = .returned (.bool false) ∧ Jx (pre ++ [x]) W'))
    (W : World) (hBs : W.cell? ⟨Bs, 0, none⟩ = some (.slice (some ⟨b, off, none⟩) zs.length cap)) (hc : ∀ j (h : j < zs.length), W.cell? ⟨b, off + j, none⟩ = some (.string zs[j])) (h0 : J [] W) :
    CallsIn F n Try.prog 68 #[.func (.yield l) #[] #[], .pointer (some ⟨Bs, 0, none⟩)] W fun e W' => (∃ v, e = .returned v) ∧
      ((∃ ys, ys = zs ∧ J ys W') ∨ (∃ pre, pre <+: zs ∧ Jx pre W')) := by
  refine callsIn_of_wp Try.func68 rfl h7 ?_ hro
  simp only [Try.ntmps68, List.size_toArray, List.length_cons, List.length_nil, Nat.reduceAdd, Nat.reduceSub, Array.replicate_succ, Array.replicate_zero, List.push_toArray, List.append_toArray, List.nil_append, List.cons_append]
  gi_wp2
  gi_loopw [7] (fun i wr => ∃ k : Nat, k ≤ zs.length ∧ i = .int .i64 k ∧ J (zs.take k) wr ∧ Below n₀ W wr)
    (fun i _ => zs.length - (intOf i).toNat)
  case atStart => exact ⟨0, Nat.zero_le _, rfl, h0, Below.refl _ _⟩
  case round =>
    obtain ⟨k, hk, rfl, hJs, hnx⟩ := hrel
    by_cases hlt : k < zs.length
    · obtain ⟨fn, tmps, assign, body, hy, hR⟩ := hY _ zs[k] wr hJs (by rw [List.length_take]; omega)
      have hcx : wr.cell? ⟨b, off + k, none⟩ = some (.string zs[k]) := (hnx.cell (p := ⟨b, off + k, none⟩) hb).trans (hc k hlt)
      have ht : zs.take k ++ [zs[k]] = zs.take (k + 1) := (List.take_succ_eq_append_getElem hlt).symm
      have HT := Lib.hid ht
      clear ht
      gi_wp2
      refine hR.mono ?_
      rintro e W3 (⟨rfl, hJ3, hk3⟩ | ⟨rfl, hJx3⟩)
      · gi_wp2
        go_roundw
        case rel => exact ⟨k + 1, by omega, by go_num, by rw [← HT.out]; exact hJ3, hnx.trans hk3⟩
        case measure => simp [intOf]; omega
      · gi_wp2
        refine bodyPost_ret (results_none rfl _ _ _) rfl ?_
        exact ⟨⟨_, rfl⟩, .inr ⟨_, by rw [HT.out]; exact List.take_prefix _ _, hJx3⟩⟩
    · have e1 : zs.take k = zs := List.take_of_length_le (by omega)
      rw [e1] at hJs
      gi_wp2
      go_end0
      exact ⟨⟨_, rfl⟩, .inl ⟨_, rfl, hJs⟩⟩
set_option maxRecDepth 100000 in
set_option maxHeartbeats 1000000 in
theorem values1S_nil_in (F : Fence) (n : Nat) (h7 : F.fn 68) (hro : F.round = none) (l Bs cap : Nat) (A : Option Addr) (J : List ByteArray → World → Prop) (W : World) (hBs : W.cell? ⟨Bs, 0, none⟩ = some (.slice A 0 cap)) (h0 : J [] W) :
    CallsIn F n Try.prog 68 #[.func (.yield l) #[] #[], .pointer (some ⟨Bs, 0, none⟩)] W fun e W' => (∃ v, e = .returned v) ∧ J [] W' := by
  refine callsIn_of_wp Try.func68 rfl h7 ?_ hro
  simp only [Try.ntmps68, List.size_toArray, List.length_cons, List.length_nil, Nat.reduceAdd, Nat.reduceSub, Array.replicate_succ, Array.replicate_zero, List.push_toArray, List.append_toArray, List.nil_append, List.cons_append]
  gi_wp2
  gi_loopw [7] (fun i wr => i = .int .i64 0 ∧ J [] wr) (fun _ _ => 0)
  case atStart => exact ⟨rfl, h0⟩
  case round =>
    obtain ⟨rfl, hJs⟩ := hrel
    gi_wp2
    go_end0
    exact ⟨⟨_, rfl⟩, hJs⟩
/-- What a slice value of strings holds, in a block below n₀. -/
def StrsAt (n₀ : Nat) (W : World) (sv : Value) (zs : List ByteArray) : Prop :=
  ∃ A cap, sv = .slice A zs.length cap ∧ (zs = [] ∨ ∃ b off, A = some ⟨b, off, none⟩ ∧ b < n₀ ∧ ∀ j (h : j < zs.length), W.cell? ⟨b, off + j, none⟩ = some (.string zs[j]))
theorem StrsAt.below {n₀ : Nat} {A B : World} (h : Below n₀ A B) {sv : Value} {zs : List ByteArray} : StrsAt n₀ A sv zs → StrsAt n₀ B sv zs := by
  rintro ⟨A1, cap, e, h1⟩
  refine ⟨A1, cap, e, ?_⟩
  rcases h1 with h1 | ⟨b, off, e1, hb, hc⟩
  · exact .inl h1
  · exact .inr ⟨b, off, e1, hb, fun j hj => (h.cell (p := ⟨b, off + j, none⟩) hb).trans (hc j hj)⟩
theorem Sl.strsAt {w : World} {v : Value} {xs : List ByteArray} {fp : List Nat} (h : Sl fStr.cod w v xs fp) : StrsAt w.heap.size w v xs := by
  obtain ⟨A, cap, rfl, _, _⟩ := h.form
  refine ⟨A, cap, rfl, ?_⟩
  rcases Nat.eq_zero_or_pos xs.length with h0 | h0
  · exact .inl (List.eq_nil_of_length_eq_zero h0)
  · obtain ⟨b, off, hA, hb, _, hc⟩ := h.cells h0
    refine .inr ⟨b, off, hA, h.lt b (by rw [hb]; simp), fun j hj => ?_⟩
    obtain ⟨b', off', hA', _, _, hcell, _⟩ := h.cell1 rfl hj rfl
    rw [hA] at hA'
    injection hA' with e
    injection e with e1 e2 _
    subst e1 e2
    exact hcell
theorem valuesS_stops (F : Fence) (n : Nat) (h7 : F.fn 68) (hro : F.round = none) (hn : 1 ≤ n) (Bs n₀ : Nat) (sv : Value) (zs : List ByteArray) (hreach : zs.length ≤ 1000000) (w : World) (hBs : Bs < w.heap.size) (hn₀ : n₀ ≤ w.heap.size)
    (hc : w.cell? ⟨Bs, 0, none⟩ = some sv) (hI : StrsAt n₀ w sv zs) :
    SeqStopsK F n Try.prog 68 #[.pointer (some ⟨Bs, 0, none⟩)] (fun x : ByteArray => #[Value.string x]) (Below n₀) (fun ys => ys = zs) (fun pre => pre <+: zs) zs.length w := fun l J Jx W hW _ _ hY h0 => by
  have hc' := (hW.cell (p := ⟨Bs, 0, none⟩) hBs).trans hc
  obtain ⟨A, cap, rfl, h1⟩ := hI.below (hW.mono hn₀)
  rcases h1 with rfl | ⟨b, off, rfl, hb, hcs⟩
  · exact (values1S_nil_in F n h7 hro l Bs cap A J W hc' h0).mono fun e W' ⟨he, hj⟩ => ⟨he, .inl ⟨_, rfl, hj⟩⟩
  · exact values1S_in F n h7 hro hn l Bs n₀ b off cap zs hreach hb J Jx hY W hc' hcs h0
set_option maxRecDepth 100000 in
set_option maxHeartbeats 2000000 in
theorem appendSeqS_in (F : Fence) (n : Nat) (h3 : F.fn 77) (h5 : F.fn 68) (hro : F.round = none) (hn : 3 ≤ n) (Bs : Nat) (sv : Value) (zs : List ByteArray) (hreach : zs.length ≤ 1000000) (w : World) (hBs : Bs < w.heap.size) (hc : w.cell? ⟨Bs, 0, none⟩ = some sv) (hI : StrsAt w.heap.size w sv zs) :
    CallsIn F n Try.prog 77 #[.slice none 0 0, .func (.func 68) #[] #[.pointer (some ⟨Bs, 0, none⟩)]] w fun e W' => ∃ v, e = .returned v ∧ W'.ownsRow w.heap.size 9 1 v zs.length (zs.map Value.string) ∧ Below w.heap.size w W' := by
  have h1 : 1 ≤ n := by omega
  obtain ⟨i0, hi, hz0, hz1, hz2⟩ := info_parts infoStr3
  refine callsIn_of_wp_marks Try.func77 rfl h3 ?_ hro
  simp only [Try.ntmps77, List.size_toArray, List.length_cons, List.length_nil, Nat.reduceAdd, Nat.reduceSub, Array.replicate_succ, Array.replicate_zero, List.push_toArray, List.append_toArray, List.nil_append, List.cons_append]
  gi_wp2
  have bO := Boxed.new w 22 (.slice none 0 0)
  have hB0 : Below w.heap.size w (w.alloc (.cells #[.slice none 0 0] 22)) := (Below.refl _ w).alloc (Nat.le_refl _) _
  refine wpIn_rangeFunc_ownG hro h1 (gf := 68) (lb := #[.pointer (some ⟨Bs, 0, none⟩)]) rfl h5 (enters_of Try.func68 (by kernel_rfl) rfl)
    (valuesS_stops F (n - 1) h5 hro (by omega) Bs w.heap.size sv zs hreach _ (by simp; omega) (by simp) ((hB0.cell (p := ⟨Bs, 0, none⟩) hBs).trans hc) (hI.below hB0)) belowK_t (belowK_b (by simp)) (Below.refl _ _) (fun _ => rfl)
    (fun (pre : List ByteArray) W => (∃ v, Boxed W w.heap.size 22 v ∧ W.ownsRow w.heap.size 9 1 v pre.length (pre.map Value.string) ∧ True) ∧ Below w.heap.size w W)
    (fun _ _ _ => False)
    (OwnFrom.and (Own.from (holdsRow_own w.heap.size w.heap.size 22 9 1 (fun pre : List ByteArray => pre.length) (fun pre : List ByteArray => pre.map Value.string) (fun pre v => True)) _) (ownFrom_below (Nat.le_refl _) (by simp)))
    (fun _ _ _ _ _ hs _ _ => hs)
    ⟨⟨_, bO, World.ownsRow_nil _ _ _ _, trivial⟩, hB0⟩
    (fun x => { tmps := #[.slice none 0 0, .func (.func 68) #[] #[.pointer (some ⟨Bs, 0, none⟩)], .pointer (some ⟨w.heap.size, 0, none⟩), undef, .slice none 0 0, .string x, .func (.func 68) #[] #[.pointer (some ⟨Bs, 0, none⟩)], .string x, undef, undef, undef, undef, undef], defers := [] }) ?assign ?body ?done ?stop
  case assign =>
    intro l x W K hK
    gi_wp2
    exact hK
  case body =>
    rintro l pre x W ⟨⟨v, hv, hrow, hnil⟩, hB⟩ hlt
    have hc := hv.cell
    gi_wp2_with (gi_at_builtin; refine wpListIn_append_own _ rfl _ _ 22 rfl w.heap.size 9 i0 (.string ⟨#[]⟩) 1 16 Try.underlying22 hi hz0 hz1 hz2 rfl (by decide) _ _ _ rfl (hrow.alloc _) ⟨W.heap.size, 0, none⟩ 1 1 [.string x] rfl rfl (cell_one_new _ _ _) (by simp [Value.oneCell']) (by unfold maxLen; omega) (by omega) (by have := hB.size; simp; omega) ?_; intro v' w1 hown' hgrow _; obtain ⟨g', cap', rfl⟩ := ownsRow_succ hown'; obtain ⟨hv1, hv2, hr2, hk2, hb2⟩ := hv.appended (by decide) hrow hB.size (Nat.le_refl _) hown' hgrow; have hc1 := hv1.cell; have hf1 := hv1.frozen)
    exact ⟨hk2.from _, hb2, ⟨_, hv2, by simpa using hr2, trivial⟩, hB.trans hb2⟩
  case done =>
    rintro D ys W hD rfl ⟨⟨v, hv, hrow, hnil⟩, hB⟩ hK
    have hc := hv.cell
    gi_wp2
    refine ⟨by simp, .inl ⟨_, _, rfl, run_takeDeferred hK, ?_⟩⟩
    exact ⟨_, results_tmp rfl _ _ _, v, rfl, ownsRow_putObj hrow _ hK rfl, hB.trans (belowK_b (w := w) (Nat.le_refl _) W D _ _ (by simp at hD; omega) hK rfl rfl)⟩
  case stop =>
    rintro D c pre W _ _ h _
    exact h.elim
set_option maxHeartbeats 1000000 in
theorem collectS_in (F : Fence) (n : Nat) (h2 : F.fn 66) (h3 : F.fn 77) (h5 : F.fn 68) (hro : F.round = none) (hn : 4 ≤ n) (Bs : Nat) (sv : Value) (zs : List ByteArray) (hreach : zs.length ≤ 1000000) (w : World) (hBs : Bs < w.heap.size) (hc : w.cell? ⟨Bs, 0, none⟩ = some sv) (hI : StrsAt w.heap.size w sv zs) :
    CallsIn F n Try.prog 66 #[.func (.func 68) #[] #[.pointer (some ⟨Bs, 0, none⟩)]] w fun e W' => ∃ v, e = .returned v ∧ W'.ownsRow w.heap.size 9 1 v zs.length (zs.map Value.string) ∧ Below w.heap.size w W' := by
  have h1 : 1 ≤ n := by omega
  refine callsIn_of_wp Try.func66 rfl h2 ?_ hro
  simp only [Try.ntmps66, List.size_toArray, List.length_cons, List.length_nil, Nat.reduceAdd, Nat.reduceSub, Array.replicate_succ, Array.replicate_zero, List.push_toArray, List.append_toArray, List.nil_append, List.cons_append]
  gi_wp2_with (gi_at_call 77; refine (appendSeqS_in F (n - 1) h3 h5 hro (by omega) Bs sv zs hreach _ hBs hc hI).mono ?_; rintro e w' ⟨v, rfl, hrow, hb⟩)
  go_ret
  exact ⟨v, rfl, hrow, hb⟩
theorem valuesS_in (F : Fence) (n : Nat) (h5 : F.fn 51) (hro : F.round = none) (A : Option Addr) (len cap : Nat) (w : World) :
    CallsIn F n Try.prog 51 #[.slice A len cap] w fun e w' => e = .returned (.func (.func 68) #[] #[.pointer (some ⟨w.heap.size, 0, none⟩)]) ∧ w' = w.alloc (.cells #[.slice A len cap] 22) := by
  refine callsIn_of_wp Try.func51 rfl h5 ?_ hro
  simp only [Try.ntmps51, List.size_toArray, List.length_cons, List.length_nil, Nat.reduceAdd, Nat.reduceSub, Array.replicate_succ, Array.replicate_zero, List.push_toArray, List.append_toArray, List.nil_append, List.cons_append]
  gi_wp2
  go_ret
  exact ⟨rfl, rfl⟩
theorem map_flat (L : List ByteArray) : L.map Value.string = L.flatMap fStr.enc := by
  induction L with
  | nil => rfl
  | cons x L ih => rw [List.map_cons, List.flatMap_cons, ih]; rfl
/-- slices.Sorted(slices.Values(s)). -/
theorem collectS_any (Bs : Nat) (sv : Value) (zs : List ByteArray) (hreach : zs.length ≤ 1000000) (w : World) (hBs : Bs < w.heap.size) (hc : w.cell? ⟨Bs, 0, none⟩ = some sv) (hI : StrsAt w.heap.size w sv zs) :
    Calls Try.prog 66 #[.func (.func 68) #[] #[.pointer (some ⟨Bs, 0, none⟩)]] w fun e w' => OwnRS fStr 9 w zs e w' := by
  refine ((callsIn_wide (n := 6)).1 (collectS_in Fence.wide 6 trivial trivial trivial rfl (by omega) Bs sv zs hreach w hBs hc hI)).mono ?_
  rintro e w' ⟨v, rfl, hrow, hb⟩
  rw [map_flat] at hrow
  exact ⟨v, rfl, hrow, hb⟩
theorem valuesS_any (A : Option Addr) (len cap : Nat) (w : World) :
    Calls Try.prog 51 #[.slice A len cap] w fun e w' => e = .returned (.func (.func 68) #[] #[.pointer (some ⟨w.heap.size, 0, none⟩)]) ∧ w' = w.alloc (.cells #[.slice A len cap] 22) :=
  (callsIn_wide (n := 6)).1 (valuesS_in Fence.wide 6 trivial rfl A len cap w)
set_option maxRecDepth 100000 in
set_option maxHeartbeats 1000000 in
theorem sortedS_any (Bs : Nat) (sv : Value) (zs : List ByteArray) (hreach : zs.length ≤ 1000000) (w : World) (hBs : Bs < w.heap.size) (hc : w.cell? ⟨Bs, 0, none⟩ = some sv) (hI : StrsAt w.heap.size w sv zs) :
    Calls Try.prog 50 #[.func (.func 68) #[] #[.pointer (some ⟨Bs, 0, none⟩)]] w fun e w' => OwnRS fStr 9 w (srtF zs) e w' := by
  go_enter Try.func50, Try.ntmps50
  go_wp2_with fail
  refine (collectS_any Bs sv zs hreach _ hBs hc hI).mono ?_
  rintro e w1 ⟨v, rfl, hown, hb1⟩
  rcases Nat.eq_zero_or_pos zs.length with h0 | h0
  · obtain rfl := List.eq_nil_of_length_eq_zero h0
    obtain ⟨A, cap, rfl⟩ := hown.form
    go_wp2_with fail
    refine (Try.slices_Sort_string_none _ _ _).mono ?_
    rintro e w' ⟨rfl, rfl⟩
    go_wp2
    go_ret
    exact ⟨_, rfl, by simpa [srtF] using hown, hb1⟩
  · obtain ⟨A, cap, rfl⟩ := hown.form
    obtain ⟨g, rfl⟩ : ∃ g, A = some ⟨g, 0, none⟩ := by
      rcases hown.2 with ⟨hv, hz⟩ | ⟨g, cap', cur, hv, _⟩
      · omega
      · injection hv with hv1; exact ⟨g, hv1⟩
    go_wp2_with fail
    refine (sortS_any g cap w.heap.size zs _ hown hreach).mono ?_
    rintro e w2 ⟨rfl, hown2, hb2⟩
    go_wp2
    go_ret
    exact ⟨_, rfl, hown2, hb1.trans hb2⟩
def slC (xs : List ByteArray) : Int := if linesB xs then 0 else 1
def slF (xs : List ByteArray) : List ByteArray := if linesB xs then srtF xs else []
theorem slF_len {xs : List ByteArray} (h : xs.length ≤ 1048576) : (slF xs).length ≤ 100000000000 := by
  unfold slF; split
  · rw [srtF_len]; omega
  · simp
theorem srtF_ok {xs : List ByteArray} (h : ∀ x ∈ xs, fStr.ok x) : ∀ x ∈ srtF xs, fStr.ok x := fun x hx => h x ((srtF_perm xs).mem_iff.1 hx)
theorem linesB_len {xs : List ByteArray} (h : linesB xs = true) : xs.length ≤ 200 := by
  unfold linesB at h
  simp only [Bool.and_eq_true, decide_eq_true_eq] at h
  exact h.2
set_option maxRecDepth 100000 in
set_option maxHeartbeats 1000000 in
theorem specSortLines_any (v : Value) (xs : List ByteArray) (fp : List Nat) (w : World) (hx : Sl fStr.cod w v xs fp) :
    Calls Try.prog 24 #[v] w fun e w' => NewR2 fStr.cod w (slF xs) (slC xs) e w' := by
  go_enter Try.func24, Try.ntmps24
  go_wp2_with fail
  refine (l30Ok_any _ xs fp _ hx).mono ?_
  rintro e w' ⟨rfl, rfl⟩
  cases h0 : linesB xs
  · go_wp2
    go_ret2
    exact ⟨_, by rw [slC, h0]; rfl, by rw [slF, h0]; exact New.nil (Below.refl _ _)⟩
  · have hl := linesB_len h0
    have HOK := srtF_ok hx.oks
    go_wp2_with fail
    refine (l30Sorted_any _ xs fp _ hx (by omega)).mono ?_
    rintro e w1 ⟨v1, rfl, hown, hb1⟩
    have hn := hown.new hb1 HOK
    clear hown
    go_wp2
    go_ret2
    exact ⟨_, by rw [slC, h0]; rfl, by rw [slF, h0]; exact hn⟩
set_option maxRecDepth 100000 in
set_option maxHeartbeats 1000000 in
theorem implSortLines_any (v : Value) (xs : List ByteArray) (fp : List Nat) (w : World) (hx : Sl fStr.cod w v xs fp) :
    Calls Try.prog 25 #[v] w fun e w' => NewR2 fStr.cod w (slF xs) (slC xs) e w' := by
  obtain ⟨A, cap, rfl, hlen, hcap⟩ := hx.form
  go_enter Try.func25, Try.ntmps25
  go_wp2_with fail
  refine (implValidReport_any _ xs fp _ hx).mono ?_
  rintro e w' ⟨rfl, rfl⟩
  cases h0 : linesB xs
  · go_wp2
    go_ret2
    exact ⟨_, by rw [slC, h0]; rfl, by rw [slF, h0]; exact New.nil (Below.refl _ _)⟩
  · have hl := linesB_len h0
    have HOK := srtF_ok hx.oks
    have hB0 : Below w.heap.size w (w.alloc (.cells #[.slice A xs.length cap] 22)) := (Below.refl _ w).alloc (Nat.le_refl _) _
    have hI := ((hx.below' hB0).strsAt)
    have hcell : (w.alloc (.cells #[.slice A xs.length cap] 22)).cell? ⟨w.heap.size, 0, none⟩ = some (.slice A xs.length cap) := by rw [World.cell?_alloc_at _ _ _ _ rfl]; rfl
    go_wp2_with fail
    refine (valuesS_any _ _ _ _).mono ?_
    rintro e w' ⟨rfl, rfl⟩
    go_wp2_with fail
    refine (sortedS_any w.heap.size _ xs (by omega) _ (by simp) hcell hI).mono ?_
    rintro e w1 ⟨v1, rfl, hown, hb1⟩
    have hn := (hown.new hb1 HOK).later hB0
    clear hown
    go_wp2
    go_ret2
    exact ⟨_, by rw [slC, h0]; rfl, by rw [slF, h0]; exact hn⟩

end Go.Proofs.Ytcahafbikmknaaa
