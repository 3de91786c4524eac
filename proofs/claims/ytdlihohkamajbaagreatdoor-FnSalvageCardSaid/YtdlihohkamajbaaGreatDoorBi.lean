/- Contracts: slices.Insert at a list of blocks. Written by wip/gen/bi.py. -/
import Derived.Test.YtdlihohkamajbaaGreatDoorBt
import Derived.Test.YtdlihohkamajbaaGreatDoorCr
import Derived.Lib.AppendZerosOnto
import Derived.Lib.Overlaps
import Derived.Laws.Externs
namespace Go.Proofs.YtdlihohkamajbaaGreatDoor
open Go.RowKit
set_option linter.unusedVariables false
/-- A cell inside a row of the call's own. -/
theorem own_set {w : World} {base : Nat} {e : TypeId} {size g n cap : Nat} {xs : List Value} (h : w.ownsRow base e size (.slice (some ⟨g, 0, none⟩) n cap) n xs) (p : Nat) (u : Value) (hu : u.oneCell' = true) (hp : p < n * size) :
    (w.setCell ⟨g, p, none⟩ u).ownsRow base e size (.slice (some ⟨g, 0, none⟩) n cap) n (xs.set p u) := by
  obtain ⟨h1, h2⟩ := h
  refine ⟨?_, ?_⟩
  · first
      | (rw [List.length_set]; exact h1)
      | (obtain ⟨h1a, h1b⟩ := h1
         refine ⟨by rw [List.length_set]; exact h1a, ?_⟩
         intro y hy
         rcases List.mem_or_eq_of_mem_set hy with hy | rfl
         · exact h1b y hy
         · exact hu)
      | (intro y hy
         rcases List.mem_or_eq_of_mem_set hy with hy | rfl
         · exact h1 y hy
         · exact hu)
  rcases h2 with ⟨hv, _⟩ | ⟨g', cap', cur, hv, hg, hh, hnc, hcm, hsz, hxs⟩
  · cases hv
  · injection hv with hv1 _ hv2
    injection hv1 with hv1
    injection hv1 with hv1 _ _
    subst hv1 hv2
    refine .inr ⟨g, cap, cur.setIfInBounds p u, rfl, hg, ?_, hnc, hcm, by simpa using hsz, ?_⟩
    · have hl : g < w.heap.size := by
        rcases Nat.lt_or_ge g w.heap.size with hlt | hge
        · exact hlt
        · rw [Array.getElem?_eq_none hge] at hh; cases hh
      simp only [World.setCell]
      rw [Array.getElem?_modify, if_pos rfl, hh]
      rfl
    · rw [Array.toList_setIfInBounds, List.take_set, hxs]
theorem flat_set (xs : List DBlock) (k : Nat) (t : DBlock) (hk : k < xs.length) :
    (((xs.flatMap fBlock.enc).set (k * 3) (.string t.kind)).set (k * 3 + 1) (.string t.name)).set (k * 3 + 1 + 1) (.string t.text) = (xs.set k t).flatMap fBlock.enc := by
  induction xs generalizing k with
  | nil => cases hk
  | cons x xs ih =>
    cases k with
    | zero => rfl
    | succ k =>
      have h := ih k (by simpa using hk)
      rw [show (k + 1) * 3 = k * 3 + 1 + 1 + 1 by omega]
      rw [List.set_cons_succ, List.flatMap_cons, List.flatMap_cons, ← h]
      rfl
theorem putF_has {xs : List DBlock} {t : DBlock} (h : hasKey xs t = true) (hk : atB xs t < xs.length) : putF xs t = xs.set (atB xs t) t := by
  unfold putF skB; rw [if_pos h, List.set_eq_take_append_cons_drop, if_pos hk]
theorem putF_no {xs : List DBlock} {t : DBlock} (h : hasKey xs t = false) : putF xs t = xs.take (atB xs t) ++ t :: xs.drop (atB xs t) := by
  unfold putF skB; rw [h]; rfl
theorem row_part {cur A B : List Value} {n p j : Nat} {u : Value} (hct : cur.take n = A ++ B) (hA : A.length = p) (hu : B[j]? = some u) : cur[p + j]? = some u := by
  have hj : p + j < n := by
    have h1 : (A ++ B).length ≤ n := by rw [← hct, List.length_take]; omega
    rw [List.length_append] at h1
    have h2 : j < B.length := by
      rcases Nat.lt_or_ge j B.length with h | h
      · exact h
      · rw [List.getElem?_eq_none h] at hu; cases hu
    omega
  have h := congrArg (fun l : List Value => l[p + j]?) hct
  simp only [List.getElem?_take, if_pos hj] at h
  rw [h, List.getElem?_append_right (by omega), hA, Nat.add_sub_cancel_left]
  exact hu
theorem toArray_three (A : List Value) (X Y : Array Value) : (A ++ (X.toList ++ Y.toList)).toArray = A.toArray ++ X ++ Y := by
  apply Array.ext'; simp
theorem row_head {cur A B : List Value} {n j : Nat} {u : Value} (hct : cur.take n = A ++ B) (hu : A[j]? = some u) : cur[j]? = some u := by
  have h2 : j < A.length := by
    rcases Nat.lt_or_ge j A.length with h | h
    · exact h
    · rw [List.getElem?_eq_none h] at hu; cases hu
  have hj : j < n := by
    have h1 : (A ++ B).length ≤ n := by rw [← hct, List.length_take]; omega
    rw [List.length_append] at h1
    omega
  have h := congrArg (fun l : List Value => l[j]?) hct
  simp only [List.getElem?_take, if_pos hj] at h
  rw [h, List.getElem?_append_left h2]
  exact hu
theorem insert_row {cur A t B : List Value} {at_ n cap : Nat} (hlt : at_ < n) (hroom : n < cap) (hcl : cur.length = cap * 3) (hct : cur.take (n * 3) = A ++ B) (hA : A.length = at_ * 3) (hB : B.length = (n - at_) * 3) (ht : t.length = 3) :
    (splice (splice cur ((at_ + 1) * 3) B) (at_ * 3) t).length = cap * 3 ∧ (splice (splice cur ((at_ + 1) * 3) B) (at_ * 3) t).take ((n + 1) * 3) = A ++ (t ++ B) := by
  have e1 : (at_ + 1) * 3 = at_ * 3 + 3 := by omega
  have e2 : (n + 1) * 3 = at_ * 3 + 3 + (n - at_) * 3 := by omega
  have e3 : n * 3 = at_ * 3 + (n - at_) * 3 := by omega
  rw [e3] at hct
  have h1 : (splice cur (at_ * 3 + 3) B).length = cur.length := length_splice _ _ _ (by omega)
  rw [e1, e2]
  exact ⟨by rw [length_splice _ _ _ (by omega), h1, hcl], splice_shift hct hA hB ht (by omega)⟩
theorem fill_row {cur A t B : List Value} {at_ n cap : Nat} (hlt : at_ < n) (hroom : n < cap) (hcl : cur.length = cap * 3) (hct : cur.take (at_ * 3) = A) (hA : A.length = at_ * 3) (hB : B.length = (n - at_) * 3) (ht : t.length = 3) :
    (splice (splice cur (at_ * 3) t) ((at_ + 1) * 3) B).length = cap * 3 ∧ (splice (splice cur (at_ * 3) t) ((at_ + 1) * 3) B).take ((n + 1) * 3) = A ++ (t ++ B) := by
  have e1 : (at_ + 1) * 3 = at_ * 3 + 3 := by omega
  have e2 : (n + 1) * 3 = at_ * 3 + 3 + (n - at_) * 3 := by omega
  have h1 : (splice cur (at_ * 3) t).length = cur.length := length_splice _ _ _ (by omega)
  rw [e1, e2]
  exact ⟨by rw [length_splice _ _ _ (by omega), h1, hcl], splice_fill hct hA hB ht (by omega)⟩
set_option maxRecDepth 100000 in
set_option maxHeartbeats 2000000 in
/-- Put in at the end: an append. -/
theorem insertB_end (v : Value) (xs : List DBlock) (t : DBlock) (nb base : Nat) (w : World) (hown : Own fBlock w base 52 v xs) (hs : Src fBlock w (.slice (some ⟨nb, 0, none⟩) 1 1) [t]) (hl : xs.length ≤ 1000000) (hbase : base ≤ w.heap.size) :
    Calls Tryz.prog 80 #[v, .int .i64 xs.length, .slice (some ⟨nb, 0, none⟩) 1 1] w fun e w' => ∃ v', e = .returned v' ∧ Own fBlock w' base 52 v' (xs ++ [t]) ∧ Below base w w' := by
  obtain ⟨i0, hi, hz0, hz1, hz2⟩ := info_parts infoBlock2
  rcases Nat.eq_zero_or_pos xs.length with h0 | h0
  · obtain rfl := List.eq_nil_of_length_eq_zero h0
    have hF : ∃ A cap, v = .slice A 0 cap := by
      obtain ⟨h1, h2⟩ := hown
      rcases h2 with ⟨hv, _⟩ | ⟨g, cap, cur, hv, _⟩
      · exact ⟨_, _, hv⟩
      · exact ⟨_, _, hv⟩
    obtain ⟨A, cap, rfl⟩ := hF
    go_enter Tryz.func80, Tryz.ntmps80
    go_wp2_with (at_builtin; refine wpList_append_src (E := fBlock) rfl _ _ 24 rfl base 52 i0 (.agg #[.string ⟨#[]⟩, .string ⟨#[]⟩, .string ⟨#[]⟩]) 48 Tryz.underlying24 hi hz0 hz1 hz2 rfl _ [] rfl hown _ [t] rfl hs (by simp <;> omega) (by decide) hbase ?_)
    all_goals
      intro v' u hown' hbu
      go_wp2
      go_ret
      exact ⟨_, rfl, hown', hbu⟩
  · have hown' : w.ownsRow base 52 3 v xs.length (xs.flatMap fBlock.enc) := hown
    obtain ⟨g, cap, rfl, hg, hgw, hc1, hc2⟩ := own_open hown' h0
    clear hown'
    go_enter Tryz.func80, Tryz.ntmps80
    go_wp2_with (at_builtin; refine wpList_append_src (E := fBlock) rfl _ _ 24 rfl base 52 i0 (.agg #[.string ⟨#[]⟩, .string ⟨#[]⟩, .string ⟨#[]⟩]) 48 Tryz.underlying24 hi hz0 hz1 hz2 rfl _ xs rfl hown _ [t] rfl hs (by simp <;> omega) (by decide) hbase ?_)
    all_goals
      intro v' u hown' hbu
      go_wp2
      go_ret
      exact ⟨_, rfl, hown', hbu⟩
set_option maxRecDepth 100000 in
set_option maxHeartbeats 4000000 in
/-- Put in ahead of others. -/
theorem insertB_mid (xs : List DBlock) (t : DBlock) (g cap at_ nb base : Nat) (w : World) (hown : w.ownsRow base 52 3 (.slice (some ⟨g, 0, none⟩) xs.length cap) xs.length (xs.flatMap fBlock.enc)) (hlt : at_ < xs.length)
    (hnb : w.heap[nb]? = some (.cells #[.string t.kind, .string t.name, .string t.text] 52 (0, 0))) (hne : nb ≠ g) (hl : xs.length ≤ 1000000) (hbase : base ≤ w.heap.size) :
    Calls Tryz.prog 80 #[.slice (some ⟨g, 0, none⟩) xs.length cap, .int .i64 at_, .slice (some ⟨nb, 0, none⟩) 1 1] w fun e w' => ∃ v', e = .returned v' ∧ Own fBlock w' base 52 v' (xs.take at_ ++ t :: xs.drop at_) ∧ Below base w w' := by
  obtain ⟨i0, hi, hz0, hz1, hz2⟩ := info_parts infoBlock2
  have hsz : (Tryz.prog.info? 52).map (·.size) = some 3 := by rw [hi]; simp [hz1]
  have hszf : ∀ w : World, (Go.sizeOf 52).run Tryz.prog w = .ok 3 w := fun w => by simp [sizeOf, typeInfo, hi, hz1]
  obtain ⟨cur, hrow, hcl, hct, hc1, hc2, hg⟩ := own_row hown
  unfold maxLen at hc2
  obtain ⟨A, hA⟩ : ∃ A, A = (xs.take at_).flatMap fBlock.enc := ⟨_, rfl⟩
  obtain ⟨B, hB⟩ : ∃ B, B = (xs.drop at_).flatMap fBlock.enc := ⟨_, rfl⟩
  have hAB : xs.flatMap fBlock.enc = A ++ B := by rw [hA, hB, ← List.flatMap_append, List.take_append_drop]
  have hAl : A.length = at_ * 3 := by rw [hA, flat_len fBlock.enc 3 _ (fun x _ => fBlock.len x)]; simp; omega
  have hBl : B.length = (xs.length - at_) * 3 := by rw [hB, flat_len fBlock.enc 3 _ (fun x _ => fBlock.len x)]; simp
  have hBone : ∀ u ∈ B, u.oneCell' = true := fun u hu => by
    rw [hB] at hu
    obtain ⟨y, _, hy⟩ := List.mem_flatMap.1 hu
    exact fBlock.one y u hy
  have HE := Lib.hid (show (xs.take at_ ++ t :: xs.drop at_).flatMap fBlock.enc = A ++ (fBlock.enc t ++ B) by rw [List.flatMap_append, List.flatMap_cons, hA, hB])
  have HL := Lib.hid (show (xs.take at_ ++ t :: xs.drop at_).length = xs.length + 1 by simp; omega)
  rw [hAB] at hct
  have htl : (fBlock.enc t).length = 3 := fBlock.len t
  have htone : ∀ u ∈ fBlock.enc t, u.oneCell' = true := fBlock.one t
  have hnw : nb < w.heap.size := by
    rcases Nat.lt_or_ge nb w.heap.size with h | h
    · exact h
    · rw [Array.getElem?_eq_none h] at hnb; cases hnb
  have hgw : g < w.heap.size := by
    rcases Nat.lt_or_ge g w.heap.size with h | h
    · exact h
    · rw [Array.getElem?_eq_none h] at hrow; cases hrow
  have hsrcT : ∀ W : World, W.heap[nb]? = w.heap[nb]? → ∀ (j : Nat) u, (fBlock.enc t)[j]? = some u → W.cell? ((⟨nb, 0, none⟩ : Addr).add j) = some u := fun W hW j u hu => by
    rw [addr_add, World.cell?, hW, hnb]
    simpa [fBlock] using hu
  have hov : ∀ off lb cb, (callFunc 105 #[.slice (some ⟨nb, 0, none⟩) 1 1, .slice (some ⟨g, off, none⟩) lb cb]).run Tryz.prog w = .ok (.value (.bool false)) w := fun off lb cb => by
    rw [run_callFunc_extern Tryz.func105 (by kernel_rfl) (by kernel_rfl) (by kernel_rfl) (e := Extern.SlicesOverlaps.overlaps #[24, 24] #[4]) (by kernel_rfl),
      Lib.run_overlaps_apart w 24 4 52 Tryz.underlying24 3 hszf ⟨nb, 0, none⟩ ⟨g, off, none⟩ 1 1 lb cb hne 52 52 3 cur.length (by simp [World.shape?, hnb]) (by simp [World.shape?, hrow]) (by omega) (by simp [World.frozen?, hnb]) (by simp [World.frozen?, hnb])]
    rfl
  generalize xs.length = n at *
  have e1 : ((at_ : Int) == (n : Int)) = false := by rw [beq_eq_false_iff_ne]; omega
  clear hown hA hB hAB hnb
  rcases Nat.lt_or_ge n cap with hroom | hroom
  · have hsrcB : ∀ (j : Nat) u, B[j]? = some u → w.drew.cell? ((⟨g, at_ * 3, none⟩ : Addr).add j) = some u := fun j u hu => by
      rw [addr_add]
      exact (row_cell hrow _).trans (row_part hct hAl hu)
    obtain ⟨hRl, hRt⟩ := insert_row hlt hroom hcl hct hAl hBl htl
    clear hi hz0
    go_enter Tryz.func80, Tryz.ntmps80
    go_wp2_with (simp only [hov])
    refine wp_region_mix (C := fun _ => True) [true, true, true, true, true, true, true, true, false] (by kernel_rfl) (by kernel_rfl) (by kernel_rfl) (fun _ _ d _ _ h => by cases d <;> exact h) trivial ?_
    have hS0 : Below w.heap.size w w.drew := Below.drew (Below.refl _ _)
    refine wpMix_pure (by kernel_rfl) (fun K hK => ?_)
    go_big_quiet_op
    refine hK _ ?_; clear hK K
    refine wpMix_pure (by kernel_rfl) (fun K hK => ?_)
    go_big_quiet_op
    refine hK _ ?_; clear hK K
    refine wpMix_pure (by kernel_rfl) (fun K hK => ?_)
    go_big_quiet_op
    refine hK _ ?_; clear hK K
    refine wpMix_pure (by kernel_rfl) (fun K hK => ?_)
    go_big_quiet_op
    refine hK _ ?_; clear hK K
    refine wpMix_pure (by kernel_rfl) (fun K hK => ?_)
    go_big_quiet_op
    refine hK _ ?_; clear hK K
    refine wpMix_pure (by kernel_rfl) (fun K hK => ?_)
    go_big_quiet_op
    refine hK _ ?_; clear hK K
    refine wpMix_pure (by kernel_rfl) (fun K hK => ?_)
    go_big_quiet_op
    refine hK _ ?_; clear hK K
    refine wpMix_pure (by kernel_rfl) (fun K hK => ?_)
    go_big_quiet_op
    refine hK _ ?_; clear hK K
    refine wpMix_act (by kernel_rfl) (fun K hK => ?_)
    refine wp_copy_at _ _ 24 24 rfl 52 Tryz.underlying24 3 hsz g ((at_ + 1) * 3) _ _ ⟨g, at_ * 3, none⟩ _ _ rfl rfl cur 52 hrow B (n - at_) (by simp only [Nat.min_def]; split <;> omega) hBl hsrcB (by omega) hBone ?_
    intro w5 hrow5 hoth5 hb5
    simp only [Act.put, List.setIfInBounds_toArray, List.set_cons_zero, List.set_cons_succ]
    refine hK _ _ trivial ?_
    clear hK K
    refine wpMix_nil ?_
    have HR5 := Lib.hid hrow5
    clear hrow5
    have hl5 : (splice cur ((at_ + 1) * 3) B).length = cur.length := length_splice _ _ _ (by omega)
    go_wp2_with (refine wpList_copy_at rfl _ _ 24 24 rfl 52 Tryz.underlying24 3 hsz g (at_ * 3) _ _ ⟨nb, 0, none⟩ _ _ rfl rfl (splice cur ((at_ + 1) * 3) B) 52 HR5.out (fBlock.enc t) (1) (by simp only [Nat.min_def]; split <;> omega) (by omega) (hsrcT w5 (hoth5 nb hne)) (by omega) htone ?_)
    intro w6 hrow6 hoth6 hb6
    have HR6 := Lib.hid hrow6
    clear hrow6
    go_wp2
    go_ret
    refine ⟨_, rfl, ?_, (((Below.refl base w).drew).trans (hb5.mono hg)).trans (hb6.mono hg)⟩
    show World.ownsRow _ base _ 3 _ (xs.take at_ ++ t :: xs.drop at_).length ((xs.take at_ ++ t :: xs.drop at_).flatMap fBlock.enc)
    rw [HL.out, HE.out]
    exact own_of_row HR6.out hg hroom (by unfold maxLen; omega) hRl hRt

  · have hbig : (n + 1) * 48 ≤ 140737488355328 := by omega
    have hcapN : ¬ ((cap : Int) = (at_ : Int)) := by omega
    have hold : (Builtin.firstCells i0.size at_ (.slice (some ⟨g, 0, none⟩) at_ cap)).run Tryz.prog w.drew = .ok A.toArray w.drew := by
      rw [hz1]
      exact run_firstCells_some w.drew 3 at_ ⟨g, 0, none⟩ at_ cap A (by rw [hAl]) (fun j v hj => by
        rw [addr_add]
        refine (row_cell (w := w.drew) hrow _).trans ?_
        rw [Nat.zero_add]
        exact row_head hct hj)
    have hrz : ∀ ty, (Builtin.append_ #[24, 3] ty #[.slice (some ⟨g, 0, none⟩) at_ cap, .int .i64 ((n : Int) + 1 - (at_ : Int))]).run Tryz.prog w =
        .ok (.slice (some ⟨w.heap.size, 0, none⟩) (n + 1) (grownCap w (n + 1) cap 52)) (w.drew.alloc (.cells (A.toArray ++ Builtin.zeroCells (Value.agg #[.string ⟨#[]⟩, .string ⟨#[]⟩, .string ⟨#[]⟩]).cells (n + 1 - at_) ++ Builtin.zeroCells (Value.agg #[.string ⟨#[]⟩, .string ⟨#[]⟩, .string ⟨#[]⟩]).cells (grownCap w (n + 1) cap 52 - (n + 1))) 52)) := fun ty => by
      have hik : at_ + (n + 1 - at_) = n + 1 := by omega
      have hkk : (n : Int) + 1 - (at_ : Int) = ((n + 1 - at_ : Nat) : Int) := by omega
      have h := Lib.run_append_grow_zeros w 24 3 ty 52 i0 _ .i64 .i64 Tryz.underlying24 Tryz.underlying3 hi hz0 (some ⟨g, 0, none⟩) at_ cap A hold (n + 1 - at_) (by omega) (by omega) (by omega) (by omega) (by rw [hz2]; omega) (by rw [hz2, hik]; exact growslice_fits (by omega) hbig)
      rw [hik] at h
      rw [hkk]
      exact h
    obtain ⟨G, hG⟩ : ∃ G, G = grownCap w (n + 1) cap 52 := ⟨_, rfl⟩
    have hGn : n + 1 ≤ G := by rw [hG]; exact grownCap_ge w _ _ _
    have hG63 : G ≤ maxLen := by rw [hG]; exact grownCap_le_maxLen w (n + 1) cap 52 (by unfold maxLen; omega)
    rw [← hG] at hrz
    obtain ⟨ROW, hROW⟩ : ∃ ROW : List Value, ROW = A ++ ((Builtin.zeroCells (Value.agg #[.string ⟨#[]⟩, .string ⟨#[]⟩, .string ⟨#[]⟩]).cells (n + 1 - at_)).toList ++ (Builtin.zeroCells (Value.agg #[.string ⟨#[]⟩, .string ⟨#[]⟩, .string ⟨#[]⟩]).cells (G - (n + 1))).toList) := ⟨_, rfl⟩
    have hRl : ROW.length = G * 3 := by
      rw [hROW]
      simp [Builtin.zeroCells, Value.cells, hAl]
      omega
    have hRt : ROW.take (at_ * 3) = A := by rw [hROW, List.take_append_of_le_length (by omega), List.take_of_length_le (by omega)]
    obtain ⟨W1, hW1⟩ : ∃ W1, W1 = w.drew.alloc (.cells ROW.toArray 52) := ⟨_, rfl⟩
    have hrz1 : ∀ ty, (Builtin.append_ #[24, 3] ty #[.slice (some ⟨g, 0, none⟩) at_ cap, .int .i64 ((n : Int) + 1 - (at_ : Int))]).run Tryz.prog w = .ok (.slice (some ⟨w.heap.size, 0, none⟩) (n + 1) G) W1 := fun ty => by
      rw [hrz ty, hW1, hROW, toArray_three]
    have hrow1 : W1.heap[w.heap.size]? = some (.cells ROW.toArray 52 (0, 0)) := by rw [hW1]; exact heap_alloc_new w.drew _
    have hoth1 : ∀ k, k < w.heap.size → W1.heap[k]? = w.heap[k]? := fun k hk => by rw [hW1]; exact heap_alloc_old w.drew _ hk
    have hB1 : Below base w W1 := by rw [hW1]; exact ((Below.refl base w).drew).alloc hbase _
    obtain ⟨hFl, hFt⟩ := fill_row hlt (by omega) hRl hRt hAl hBl htl
    have hRs : (splice ROW (at_ * 3) (fBlock.enc t)).length = ROW.length := length_splice _ _ _ (by omega)
    have hGi : ¬ ((G : Int) = (at_ : Int)) := by omega
    have hHR1 := Lib.hid hrow1
    generalize hN : w.heap.size = N at *
    clear hrz hold hG hROW hW1 hrow1 hi hz0
    unfold maxLen at hG63
    go_enter Tryz.func80, Tryz.ntmps80
    go_wp2_with (first | (at_builtin; refine Lib.wpList_append_run _ rfl _ _ _ _ rfl _ _ rfl rfl _ _ (hrz1 _) ?_) | (refine wpList_copy_at rfl _ _ 24 24 rfl 52 Tryz.underlying24 3 hsz N (at_ * 3) _ _ ⟨nb, 0, none⟩ _ _ rfl rfl ROW 52 hHR1.out (fBlock.enc t) (1) (by simp only [Nat.min_def]; split <;> omega) (by omega) (hsrcT W1 (hoth1 nb hnw)) (by omega) htone ?_))
    intro w5 hrow5 hoth5 hb5
    have HR5 := Lib.hid hrow5
    have hsrcB : ∀ (j : Nat) u, B[j]? = some u → w5.drew.cell? ((⟨g, at_ * 3, none⟩ : Addr).add j) = some u := fun j u hu => by
      rw [addr_add]
      have h1 : w5.heap[g]? = some (.cells cur.toArray 52 (0, 0)) := ((hoth5 g (by omega)).trans (hoth1 g hgw)).trans hrow
      exact (row_cell (w := w5.drew) h1 _).trans (row_part hct hAl hu)
    clear hrow5 hrow
    go_wp2
    refine wp_region_mix (C := fun _ => True) [true, true, true, true, true, true, true, true, false] (by kernel_rfl) (by kernel_rfl) (by kernel_rfl) (fun _ _ d _ _ h => by cases d <;> exact h) trivial ?_
    have hS0 : Below w5.heap.size w5 w5.drew := Below.drew (Below.refl _ _)
    refine wpMix_pure (by kernel_rfl) (fun K hK => ?_)
    go_big_quiet_op
    refine hK _ ?_; clear hK K
    refine wpMix_pure (by kernel_rfl) (fun K hK => ?_)
    go_big_quiet_op
    refine hK _ ?_; clear hK K
    refine wpMix_pure (by kernel_rfl) (fun K hK => ?_)
    go_big_quiet_op
    refine hK _ ?_; clear hK K
    refine wpMix_pure (by kernel_rfl) (fun K hK => ?_)
    go_big_quiet_op
    refine hK _ ?_; clear hK K
    refine wpMix_pure (by kernel_rfl) (fun K hK => ?_)
    go_big_quiet_op
    refine hK _ ?_; clear hK K
    refine wpMix_pure (by kernel_rfl) (fun K hK => ?_)
    go_big_quiet_op
    refine hK _ ?_; clear hK K
    refine wpMix_pure (by kernel_rfl) (fun K hK => ?_)
    go_big_quiet_op
    refine hK _ ?_; clear hK K
    refine wpMix_pure (by kernel_rfl) (fun K hK => ?_)
    go_big_quiet_op
    refine hK _ ?_; clear hK K
    refine wpMix_act (by kernel_rfl) (fun K hK => ?_)
    refine wp_copy_at _ _ 24 24 rfl 52 Tryz.underlying24 3 hsz N ((at_ + 1) * 3) _ _ ⟨g, at_ * 3, none⟩ _ _ rfl rfl (splice ROW (at_ * 3) (fBlock.enc t)) 52 HR5.out B (n - at_) (by simp only [Nat.min_def]; split <;> omega) hBl hsrcB (by omega) hBone ?_
    intro w6 hrow6 hoth6 hb6
    simp only [Act.put, List.setIfInBounds_toArray, List.set_cons_zero, List.set_cons_succ]
    refine hK _ _ trivial ?_
    clear hK K
    refine wpMix_nil ?_
    have HR6 := Lib.hid hrow6
    clear hrow6
    go_wp2
    go_ret
    refine ⟨_, rfl, ?_, (hB1.trans (hb5.mono hbase)).trans (((Below.refl base w5).drew).trans (hb6.mono hbase))⟩
    show World.ownsRow _ base _ 3 _ (xs.take at_ ++ t :: xs.drop at_).length ((xs.take at_ ++ t :: xs.drop at_).flatMap fBlock.enc)
    rw [HL.out, HE.out]
    exact own_of_row HR6.out hbase (by omega) (by unfold maxLen; omega) hFl hFt

set_option maxRecDepth 100000 in
set_option maxHeartbeats 4000000 in
theorem withBlock_any (v : Value) (xs : List DBlock) (fp : List Nat) (t : DBlock) (w : World) (hx : Sl fBlock.cod w v xs fp) (hor : Ordered xs) (hl : xs.length ≤ 1000000) :
    Calls Tryz.prog 50 #[v, .agg #[.string t.kind, .string t.name, .string t.text]] w fun e w' => OwnR fBlock 52 w (putF xs t) e w' := by
  obtain ⟨A, cap, rfl, hlen, hcap⟩ := hx.form
  obtain ⟨i0, hi, hz0, hz1, hz2⟩ := info_parts infoBlock2
  have hW0 : Below w.heap.size w (w.alloc (.cells #[.string t.kind, .string t.name, .string t.text] 52)) := (Below.refl _ _).alloc (Nat.le_refl _) _
  have hp := PBlock.box w t 52
  have hx0 := hx.below' hW0
  have hs0 : (w.alloc (.cells #[.string t.kind, .string t.name, .string t.text] 52)).heap.size = w.heap.size + 1 := World.size_alloc _ _
  go_enter Tryz.func50, Tryz.ntmps50
  go_wp2_with fail
  refine (bsearch_any _ xs fp t _ hx0 hor (by omega)).mono ?_
  rintro e w2 ⟨rfl, hb2⟩
  have hB2 := hW0.trans (hb2.mono hW0.size)
  have hp2 := hp.below' hb2
  have hx2 := hx.below' hB2
  go_wp2_with fail
  refine (cloneB_any _ xs fp _ hx2 (by omega)).mono ?_
  rintro e w3 ⟨v3, rfl, hown, hb3⟩
  have hB3 := hB2.trans (hb3.mono hB2.size)
  obtain ⟨d0, d1, d2⟩ := hp2.below' hb3
  cases h1 : hasKey xs t
  · have HF := Lib.hid (putF_no h1)
    have hat := atB_le xs t
    have hs3 := hb3.size
    have hal : Below w3.heap.size w3 (w3.alloc (.cells #[.string t.kind, .string t.name, .string t.text] 52)) := (Below.refl _ _).alloc (Nat.le_refl _) _
    have hsrc : Src fBlock (w3.alloc (.cells #[.string t.kind, .string t.name, .string t.text] 52)) (.slice (some ⟨w3.heap.size, 0, none⟩) 1 1) [t] := by
      refine ⟨some ⟨w3.heap.size, 0, none⟩, 1, rfl, by simp, ?_⟩
      intro ad had j u hu
      cases had
      obtain ⟨c0, c1, c2⟩ := PBlock.box w3 t 52
      match j, hu with
      | 0, hu => cases hu; exact c0
      | 1, hu => cases hu; exact c1
      | 2, hu => cases hu; exact c2
      | (n + 3), hu => simp [fBlock] at hu
    have hown4 : Own fBlock (w3.alloc (.cells #[.string t.kind, .string t.name, .string t.text] 52)) w2.heap.size 52 v3 xs := hown.below hal
    rcases Nat.lt_or_ge (atB xs t) xs.length with hlt | hge
    · have hown5 : World.ownsRow (w3.alloc (.cells #[.string t.kind, .string t.name, .string t.text] 52)) w2.heap.size 52 3 v3 xs.length (xs.flatMap fBlock.enc) := hown4
      obtain ⟨g, cap3, rfl, hg, hgw, hc1, hc2⟩ := own_open (show w3.ownsRow w2.heap.size 52 3 v3 xs.length (xs.flatMap fBlock.enc) from hown) (by omega)
      have hins := insertB_mid xs t g cap3 (atB xs t) w3.heap.size w2.heap.size _ hown5 hlt (heap_alloc_new w3 _) (by omega) hl (by have := hal.size; omega)
      clear hown4 hown5 hown
      generalize atB xs t = at_ at *
      go_wp2_with fail
      refine hins.mono ?_
      rintro e w4 ⟨v4, rfl, hown6, hb5⟩
      go_wp2
      go_ret
      exact ⟨_, rfl, by rw [HF.out]; exact own_mono hown6 hB2.size, (hB3.trans (hal.mono hB3.size)).trans (hb5.mono hB2.size)⟩
    · have hae : atB xs t = xs.length := by omega
      have HF2 : Hid (putF xs t = xs ++ [t]) := by
        show _ = _
        rw [HF.out, hae, List.take_length, List.drop_length]
      rw [hae]
      go_wp2_with fail
      refine (insertB_end v3 xs t _ w2.heap.size _ hown4 hsrc hl (by have := hal.size; omega)).mono ?_
      rintro e w4 ⟨v4, rfl, hown5, hb5⟩
      go_wp2
      go_ret
      exact ⟨_, rfl, by rw [HF2.out]; exact own_mono hown5 hB2.size, (hB3.trans (hal.mono hB3.size)).trans (hb5.mono hB2.size)⟩
  · obtain ⟨hlt, _⟩ := hasKey_some h1
    have HF := Lib.hid (putF_has h1 hlt)
    have hown' : w3.ownsRow w2.heap.size 52 3 v3 xs.length (xs.flatMap fBlock.enc) := hown
    obtain ⟨g, cap3, rfl, hg, hgw, hc1, hc2⟩ := own_open hown' (by omega)
    have hfl := flat_set xs (atB xs t) t hlt
    generalize atB xs t = at_ at *
    obtain ⟨⟨u0, q0⟩, f0⟩ := own_cell hown' (p := at_ * 3) (by omega)
    obtain ⟨⟨u1, q1⟩, f1⟩ := own_cell hown' (p := at_ * 3 + 1) (by omega)
    obtain ⟨⟨u2, q2⟩, f2⟩ := own_cell hown' (p := at_ * 3 + 1 + 1) (by omega)
    have hset := own_set (own_set (own_set hown' (at_ * 3) (.string t.kind) rfl (by omega)) (at_ * 3 + 1) (.string t.name) rfl (by omega)) (at_ * 3 + 1 + 1) (.string t.text) rfl (by omega)
    rw [hfl] at hset
    have hg' : w.heap.size ≤ g := Nat.le_trans hB2.size hg
    go_wp2
    go_ret
    refine ⟨_, rfl, ?_, ?_⟩
    · rw [HF.out]
      show World.ownsRow _ w.heap.size _ 3 _ (xs.set at_ t).length ((xs.set at_ t).flatMap fBlock.enc)
      rw [List.length_set]
      exact own_mono hset hB2.size
    · exact ((hB3.setCell (p := ⟨g, _, none⟩) hg' _).setCell (p := ⟨g, _, none⟩) hg' _).setCell (p := ⟨g, _, none⟩) hg' _

end Go.Proofs.YtdlihohkamajbaaGreatDoor
