/- Parts of the proof: InWatch, Fk, Wb, Ow, Tk, Wc, Wd, Nest, Ra, Pg. -/
import Derived.Test.YtmlconbekkdahaaGreatDoorG02
import Derived.Test.YtmlconbekkdahaaGreatDoorG01
namespace Go.Proofs.YtmlconbekkdahaaGreatDoor
open Go.RowKit
set_option linter.unusedVariables false

theorem infoWatchK : (Tryz.prog.info? 26).map (fun i => (i.zero, i.size, i.bytes)) = some (some (.agg #[.string ⟨#[]⟩, .int .i64 0, .int .i64 0, .bool false]), 4, 40) := by kernel_rfl
set_option maxRecDepth 100000 in
set_option maxHeartbeats 1000000 in
theorem cloneWatch_any (v : Value) (xs : List DWatch) (fp : List Nat) (w : World) (hx : Sl fWatch.cod w v xs fp) (hl : xs.length ≤ 1000000) :
    Calls Tryz.prog 26 #[v] w fun e w' => OwnK fWatch 26 w xs e w' := by
  obtain ⟨A, cap, rfl, hlen, hcap⟩ := hx.form
  obtain ⟨i0, hi, hz0, hz1, hz2⟩ := info_parts infoWatchK
  have hsrc := (hx.below' ((Below.refl _ _).alloc (Nat.le_refl _) (.cells #[] 26))).src
  have ho := Own.lit0 fWatch w 26
  have hb0 : Below w.heap.size w (w.alloc (.cells #[] 26)) := (Below.refl _ _).alloc (Nat.le_refl _) _
  have hs2 := hb0.size
  have q22 : ∀ (w : World) (a : Option Addr) (n c n' c' : Nat), (binOp .eql 24 (.slice a n c) (.slice none n' c')).run Tryz.prog w = .ok (.bool a.isNone) w := fun w a n c n' c' => Lib.run_eql_slice_nil w _ _ a n c n' c' Tryz.underlying24
  cases A with
  | none =>
    have hnil : xs = [] := by
      rcases Nat.eq_zero_or_pos xs.length with h0 | h0
      · exact List.eq_nil_of_length_eq_zero h0
      · obtain ⟨b, off, hA, _⟩ := hx.cells h0
        cases hA
    subst hnil
    go_enter Tryz.func26, Tryz.ntmps26
    go_wp2
    go_ret
    exact ⟨_, rfl, Own.nil _ _ _ _, Below.refl _ _⟩
  | some ad =>
    go_enter Tryz.func26, Tryz.ntmps26
    go_wp2_with (at_builtin; refine wpList_append_src (E := fWatch) rfl _ _ 24 rfl w.heap.size 26 i0 (.agg #[.string ⟨#[]⟩, .int .i64 0, .int .i64 0, .bool false]) 40 Tryz.underlying24 hi hz0 hz1 hz2 rfl (.slice (some ⟨w.heap.size, 0, none⟩) 0 0) [] rfl ho _ xs rfl hsrc (by simp; omega) (by decide) hs2 ?_)
    intro v' u hown hbu
    try rw [List.nil_append] at hown
    go_wp2
    go_ret
    exact ⟨_, rfl, hown, hb0.trans hbu⟩
theorem insert_rowWatch {cur A t B : List Value} {at_ n cap : Nat} (hlt : at_ < n) (hroom : n < cap) (hcl : cur.length = cap * 4) (hct : cur.take (n * 4) = A ++ B) (hA : A.length = at_ * 4) (hB : B.length = (n - at_) * 4) (ht : t.length = 4) :
    (splice (splice cur ((at_ + 1) * 4) B) (at_ * 4) t).length = cap * 4 ∧ (splice (splice cur ((at_ + 1) * 4) B) (at_ * 4) t).take ((n + 1) * 4) = A ++ (t ++ B) := by
  have e1 : (at_ + 1) * 4 = at_ * 4 + 4 := by omega
  have e2 : (n + 1) * 4 = at_ * 4 + 4 + (n - at_) * 4 := by omega
  have e3 : n * 4 = at_ * 4 + (n - at_) * 4 := by omega
  rw [e3] at hct
  have h1 : (splice cur (at_ * 4 + 4) B).length = cur.length := length_splice _ _ _ (by omega)
  rw [e1, e2]
  exact ⟨by rw [length_splice _ _ _ (by omega), h1, hcl], splice_shift hct hA hB ht (by omega)⟩
theorem fill_rowWatch {cur A t B : List Value} {at_ n cap : Nat} (hlt : at_ < n) (hroom : n < cap) (hcl : cur.length = cap * 4) (hct : cur.take (at_ * 4) = A) (hA : A.length = at_ * 4) (hB : B.length = (n - at_) * 4) (ht : t.length = 4) :
    (splice (splice cur (at_ * 4) t) ((at_ + 1) * 4) B).length = cap * 4 ∧ (splice (splice cur (at_ * 4) t) ((at_ + 1) * 4) B).take ((n + 1) * 4) = A ++ (t ++ B) := by
  have e1 : (at_ + 1) * 4 = at_ * 4 + 4 := by omega
  have e2 : (n + 1) * 4 = at_ * 4 + 4 + (n - at_) * 4 := by omega
  have h1 : (splice cur (at_ * 4) t).length = cur.length := length_splice _ _ _ (by omega)
  rw [e1, e2]
  exact ⟨by rw [length_splice _ _ _ (by omega), h1, hcl], splice_fill hct hA hB ht (by omega)⟩
set_option maxRecDepth 100000 in
set_option maxHeartbeats 2000000 in
/-- Put in at the end: an append. -/
theorem insertWatch_end (v : Value) (xs : List DWatch) (t : DWatch) (nb base : Nat) (w : World) (hown : Own fWatch w base 26 v xs) (hs : Src fWatch w (.slice (some ⟨nb, 0, none⟩) 1 1) [t]) (hl : xs.length ≤ 1000000) (hbase : base ≤ w.heap.size) :
    Calls Tryz.prog 25 #[v, .int .i64 xs.length, .slice (some ⟨nb, 0, none⟩) 1 1] w fun e w' => ∃ v', e = .returned v' ∧ Own fWatch w' base 26 v' (xs ++ [t]) ∧ Below base w w' := by
  obtain ⟨i0, hi, hz0, hz1, hz2⟩ := info_parts infoWatchK
  rcases Nat.eq_zero_or_pos xs.length with h0 | h0
  · obtain rfl := List.eq_nil_of_length_eq_zero h0
    have hF : ∃ A cap, v = .slice A 0 cap := by
      obtain ⟨h1, h2⟩ := hown
      rcases h2 with ⟨hv, _⟩ | ⟨g, cap, cur, hv, _⟩
      · exact ⟨_, _, hv⟩
      · exact ⟨_, _, hv⟩
    obtain ⟨A, cap, rfl⟩ := hF
    go_enter Tryz.func25, Tryz.ntmps25
    go_wp2_with (at_builtin; refine wpList_append_src (E := fWatch) rfl _ _ 24 rfl base 26 i0 (.agg #[.string ⟨#[]⟩, .int .i64 0, .int .i64 0, .bool false]) 40 Tryz.underlying24 hi hz0 hz1 hz2 rfl _ [] rfl hown _ [t] rfl hs (by simp <;> omega) (by decide) hbase ?_)
    all_goals
      intro v' u hown' hbu
      go_wp2
      go_ret
      exact ⟨_, rfl, hown', hbu⟩
  · have hown' : w.ownsRow base 26 4 v xs.length (xs.flatMap fWatch.enc) := hown
    obtain ⟨g, cap, rfl, hg, hgw, hc1, hc2⟩ := ownO_ hown' h0
    clear hown'
    go_enter Tryz.func25, Tryz.ntmps25
    go_wp2_with (at_builtin; refine wpList_append_src (E := fWatch) rfl _ _ 24 rfl base 26 i0 (.agg #[.string ⟨#[]⟩, .int .i64 0, .int .i64 0, .bool false]) 40 Tryz.underlying24 hi hz0 hz1 hz2 rfl _ xs rfl hown _ [t] rfl hs (by simp <;> omega) (by decide) hbase ?_)
    all_goals
      intro v' u hown' hbu
      go_wp2
      go_ret
      exact ⟨_, rfl, hown', hbu⟩
set_option maxRecDepth 100000 in
set_option maxHeartbeats 4000000 in
/-- Put in ahead of others. -/
theorem insertWatch_mid (xs : List DWatch) (t : DWatch) (g cap at_ nb base : Nat) (w : World) (hown : w.ownsRow base 26 4 (.slice (some ⟨g, 0, none⟩) xs.length cap) xs.length (xs.flatMap fWatch.enc)) (hlt : at_ < xs.length)
    (hnb : w.heap[nb]? = some (.cells #[.string t.person, .int .i64 t.start, .int .i64 t.hours, .bool t.onCall] 26 (0, 0))) (hne : nb ≠ g) (hl : xs.length ≤ 1000000) (hbase : base ≤ w.heap.size) :
    Calls Tryz.prog 25 #[.slice (some ⟨g, 0, none⟩) xs.length cap, .int .i64 at_, .slice (some ⟨nb, 0, none⟩) 1 1] w fun e w' => ∃ v', e = .returned v' ∧ Own fWatch w' base 26 v' (xs.take at_ ++ t :: xs.drop at_) ∧ Below base w w' := by
  obtain ⟨i0, hi, hz0, hz1, hz2⟩ := info_parts infoWatchK
  have hsz : (Tryz.prog.info? 26).map (·.size) = some 4 := by rw [hi]; simp [hz1]
  have hszf : ∀ w : World, (Go.sizeOf 26).run Tryz.prog w = .ok 4 w := fun w => by simp [sizeOf, typeInfo, hi, hz1]
  obtain ⟨cur, hrow, hcl, hct, hc1, hc2, hg⟩ := own_row hown
  unfold maxLen at hc2
  obtain ⟨A, hA⟩ : ∃ A, A = (xs.take at_).flatMap fWatch.enc := ⟨_, rfl⟩
  obtain ⟨B, hB⟩ : ∃ B, B = (xs.drop at_).flatMap fWatch.enc := ⟨_, rfl⟩
  have hAB : xs.flatMap fWatch.enc = A ++ B := by rw [hA, hB, ← List.flatMap_append, List.take_append_drop]
  have hAl : A.length = at_ * 4 := by rw [hA, flat_len fWatch.enc 4 _ (fun x _ => fWatch.len x)]; simp; omega
  have hBl : B.length = (xs.length - at_) * 4 := by rw [hB, flat_len fWatch.enc 4 _ (fun x _ => fWatch.len x)]; simp
  have hBone : ∀ u ∈ B, u.oneCell' = true := fun u hu => by
    rw [hB] at hu
    obtain ⟨y, _, hy⟩ := List.mem_flatMap.1 hu
    exact fWatch.one y u hy
  have HE := Lib.hid (show (xs.take at_ ++ t :: xs.drop at_).flatMap fWatch.enc = A ++ (fWatch.enc t ++ B) by rw [List.flatMap_append, List.flatMap_cons, hA, hB])
  have HL := Lib.hid (show (xs.take at_ ++ t :: xs.drop at_).length = xs.length + 1 by simp; omega)
  rw [hAB] at hct
  have htl : (fWatch.enc t).length = 4 := fWatch.len t
  have htone : ∀ u ∈ fWatch.enc t, u.oneCell' = true := fWatch.one t
  have hnw : nb < w.heap.size := by
    rcases Nat.lt_or_ge nb w.heap.size with h | h
    · exact h
    · rw [Array.getElem?_eq_none h] at hnb; cases hnb
  have hgw : g < w.heap.size := by
    rcases Nat.lt_or_ge g w.heap.size with h | h
    · exact h
    · rw [Array.getElem?_eq_none h] at hrow; cases hrow
  have hsrcT : ∀ W : World, W.heap[nb]? = w.heap[nb]? → ∀ (j : Nat) u, (fWatch.enc t)[j]? = some u → W.cell? ((⟨nb, 0, none⟩ : Addr).add j) = some u := fun W hW j u hu => by
    rw [addr_add, World.cell?, hW, hnb]
    simpa [fWatch] using hu
  have hov : ∀ off lb cb, (callFunc 46 #[.slice (some ⟨nb, 0, none⟩) 1 1, .slice (some ⟨g, off, none⟩) lb cb]).run Tryz.prog w = .ok (.value (.bool false)) w := fun off lb cb => by
    rw [run_callFunc_extern Tryz.func46 (by kernel_rfl) (by kernel_rfl) (by kernel_rfl) (e := Extern.SlicesOverlaps.overlaps #[24, 24] #[4]) (by kernel_rfl),
      Lib.run_overlaps_apart w 24 4 26 Tryz.underlying24 4 hszf ⟨nb, 0, none⟩ ⟨g, off, none⟩ 1 1 lb cb hne 26 26 4 cur.length (by simp [World.shape?, hnb]) (by simp [World.shape?, hrow]) (by omega) (by simp [World.frozen?, hnb]) (by simp [World.frozen?, hnb])]
    rfl
  generalize xs.length = n at *
  have e1 : ((at_ : Int) == (n : Int)) = false := by rw [beq_eq_false_iff_ne]; omega
  clear hown hA hB hAB hnb
  rcases Nat.lt_or_ge n cap with hroom | hroom
  · have hsrcB : ∀ (j : Nat) u, B[j]? = some u → w.drew.cell? ((⟨g, at_ * 4, none⟩ : Addr).add j) = some u := fun j u hu => by
      rw [addr_add]
      exact (row_cell hrow _).trans (rowp_ hct hAl hu)
    obtain ⟨hRl, hRt⟩ := insert_rowWatch hlt hroom hcl hct hAl hBl htl
    clear hi hz0
    go_enter Tryz.func25, Tryz.ntmps25
    go_wp2_with (simp only [hov])
    refine wp_region_mix (C := fun _ => True) [true, true, true, true, true, true, true, true, false] (by kernel_rfl) (by kernel_rfl) (by kernel_rfl) (fun _ _ d _ _ h => by cases d <;> exact h) trivial ?_
    have hS0 : Below (w.heap.size) w w.drew := Below.drew (Below.refl _ _)
    refine wpMix_pure (by kernel_rfl) (fun K hK => ?_); go_big_quiet_op; refine hK _ ?_; clear hK K
    refine wpMix_pure (by kernel_rfl) (fun K hK => ?_); go_big_quiet_op; refine hK _ ?_; clear hK K
    refine wpMix_pure (by kernel_rfl) (fun K hK => ?_); go_big_quiet_op; refine hK _ ?_; clear hK K
    refine wpMix_pure (by kernel_rfl) (fun K hK => ?_); go_big_quiet_op; refine hK _ ?_; clear hK K
    refine wpMix_pure (by kernel_rfl) (fun K hK => ?_); go_big_quiet_op; refine hK _ ?_; clear hK K
    refine wpMix_pure (by kernel_rfl) (fun K hK => ?_); go_big_quiet_op; refine hK _ ?_; clear hK K
    refine wpMix_pure (by kernel_rfl) (fun K hK => ?_); go_big_quiet_op; refine hK _ ?_; clear hK K
    refine wpMix_pure (by kernel_rfl) (fun K hK => ?_); go_big_quiet_op; refine hK _ ?_; clear hK K
    refine wpMix_act (by kernel_rfl) (fun K hK => ?_)
    refine wp_copy_at _ _ 24 24 rfl 26 Tryz.underlying24 4 hsz g ((at_ + 1) * 4) _ _ ⟨g, at_ * 4, none⟩ _ _ rfl rfl cur 26 hrow B (n - at_) (by simp only [Nat.min_def]; split <;> omega) hBl hsrcB (by omega) hBone ?_
    intro w5 hrow5 hoth5 hb5
    try simp only [Act.put, List.setIfInBounds_toArray, List.set_cons_zero, List.set_cons_succ]
    refine hK _ _ trivial ?_
    clear hK K
    refine wpMix_nil ?_
    have HR5 := Lib.hid hrow5
    clear hrow5
    have hl5 : (splice cur ((at_ + 1) * 4) B).length = cur.length := length_splice _ _ _ (by omega)
    go_wp2_with (refine wpList_copy_at rfl _ _ 24 24 rfl 26 Tryz.underlying24 4 hsz g (at_ * 4) _ _ ⟨nb, 0, none⟩ _ _ rfl rfl (splice cur ((at_ + 1) * 4) B) 26 HR5.out (fWatch.enc t) (1) (by simp only [Nat.min_def]; split <;> omega) (by omega) (hsrcT w5 (hoth5 nb hne)) (by omega) htone ?_)
    intro w6 hrow6 hoth6 hb6
    have HR6 := Lib.hid hrow6
    clear hrow6
    go_wp2
    go_ret
    refine ⟨_, rfl, ?_, (((Below.refl base w).drew).trans (hb5.mono hg)).trans (hb6.mono hg)⟩
    show World.ownsRow _ base _ 4 _ (xs.take at_ ++ t :: xs.drop at_).length ((xs.take at_ ++ t :: xs.drop at_).flatMap fWatch.enc)
    rw [HL.out, HE.out]
    exact own_of_row HR6.out hg hroom (by unfold maxLen; omega) hRl hRt

  · have hbig : (n + 1) * 40 ≤ 140737488355328 := by omega
    have hcapN : ¬ ((cap : Int) = (at_ : Int)) := by omega
    have hold : (Builtin.firstCells i0.size at_ (.slice (some ⟨g, 0, none⟩) at_ cap)).run Tryz.prog w.drew = .ok A.toArray w.drew := by
      rw [hz1]
      exact run_firstCells_some w.drew 4 at_ ⟨g, 0, none⟩ at_ cap A (by rw [hAl]) (fun j v hj => by
        rw [addr_add]
        refine (row_cell (w := w.drew) hrow _).trans ?_
        rw [Nat.zero_add]
        exact rowh_ hct hj)
    have hrz : ∀ ty, (Builtin.append_ #[24, 3] ty #[.slice (some ⟨g, 0, none⟩) at_ cap, .int .i64 ((n : Int) + 1 - (at_ : Int))]).run Tryz.prog w =
        .ok (.slice (some ⟨w.heap.size, 0, none⟩) (n + 1) (grownCap w (n + 1) cap 26)) (w.drew.alloc (.cells (A.toArray ++ Builtin.zeroCells (Value.agg #[.string ⟨#[]⟩, .int .i64 0, .int .i64 0, .bool false]).cells (n + 1 - at_) ++ Builtin.zeroCells (Value.agg #[.string ⟨#[]⟩, .int .i64 0, .int .i64 0, .bool false]).cells (grownCap w (n + 1) cap 26 - (n + 1))) 26)) := fun ty => by
      have hik : at_ + (n + 1 - at_) = n + 1 := by omega
      have hkk : (n : Int) + 1 - (at_ : Int) = ((n + 1 - at_ : Nat) : Int) := by omega
      have h := Lib.run_append_grow_zeros w 24 3 ty 26 i0 _ .i64 .i64 Tryz.underlying24 Tryz.underlying3 hi hz0 (some ⟨g, 0, none⟩) at_ cap A hold (n + 1 - at_) (by omega) (by omega) (by omega) (by omega) (by rw [hz2]; omega) (by rw [hz2, hik]; exact growslice_fits (by omega) hbig)
      rw [hik] at h
      rw [hkk]
      exact h
    obtain ⟨G, hG⟩ : ∃ G, G = grownCap w (n + 1) cap 26 := ⟨_, rfl⟩
    have hGn : n + 1 ≤ G := by rw [hG]; exact grownCap_ge w _ _ _
    have hG63 : G ≤ maxLen := by rw [hG]; exact grownCap_le_maxLen w (n + 1) cap 26 (by unfold maxLen; omega)
    rw [← hG] at hrz
    obtain ⟨ROW, hROW⟩ : ∃ ROW : List Value, ROW = A ++ ((Builtin.zeroCells (Value.agg #[.string ⟨#[]⟩, .int .i64 0, .int .i64 0, .bool false]).cells (n + 1 - at_)).toList ++ (Builtin.zeroCells (Value.agg #[.string ⟨#[]⟩, .int .i64 0, .int .i64 0, .bool false]).cells (G - (n + 1))).toList) := ⟨_, rfl⟩
    have hRl : ROW.length = G * 4 := by
      rw [hROW]
      simp [Builtin.zeroCells, Value.cells, hAl]
      omega
    have hRt : ROW.take (at_ * 4) = A := by rw [hROW, List.take_append_of_le_length (by omega), List.take_of_length_le (by omega)]
    obtain ⟨W1, hW1⟩ : ∃ W1, W1 = w.drew.alloc (.cells ROW.toArray 26) := ⟨_, rfl⟩
    have hrz1 : ∀ ty, (Builtin.append_ #[24, 3] ty #[.slice (some ⟨g, 0, none⟩) at_ cap, .int .i64 ((n : Int) + 1 - (at_ : Int))]).run Tryz.prog w = .ok (.slice (some ⟨w.heap.size, 0, none⟩) (n + 1) G) W1 := fun ty => by
      rw [hrz ty, hW1, hROW, arr3_]
    have hrow1 : W1.heap[w.heap.size]? = some (.cells ROW.toArray 26 (0, 0)) := by rw [hW1]; exact heap_alloc_new w.drew _
    have hoth1 : ∀ k, k < w.heap.size → W1.heap[k]? = w.heap[k]? := fun k hk => by rw [hW1]; exact heap_alloc_old w.drew _ hk
    have hB1 : Below base w W1 := by rw [hW1]; exact ((Below.refl base w).drew).alloc hbase _
    obtain ⟨hFl, hFt⟩ := fill_rowWatch hlt (by omega) hRl hRt hAl hBl htl
    have hRs : (splice ROW (at_ * 4) (fWatch.enc t)).length = ROW.length := length_splice _ _ _ (by omega)
    have hGi : ¬ ((G : Int) = (at_ : Int)) := by omega
    have hHR1 := Lib.hid hrow1
    generalize hN : w.heap.size = N at *
    clear hrz hold hG hROW hW1 hrow1 hi hz0
    unfold maxLen at hG63
    go_enter Tryz.func25, Tryz.ntmps25
    go_wp2_with (first | (at_builtin; refine Lib.wpList_append_run _ rfl _ _ _ _ rfl _ _ rfl rfl _ _ (hrz1 _) ?_) | (refine wpList_copy_at rfl _ _ 24 24 rfl 26 Tryz.underlying24 4 hsz N (at_ * 4) _ _ ⟨nb, 0, none⟩ _ _ rfl rfl ROW 26 hHR1.out (fWatch.enc t) (1) (by simp only [Nat.min_def]; split <;> omega) (by omega) (hsrcT W1 (hoth1 nb hnw)) (by omega) htone ?_))
    intro w5 hrow5 hoth5 hb5
    have HR5 := Lib.hid hrow5
    have hsrcB : ∀ (j : Nat) u, B[j]? = some u → w5.drew.cell? ((⟨g, at_ * 4, none⟩ : Addr).add j) = some u := fun j u hu => by
      rw [addr_add]
      have h1 : w5.heap[g]? = some (.cells cur.toArray 26 (0, 0)) := ((hoth5 g (by omega)).trans (hoth1 g hgw)).trans hrow
      exact (row_cell (w := w5.drew) h1 _).trans (rowp_ hct hAl hu)
    clear hrow5 hrow
    go_wp2
    refine wp_region_mix (C := fun _ => True) [true, true, true, true, true, true, true, true, false] (by kernel_rfl) (by kernel_rfl) (by kernel_rfl) (fun _ _ d _ _ h => by cases d <;> exact h) trivial ?_
    have hS0 : Below (w5.heap.size) w5 w5.drew := Below.drew (Below.refl _ _)
    refine wpMix_pure (by kernel_rfl) (fun K hK => ?_); go_big_quiet_op; refine hK _ ?_; clear hK K
    refine wpMix_pure (by kernel_rfl) (fun K hK => ?_); go_big_quiet_op; refine hK _ ?_; clear hK K
    refine wpMix_pure (by kernel_rfl) (fun K hK => ?_); go_big_quiet_op; refine hK _ ?_; clear hK K
    refine wpMix_pure (by kernel_rfl) (fun K hK => ?_); go_big_quiet_op; refine hK _ ?_; clear hK K
    refine wpMix_pure (by kernel_rfl) (fun K hK => ?_); go_big_quiet_op; refine hK _ ?_; clear hK K
    refine wpMix_pure (by kernel_rfl) (fun K hK => ?_); go_big_quiet_op; refine hK _ ?_; clear hK K
    refine wpMix_pure (by kernel_rfl) (fun K hK => ?_); go_big_quiet_op; refine hK _ ?_; clear hK K
    refine wpMix_pure (by kernel_rfl) (fun K hK => ?_); go_big_quiet_op; refine hK _ ?_; clear hK K
    refine wpMix_act (by kernel_rfl) (fun K hK => ?_)
    refine wp_copy_at _ _ 24 24 rfl 26 Tryz.underlying24 4 hsz N ((at_ + 1) * 4) _ _ ⟨g, at_ * 4, none⟩ _ _ rfl rfl (splice ROW (at_ * 4) (fWatch.enc t)) 26 HR5.out B (n - at_) (by simp only [Nat.min_def]; split <;> omega) hBl hsrcB (by omega) hBone ?_
    intro w6 hrow6 hoth6 hb6
    try simp only [Act.put, List.setIfInBounds_toArray, List.set_cons_zero, List.set_cons_succ]
    refine hK _ _ trivial ?_
    clear hK K
    refine wpMix_nil ?_
    have HR6 := Lib.hid hrow6
    clear hrow6
    go_wp2
    go_ret
    refine ⟨_, rfl, ?_, (hB1.trans (hb5.mono hbase)).trans (((Below.refl base w5).drew).trans (hb6.mono hbase))⟩
    show World.ownsRow _ base _ 4 _ (xs.take at_ ++ t :: xs.drop at_).length ((xs.take at_ ++ t :: xs.drop at_).flatMap fWatch.enc)
    rw [HL.out, HE.out]
    exact own_of_row HR6.out hbase (by omega) (by unfold maxLen; omega) hFl hFt


/-- Put in at any place. -/
theorem insWatch_any (v : Value) (xs : List DWatch) (t : DWatch) (at_ nb base : Nat) (w : World) (hown : Own fWatch w base 26 v xs) (hat : at_ ≤ xs.length) (hnb : w.heap[nb]? = some (.cells #[.string t.person, .int .i64 t.start, .int .i64 t.hours, .bool t.onCall] 26 (0, 0))) (hne : ∀ g, v.ownBlock = some g → nb ≠ g) (hl : xs.length ≤ 1000000) (hbase : base ≤ w.heap.size) :
    Calls Tryz.prog 25 #[v, .int .i64 at_, .slice (some ⟨nb, 0, none⟩) 1 1] w fun e w' => ∃ v', e = .returned v' ∧ Own fWatch w' base 26 v' (xs.take at_ ++ t :: xs.drop at_) ∧ Below base w w' := by
  rcases Nat.lt_or_ge at_ xs.length with hlt | hge
  · have hown' : w.ownsRow base 26 4 v xs.length (xs.flatMap fWatch.enc) := hown
    obtain ⟨g, cap, rfl, hg, hgw, _, _⟩ := ownO_ hown' (by omega)
    exact insertWatch_mid xs t g cap at_ nb base w hown' hlt hnb (hne g rfl) hl hbase
  · obtain rfl : at_ = xs.length := by omega
    rw [List.take_length, List.drop_length]
    refine insertWatch_end v xs t nb base w hown ⟨some ⟨nb, 0, none⟩, 1, rfl, by simp, ?_⟩ hl hbase
    intro ad had j u hu
    cases had
    rw [addr_add, World.cell?, hnb]
    simpa [fWatch] using hu

end Go.Proofs.YtmlconbekkdahaaGreatDoor

namespace Go.Proofs.YtmlconbekkdahaaGreatDoor
open Go.RowKit
section
variable {P : Program} {ops : Array Oper} {Q : Exit → Act → World → Prop} {md : Region.Mode} {C : World → Prop}

def mixF (md : Region.Mode) (ops : Array Oper) (i : Nat) (is1 : List Nat) (ks1 : List Bool) (j : Nat) (is2 : List Nat) (ks2 : List Bool) : List Nat → Array Bool → Bool
  | [], listed => (Region.ready md ops listed == [i, j]) && mixB md ops is1 ks1 (listed.setIfInBounds i true) && mixB md ops is2 ks2 (listed.setIfInBounds j true)
  | p :: ps, listed => (Region.ready md ops listed).contains p && Region.free md ops listed p && ((ops[p]?).map valueOnly).getD false && mixF md ops i is1 ks1 j is2 ks2 ps (listed.setIfInBounds p true)
def wpFork (P : Program) (ops : Array Oper) (Q : Exit → Act → World → Prop) (C : World → Prop) (ks1 : List Bool) (l1 : List Oper) (ks2 : List Bool) (l2 : List Oper) : List Oper → Act → World → Prop
  | [], a, w => wpMix P ops Q C (false :: ks1) l1 a w ∧ wpMix P ops Q C (false :: ks2) l2 a w
  | o :: lp, a, w => if Region.wanted o (yielded ops a.tmps) then o.quiet P a C (fun a' => wpFork P ops Q C ks1 l1 ks2 l2 lp a' w) else wpFork P ops Q C ks1 l1 ks2 l2 lp (a.put o.dst undef) w

theorem wpOp_of_mix (hs : Region.noSelect ops = true) (hQ : ∀ (c : _) (a : Act) (d : Option Tmp) (v : Value) (w : World), Q (.panic c) (a.put d v) w → Q (.panic c) a w)
    {i : Nat} {is : List Nat} {ks : List Bool} {listed : Array Bool} {a : Act} {w : World} (hi : i < ops.size) (his : ∀ x ∈ is, x < ops.size) (hB : mixB md ops is ks (listed.setIfInBounds i true) = true) (hC : C w)
    (h : wpMix P ops Q C (false :: ks) ((i :: is).map fun i => ops.getD i default) a w) :
    wpOp P ops Q i (fun a' w' => C w' ∧ wpAnyH P md ops Q C is.length (listed.setIfInBounds i true) a' w') a w := by
  have ho : ops[i]? = some (ops.getD i default) := by simp [hi]
  have hl : ∀ j : Nat, (is.map fun i => ops.getD i default)[j]? = (is[j]?).bind (fun i => ops[i]?) := fun j => by
    rw [List.getElem?_map]
    cases hj : is[j]? with
    | none => rfl
    | some x => have := his x (List.mem_of_getElem? hj); simp [this]
  rw [List.map_cons] at h
  simp only [wpMix] at h
  unfold wpOp
  simp only [ho]
  by_cases hw : Region.wanted (ops.getD i default) (yielded ops a.tmps) = true
  · rw [if_pos hw] at h ⊢
    exact .inl (Oper.wp_mono (fun a' w' hh => ⟨hh.1, wpAnyH_of_mix hs hQ is ks _ _ a' w' hl (by simp) hB hh.1 hh.2⟩) h)
  · rw [if_neg hw] at h ⊢
    exact ⟨hC, wpAnyH_of_mix hs hQ is ks _ _ _ w hl (by simp) hB hC h⟩

theorem wpAnyH_of_fork (hs : Region.noSelect ops = true) (hQ : ∀ (c : _) (a : Act) (d : Option Tmp) (v : Value) (w : World), Q (.panic c) (a.put d v) w → Q (.panic c) a w)
    {i : Nat} {is1 : List Nat} {ks1 : List Bool} {j : Nat} {is2 : List Nat} {ks2 : List Bool} (hi : i < ops.size) (hj : j < ops.size) (h1 : ∀ x ∈ is1, x < ops.size) (h2 : ∀ x ∈ is2, x < ops.size) (hlen : is1.length = is2.length) :
    ∀ (ps : List Nat) (listed : Array Bool) (a : Act) (w : World), (∀ x ∈ ps, x < ops.size) → mixF md ops i is1 ks1 j is2 ks2 ps listed = true → C w →
      wpFork P ops Q C ks1 ((i :: is1).map fun i => ops.getD i default) ks2 ((j :: is2).map fun i => ops.getD i default) (ps.map fun i => ops.getD i default) a w → wpAnyH P md ops Q C (ps.length + (is1.length + 1)) listed a w := by
  intro ps
  induction ps with
  | nil =>
    intro listed a w _ hB hC h
    simp only [mixF, Bool.and_eq_true, beq_iff_eq] at hB
    obtain ⟨⟨hr, hb1⟩, hb2⟩ := hB
    simp only [List.map_nil, wpFork] at h
    rw [List.length_nil, Nat.zero_add]
    refine wpAnyH_all hr (by simp) (fun x hx => ?_)
    rcases List.mem_cons.1 hx with rfl | hx
    · exact wpOp_of_mix hs hQ hi h1 hb1 hC h.1
    · rw [List.mem_singleton] at hx; subst hx
      rw [hlen]
      exact wpOp_of_mix hs hQ hj h2 hb2 hC h.2
  | cons p ps ih =>
    intro listed a w hps hB hC h
    have hp : p < ops.size := hps p (by simp)
    have ho : ops[p]? = some (ops.getD p default) := by simp [hp]
    simp only [mixF, Bool.and_eq_true, ho, Option.map_some, Option.getD_some] at hB
    obtain ⟨⟨⟨hr, hf⟩, hv⟩, hB'⟩ := hB
    rw [show ((p :: ps).map fun i => ops.getD i default) = ops.getD p default :: ps.map (fun i => ops.getD i default) from rfl] at h
    simp only [wpFork] at h
    rw [List.length_cons, show ps.length + 1 + (is1.length + 1) = (ps.length + (is1.length + 1)) + 1 by omega]
    by_cases hw : Region.wanted (ops.getD p default) (yielded ops a.tmps) = true
    · rw [if_pos hw] at h
      obtain ⟨v, q1, q2⟩ := yieldsIf_of_quiet hv h
      exact wpAnyH_take ho hs hf hr (fun c a w => hQ c a _ _ w) (.inl ⟨hw, q1⟩) hC (ih _ _ w (fun x hx => hps x (by simp [hx])) hB' hC q2)
    · rw [if_neg hw] at h
      exact wpAnyH_take ho hs hf hr (fun c a w => hQ c a _ _ w) (.inr ⟨by simpa using hw, rfl⟩) hC (ih _ _ w (fun x hx => hps x (by simp [hx])) hB' hC h)

structure Fork (P : Program) (ops : Array Oper) (Q : Exit → Act → World → Prop) (C : World → Prop) (ks1 : List Bool) (l1 : List Oper) (ks2 : List Bool) (l2 : List Oper) (lp : List Oper) (a : Act) (w : World) : Prop where
  out : wpFork P ops Q C ks1 l1 ks2 l2 lp a w
theorem wp_region_fork {id : Nat} {l : List Oper} {a : Act} {w : World} (ps : List Nat) (i : Nat) (is1 : List Nat) (ks1 : List Bool) (j : Nat) (is2 : List Nat) (ks2 : List Bool) (hm : P.follows .mixedOrders = true) (hs : Region.noSelect l.toArray = true)
    (hB : (((i :: j :: (ps ++ is1 ++ is2)).all (fun x => decide (x < l.length))) && decide (is1.length = is2.length) && decide (ps.length + (is1.length + 1) = l.length) && mixF .any l.toArray i is1 ks1 j is2 ks2 ps (Array.replicate l.length false)) = true)
    (hQ : ∀ (c : _) (a : Act) (d : Option Tmp) (v : Value) (w : World), Q (.panic c) (a.put d v) w → Q (.panic c) a w) (hC : C w.drew)
    (h : Fork P l.toArray Q C ks1 ((i :: is1).map fun i => l.getD i default) ks2 ((j :: is2).map fun i => l.getD i default) (ps.map fun i => l.getD i default) a w.drew) : (Code.region id l.toArray true).wp P Q a w := by
  simp only [Bool.and_eq_true, decide_eq_true_eq, List.all_eq_true] at hB
  obtain ⟨⟨⟨h1, h2⟩, h3⟩, h4⟩ := hB
  refine wp_region_held (S := C) hm ?_
  have hg : (fun i => l.toArray.getD i default) = (fun i => l.getD i default) := by funext x; simp [Array.getD_eq_getD_getElem?, List.getD_eq_getElem?_getD]
  have := wpAnyH_of_fork (md := .any) (ops := l.toArray) hs hQ (i := i) (is1 := is1) (ks1 := ks1) (j := j) (is2 := is2) (ks2 := ks2) (by simpa using h1 i (by simp)) (by simpa using h1 j (by simp))
    (fun x hx => by simpa using h1 x (by simp [hx])) (fun x hx => by simpa using h1 x (by simp [hx])) h2 ps (Array.replicate l.length false) a w.drew (fun x hx => by simpa using h1 x (by simp [hx])) h4 hC (by rw [hg]; exact h.out)
  rw [h3] at this
  simpa using this
theorem wpFork_pure {ks1 ks2 : List Bool} {l1 l2 : List Oper} {o : Oper} {l : List Oper} {a : Act} {w : World} (hw : Region.wanted o (yielded ops a.tmps) = true)
    (h : ∀ K : Act → Prop, (∀ a', Fork P ops Q C ks1 l1 ks2 l2 l a' w → K a') → o.quiet P a C K) : Fork P ops Q C ks1 l1 ks2 l2 (o :: l) a w := by
  refine ⟨?_⟩
  simp only [wpFork]; rw [if_pos hw]; exact h _ fun _ h => h.out
theorem wpFork_split {ks1 ks2 : List Bool} {l1 l2 : List Oper} {a : Act} {w : World} (h1 : Mix P ops Q C (false :: ks1) l1 a w) (h2 : Mix P ops Q C (false :: ks2) l2 a w) : Fork P ops Q C ks1 l1 ks2 l2 [] a w := ⟨⟨h1.out, h2.out⟩⟩
end
end Go.Proofs.YtmlconbekkdahaaGreatDoor

namespace Go.Proofs.YtmlconbekkdahaaGreatDoor
open Go.RowKit
set_option linter.unusedVariables false

theorem cmpW_eqd {a b : DWatch} (h : a.person = b.person) : cmpW a b < 0 ↔ a.start < b.start := by
  have := cmpW_eq h
  rw [Bool.eq_iff_iff, decide_eq_true_eq, decide_eq_true_eq] at this; exact this
theorem cmpW_ned {a b : DWatch} (h : a.person ≠ b.person) : cmpW a b < 0 ↔ ltS a.person b.person = true := by
  have := cmpW_ne h
  rw [Bool.eq_iff_iff, decide_eq_true_eq] at this
  rw [this]; unfold watchBef; rw [if_neg h]
set_option maxRecDepth 100000 in
set_option maxHeartbeats 8000000 in
theorem specAddWatch_any (v : Value) (xs : List DWatch) (fp : List Nat) (x : DWatch) (w : World) (hx : Sl fWatch.cod w v xs fp) (hok : fWatch.ok x) :
    Calls Tryz.prog 38 #[v, .agg #[.string x.person, .int .i64 x.start, .int .i64 x.hours, .bool x.onCall]] w fun e w' => ∃ v', e = .returned (.tuple #[v', .int .i64 (addWatchC xs x)]) ∧ Own fWatch w' w.heap.size 26 v' (addWatchF xs x) ∧ Below w.heap.size w w' := by
  obtain ⟨A, cap, rfl, hlen, hcap⟩ := hx.form
  obtain ⟨i0, hi, hz0, hz1, hz2⟩ := info_parts infoWatchK
  have hfp := hx.lt
  have HOK : Hid (∀ y ∈ addWatchL xs x, fWatch.ok y) := addWatchL_all hx.oks hok
  have hB0 : Below w.heap.size w (w.alloc (.cells #[.string x.person, .int .i64 x.start, .int .i64 x.hours, .bool x.onCall] 26)) := (Below.refl _ _).alloc (Nat.le_refl _) _
  have hp := PWatch.box w x 26
  replace hx := hx.below' hB0
  go_enter Tryz.func38, Tryz.ntmps38
  go_wp2_with fail
  refine (l26Ok_any _ xs fp _ hx).mono ?_
  rintro e w1 ⟨rfl, hb1⟩
  have hp1 := hp.below' hb1
  have hx1 := hx.below' hb1
  have hB1 := hB0.trans (hb1.mono hB0.size)
  clear hp hx hb1 hB0
  cases hv : watchsB xs
  · have HE := Lib.hid (addWatch_bad (x := x) (show addWatchC xs x = 1 by unfold addWatchC; rw [hv]; rfl) (by decide))
    go_wp2
    go_ret2
    exact ⟨_, by rw [HE.out.1]; rfl, by rw [HE.out.2]; exact Own.nil _ _ _ _, hB1⟩
  have hlen2 := watchsB_len hv
  go_wp2_with fail
  refine (l26One_any _ _ x _ hp1 hok).mono ?_
  rintro e w2 ⟨rfl, hb2⟩
  have hp2 := hp1.below' hb2
  have hx2 := hx1.below' hb2
  have hB2 := hB1.trans (hb2.mono hB1.size)
  have hgx := hp2.lt
  clear hp1 hx1 hb2
  cases ho : watchB x
  · have HE := Lib.hid (addWatch_bad (show addWatchC xs x = 2 by unfold addWatchC; rw [hv, ho]; rfl) (by decide))
    go_wp2
    go_ret2
    exact ⟨_, by rw [HE.out.1]; rfl, by rw [HE.out.2]; exact Own.nil _ _ _ _, hB2⟩
  by_cases hM : xs.length = 32
  · have HE := Lib.hid (addWatch_bad (show addWatchC xs x = 5 by unfold addWatchC; rw [hv, ho, if_pos hM]; rfl) (by decide))
    have eM : ((xs.length : Int) == 32) = true := by rw [hM]; rfl
    clear hM
    go_wp2
    go_ret2
    exact ⟨_, by rw [HE.out.1]; rfl, by rw [HE.out.2]; exact Own.nil _ _ _ _, hB2⟩
  have HC6 : Hid (∀ b, watchsB (addWatchL xs x) = b → addWatchC xs x = if b then 0 else 6) := fun b h => by unfold addWatchC; rw [hv, ho, if_neg hM, h]; rfl
  have eM : ((xs.length : Int) == 32) = false := by rw [beq_eq_false_iff_ne]; omega
  have hM2 : xs.length < 32 := by omega
  clear hM hv ho
  go_wp2
  go_loopw [6] (fun i wr => ∃ k : Nat, k ≤ xs.length ∧ i = .int .i64 k ∧ Hid (∀ m (h : m < xs.length), m < k → cmpW xs[m] x < 0) ∧ Below w2.heap.size w2 wr) (fun i _ => xs.length - (intOf i).toNat)
  case atStart => exact ⟨0, Nat.zero_le _, rfl, fun m _ h => absurd h (Nat.not_lt_zero _), Below.refl _ _⟩
  case round =>
    obtain ⟨k, hk, rfl, HA, hb⟩ := hrel
    obtain ⟨d0, d1, d2, d3⟩ := id (hp2.below' hb)
    by_cases hlt : k < xs.length
    · obtain ⟨b1, off, rfl, _, hok1, hpm⟩ := PWatch.elem (hx2.below' hb) hlt
      obtain ⟨c0, c1, c2, c3⟩ := id hpm
      clear eM
      go_wp2
      have gc0 := cell_regrown c0
      have gc1 := cell_regrown c1
      have gd0 := cell_regrown d0
      have gd1 := cell_regrown d1
      refine wp_region_mix (C := fun w' => ∃ p : Regrown, w' = Go.Sort.grow (redrawn wr p.d) p.os) [true, true, true, true, true, true, true, true, true, true, true, true, true, true, true, true, true, true, true, true, true, true, true, true, true, true, true, true, true, true, true, true, true, true] (by kernel_rfl) (by kernel_rfl) (by kernel_rfl) (fun _ _ d _ _ h => by cases d <;> exact h) (regrown_of_below (Below.drew (Below.refl _ _))) ?_
      have hS0 : Below (wr.heap.size) wr wr.drew := Below.drew (Below.refl _ _)
      refine wpMix_pure (by kernel_rfl) (fun K hK => ?_); go_big_quiet_op; refine hK _ ?_; clear hK K
      refine wpMix_pure (by kernel_rfl) (fun K hK => ?_); go_big_quiet_op; refine hK _ ?_; clear hK K
      refine wpMix_pure (by kernel_rfl) (fun K hK => ?_); go_big_quiet_op; refine hK _ ?_; clear hK K
      refine wpMix_pure (by kernel_rfl) (fun K hK => ?_); go_big_quiet_op; refine hK _ ?_; clear hK K
      refine wpMix_pure (by kernel_rfl) (fun K hK => ?_); go_big_quiet_op; refine hK _ ?_; clear hK K
      refine wpMix_pure (by kernel_rfl) (fun K hK => ?_); go_big_quiet_op; refine hK _ ?_; clear hK K
      refine wpMix_pure (by kernel_rfl) (fun K hK => ?_); go_big_quiet_op; refine hK _ ?_; clear hK K
      refine wpMix_pure (by kernel_rfl) (fun K hK => ?_); go_big_quiet_op; refine hK _ ?_; clear hK K
      refine wpMix_pure (by kernel_rfl) (fun K hK => ?_); go_big_quiet_op; refine hK _ ?_; clear hK K
      refine wpMix_pure (by kernel_rfl) (fun K hK => ?_); go_big_quiet_op; refine hK _ ?_; clear hK K
      refine wpMix_pure (by kernel_rfl) (fun K hK => ?_); go_big_quiet_op; refine hK _ ?_; clear hK K
      refine wpMix_pure (by kernel_rfl) (fun K hK => ?_); go_big_quiet_op; refine hK _ ?_; clear hK K
      by_cases hq12 : ltS xs[k].person x.person = true
      · skip
        have e1 : Op.bytesLess xs[k].person.toList x.person.toList = true := hq12
        refine wpMix_pure (by kernel_rfl) (fun K hK => ?_); go_big_quiet_op; refine hK _ ?_; clear hK K
        refine wpMix_pure (by kernel_rfl) (fun K hK => ?_); go_big_quiet_op; refine hK _ ?_; clear hK K
        refine wpMix_skip (by kernel_rfl) (fun K hK => ?_)
        simp only [Act.put, List.setIfInBounds_toArray, List.set_cons_zero, List.set_cons_succ]
        refine hK _ ?_; clear hK K
        refine wpMix_skip (by kernel_rfl) (fun K hK => ?_)
        simp only [Act.put, List.setIfInBounds_toArray, List.set_cons_zero, List.set_cons_succ]
        refine hK _ ?_; clear hK K
        refine wpMix_skip (by kernel_rfl) (fun K hK => ?_)
        simp only [Act.put, List.setIfInBounds_toArray, List.set_cons_zero, List.set_cons_succ]
        refine hK _ ?_; clear hK K
        refine wpMix_skip (by kernel_rfl) (fun K hK => ?_)
        simp only [Act.put, List.setIfInBounds_toArray, List.set_cons_zero, List.set_cons_succ]
        refine hK _ ?_; clear hK K
        refine wpMix_skip (by kernel_rfl) (fun K hK => ?_)
        simp only [Act.put, List.setIfInBounds_toArray, List.set_cons_zero, List.set_cons_succ]
        refine hK _ ?_; clear hK K
        refine wpMix_skip (by kernel_rfl) (fun K hK => ?_)
        simp only [Act.put, List.setIfInBounds_toArray, List.set_cons_zero, List.set_cons_succ]
        refine hK _ ?_; clear hK K
        refine wpMix_skip (by kernel_rfl) (fun K hK => ?_)
        simp only [Act.put, List.setIfInBounds_toArray, List.set_cons_zero, List.set_cons_succ]
        refine hK _ ?_; clear hK K
        refine wpMix_skip (by kernel_rfl) (fun K hK => ?_)
        simp only [Act.put, List.setIfInBounds_toArray, List.set_cons_zero, List.set_cons_succ]
        refine hK _ ?_; clear hK K
        refine wpMix_skip (by kernel_rfl) (fun K hK => ?_)
        simp only [Act.put, List.setIfInBounds_toArray, List.set_cons_zero, List.set_cons_succ]
        refine hK _ ?_; clear hK K
        refine wpMix_skip (by kernel_rfl) (fun K hK => ?_)
        simp only [Act.put, List.setIfInBounds_toArray, List.set_cons_zero, List.set_cons_succ]
        refine hK _ ?_; clear hK K
        refine wpMix_skip (by kernel_rfl) (fun K hK => ?_)
        simp only [Act.put, List.setIfInBounds_toArray, List.set_cons_zero, List.set_cons_succ]
        refine hK _ ?_; clear hK K
        refine wpMix_skip (by kernel_rfl) (fun K hK => ?_)
        simp only [Act.put, List.setIfInBounds_toArray, List.set_cons_zero, List.set_cons_succ]
        refine hK _ ?_; clear hK K
        refine wpMix_skip (by kernel_rfl) (fun K hK => ?_)
        simp only [Act.put, List.setIfInBounds_toArray, List.set_cons_zero, List.set_cons_succ]
        refine hK _ ?_; clear hK K
        refine wpMix_skip (by kernel_rfl) (fun K hK => ?_)
        simp only [Act.put, List.setIfInBounds_toArray, List.set_cons_zero, List.set_cons_succ]
        refine hK _ ?_; clear hK K
        refine wpMix_skip (by kernel_rfl) (fun K hK => ?_)
        simp only [Act.put, List.setIfInBounds_toArray, List.set_cons_zero, List.set_cons_succ]
        refine hK _ ?_; clear hK K
        refine wpMix_skip (by kernel_rfl) (fun K hK => ?_)
        simp only [Act.put, List.setIfInBounds_toArray, List.set_cons_zero, List.set_cons_succ]
        refine hK _ ?_; clear hK K
        refine wpMix_skip (by kernel_rfl) (fun K hK => ?_)
        simp only [Act.put, List.setIfInBounds_toArray, List.set_cons_zero, List.set_cons_succ]
        refine hK _ ?_; clear hK K
        refine wpMix_skip (by kernel_rfl) (fun K hK => ?_)
        simp only [Act.put, List.setIfInBounds_toArray, List.set_cons_zero, List.set_cons_succ]
        refine hK _ ?_; clear hK K
        refine wpMix_pure (by kernel_rfl) (fun K hK => ?_); go_big_quiet_op; refine hK _ ?_; clear hK K
        refine wpMix_pure (by kernel_rfl) (fun K hK => ?_); go_big_quiet_op; refine hK _ ?_; clear hK K
        refine wpMix_nil ?_
        have hcm : cmpW xs[k] x < 0 := (cmpW_ned (fun e => by rw [e, ltS_irrefl] at hq12; cases hq12)).2 hq12
        have hS9 := hS0
        have hb8 := hb.trans (hS9.mono hb.size)
        have HA2 : Hid (∀ m (h : m < xs.length), m < k + 1 → cmpW xs[m] x < 0) := fun m h hm => by
          rcases Nat.lt_or_eq_of_le (Nat.le_of_lt_succ hm) with h1 | rfl
          · exact HA.out m h h1
          · exact hcm
        clear HA hcm
        go_wp2
        go_roundw
        case rel => exact ⟨k + 1, by omega, by go_num, HA2, hb8⟩
        case measure => simp [intOf]; omega
      · skip
        have e1 : Op.bytesLess xs[k].person.toList x.person.toList = false := (Bool.not_eq_true _).mp hq12
        refine wpMix_pure (by kernel_rfl) (fun K hK => ?_); go_big_quiet_op; refine hK _ ?_; clear hK K
        refine wpMix_pure (by kernel_rfl) (fun K hK => ?_); go_big_quiet_op; refine hK _ ?_; clear hK K
        refine wpMix_pure (by kernel_rfl) (fun K hK => ?_); go_big_quiet_op; refine hK _ ?_; clear hK K
        refine wpMix_pure (by kernel_rfl) (fun K hK => ?_); go_big_quiet_op; refine hK _ ?_; clear hK K
        refine wpMix_pure (by kernel_rfl) (fun K hK => ?_); go_big_quiet_op; refine hK _ ?_; clear hK K
        refine wpMix_pure (by kernel_rfl) (fun K hK => ?_); go_big_quiet_op; refine hK _ ?_; clear hK K
        refine wpMix_pure (by kernel_rfl) (fun K hK => ?_); go_big_quiet_op; refine hK _ ?_; clear hK K
        refine wpMix_pure (by kernel_rfl) (fun K hK => ?_); go_big_quiet_op; refine hK _ ?_; clear hK K
        refine wpMix_pure (by kernel_rfl) (fun K hK => ?_); go_big_quiet_op; refine hK _ ?_; clear hK K
        by_cases hq21 : xs[k].person = x.person
        · skip
          have e2 : (xs[k].person.toList == x.person.toList) = true := eqS_true.2 hq21
          refine wpMix_pure (by kernel_rfl) (fun K hK => ?_); go_big_quiet_op; refine hK _ ?_; clear hK K
          refine wpMix_pure (by kernel_rfl) (fun K hK => ?_); go_big_quiet_op; refine hK _ ?_; clear hK K
          refine wpMix_pure (by kernel_rfl) (fun K hK => ?_); go_big_quiet_op; refine hK _ ?_; clear hK K
          refine wpMix_pure (by kernel_rfl) (fun K hK => ?_); go_big_quiet_op; refine hK _ ?_; clear hK K
          refine wpMix_pure (by kernel_rfl) (fun K hK => ?_); go_big_quiet_op; refine hK _ ?_; clear hK K
          refine wpMix_pure (by kernel_rfl) (fun K hK => ?_); go_big_quiet_op; refine hK _ ?_; clear hK K
          refine wpMix_pure (by kernel_rfl) (fun K hK => ?_); go_big_quiet_op; refine hK _ ?_; clear hK K
          refine wpMix_pure (by kernel_rfl) (fun K hK => ?_); go_big_quiet_op; refine hK _ ?_; clear hK K
          refine wpMix_pure (by kernel_rfl) (fun K hK => ?_); go_big_quiet_op; refine hK _ ?_; clear hK K
          by_cases hq30 : xs[k].start < x.start
          · skip
            have e3 : decide (xs[k].start < x.start) = true := by simpa using hq30
            refine wpMix_pure (by kernel_rfl) (fun K hK => ?_); go_big_quiet_op; refine hK _ ?_; clear hK K
            refine wpMix_pure (by kernel_rfl) (fun K hK => ?_); go_big_quiet_op; refine hK _ ?_; clear hK K
            refine wpMix_pure (by kernel_rfl) (fun K hK => ?_); go_big_quiet_op; refine hK _ ?_; clear hK K
            refine wpMix_pure (by kernel_rfl) (fun K hK => ?_); go_big_quiet_op; refine hK _ ?_; clear hK K
            refine wpMix_nil ?_
            have hcm : cmpW xs[k] x < 0 := (cmpW_eqd hq21).2 hq30
            have hS9 := hS0
            have hb8 := hb.trans (hS9.mono hb.size)
            have HA2 : Hid (∀ m (h : m < xs.length), m < k + 1 → cmpW xs[m] x < 0) := fun m h hm => by
              rcases Nat.lt_or_eq_of_le (Nat.le_of_lt_succ hm) with h1 | rfl
              · exact HA.out m h h1
              · exact hcm
            clear HA hcm
            go_wp2
            go_roundw
            case rel => exact ⟨k + 1, by omega, by go_num, HA2, hb8⟩
            case measure => simp [intOf]; omega
          · skip
            have e3 : decide (xs[k].start < x.start) = false := by simpa using hq30
            refine wpMix_pure (by kernel_rfl) (fun K hK => ?_); go_big_quiet_op; refine hK _ ?_; clear hK K
            refine wpMix_pure (by kernel_rfl) (fun K hK => ?_); go_big_quiet_op; refine hK _ ?_; clear hK K
            refine wpMix_pure (by kernel_rfl) (fun K hK => ?_); go_big_quiet_op; refine hK _ ?_; clear hK K
            refine wpMix_pure (by kernel_rfl) (fun K hK => ?_); go_big_quiet_op; refine hK _ ?_; clear hK K
            refine wpMix_nil ?_
            have hcm : ¬ cmpW xs[k] x < 0 := fun h => hq30 ((cmpW_eqd hq21).1 h)
            have hS9 := hS0
            have hb8 := hb.trans (hS9.mono hb.size)
            have HAT : Hid (atWatch xs x = k) := posF_is _ xs k hk (fun m h hm => decide_eq_true (HA.out m h hm)) (fun h => decide_eq_false hcm)
            have hB8 := hB2.trans (hb8.mono hB2.size)
            have hx8 := hx2.below' hb8
            have hp8 := hp2.below' hb8
            clear hcm HA hb8 hb hS9 hS0 c0 c1 c2 c3 d0 d1 d2 d3 gc0 gc1 gd0 gd1 hpm hB2 hx2 hp2
            (try clear hq12)
            (try clear hq21)
            (try clear hq30)
            generalize wr.drew = W8 at *
            have HL : Hid (addWatchL xs x = xs.take k ++ x :: xs.drop k) := by show _ = _; unfold addWatchL; rw [HAT.out]
            clear HAT
            have hB10 : Below W8.heap.size W8 (W8.alloc (.cells #[] 26)) := (Below.refl _ _).alloc (Nat.le_refl _) _
            have hx9 := hx8.below' hB10
            have hp9 := hp8.below' hB10
            have hB11 := hB8.trans (hB10.mono hB8.size)
            have hsz8 : w.heap.size + 1 ≤ W8.heap.size := hp8.lt
            have hs11 : w.heap.size + 1 ≤ (W8.alloc (.cells #[] 26)).heap.size := by simp; omega
            have ho5 := Own.lit0m fWatch (w := W8) (base := w.heap.size + 1) hsz8 (e := 26)
            have hsrc := hx9.src_take (k := k) (c := cap) (by omega)
            go_wp2_with (at_builtin; refine wpList_append_src (E := fWatch) rfl _ _ 24 rfl (w.heap.size + 1) 26 i0 (.agg #[.string ⟨#[]⟩, .int .i64 0, .int .i64 0, .bool false]) 40 Tryz.underlying24 hi hz0 hz1 hz2 rfl (.slice (some ⟨W8.heap.size, 0, none⟩) 0 0) [] rfl ho5 _ (xs.take k) rfl hsrc (by simp <;> omega) (by decide) hs11 ?_)
            intro v' u hown hbu
            try rw [List.nil_append] at hown
            have hB12 := hB11.trans (hbu.mono (Nat.le_succ _))
            have hx10 := hx9.below hbu (fun b hb => by have := hfp b hb; omega)
            have hp10 := hp9.below hbu (Nat.lt_succ_self _)
            have hlk : (xs.take k).length = k := by rw [List.length_take]; omega
            have hown1 : u.ownsRow (w.heap.size + 1) 26 4 v' k ((xs.take k).flatMap fWatch.enc) := by
              have h : u.ownsRow (w.heap.size + 1) 26 4 v' (xs.take k).length ((xs.take k).flatMap fWatch.enc) := hown
              rw [hlk] at h; exact h
            have hs12 : w.heap.size + 1 ≤ u.heap.size := hp10.lt
            obtain ⟨d0, d1, d2, d3⟩ := id hp10
            clear hown hx9 hp9 hx8 hp8 hsrc hbu
            go_wp2_with (at_builtin; refine wpList_append_one rfl _ _ 24 rfl (w.heap.size + 1) 26 i0 (.agg #[.string ⟨#[]⟩, .int .i64 0, .int .i64 0, .bool false]) 4 40 Tryz.underlying24 hi hz0 hz1 hz2 rfl (by decide) v' k _ rfl hown1 [.string x.person, .int .i64 x.start, .int .i64 x.hours, .bool x.onCall] rfl (by intro u hu; simp only [List.mem_cons, List.not_mem_nil, or_false] at hu; rcases hu with rfl | rfl | rfl | rfl <;> rfl) rfl (by omega) (by decide) hs12 ?_)
            intro v2 u2 hown2 hbu2 _ _
            have hB13 := hB12.trans (hbu2.mono (Nat.le_succ _))
            have hx11 := hx10.below hbu2 (fun b hb => by have := hfp b hb; omega)
            have hp11 := hp10.below hbu2 (Nat.lt_succ_self _)
            have ho6 : Own fWatch u2 (w.heap.size + 1) 26 v2 (xs.take k ++ [x]) := Own.push x (by rw [hlk]) hown2
            have hs13 : w.heap.size + 1 ≤ u2.heap.size := hp11.lt
            clear hown2 hown1 hx10 hp10 hbu2 d0 d1 d2 d3
            have hcl : k < cap := by omega
            have hsrc2 := hx11.src_drop (k := k) (c := cap - k) (by omega)
            go_wp2_with (at_builtin; refine wpList_append_src (E := fWatch) rfl _ _ 24 rfl (w.heap.size + 1) 26 i0 (.agg #[.string ⟨#[]⟩, .int .i64 0, .int .i64 0, .bool false]) 40 Tryz.underlying24 hi hz0 hz1 hz2 rfl v2 (xs.take k ++ [x]) rfl ho6 _ (xs.drop k) rfl hsrc2 (by simp <;> omega) (by decide) hs13 ?_)
            intro v3 u3 hown3 hbu3
            have hB14 := hB13.trans (hbu3.mono (Nat.le_succ _))
            have hEQ : xs.take k ++ [x] ++ xs.drop k = xs.take k ++ x :: xs.drop k := by simp
            have ho7 : Own fWatch u3 w.heap.size 26 v3 (addWatchL xs x) := by rw [HL.out]; first | exact ownM_ hown3 (Nat.le_succ _) | (rw [← hEQ]; exact ownM_ hown3 (Nat.le_succ _)) | (have h9 := hown3; simp only [List.append_nil, List.take_length, List.drop_length] at h9 ⊢; exact ownM_ h9 (Nat.le_succ _))
            clear hown3 ho6 hB13
            obtain ⟨fq, hsl, _, _⟩ := Sl.of_own (n := (addWatchL xs x).length) rfl ho7 HOK.out
            have hFL := fun h : addWatchC xs x = 0 => (show addWatchF xs x = addWatchL xs x by unfold addWatchF; rw [if_pos h])
            obtain ⟨A9, c9, rfl⟩ := ho7.form
            have hl9 : (addWatchL xs x).length ≤ 40 := by rw [addWatchL_length]; omega
            generalize addWatchL xs x = LL at *
            clear hEQ HL HOK hsrc2
            go_wp2_with fail
            refine (l26Ok_any _ LL fq _ hsl).mono ?_
            rintro e w9 ⟨rfl, hb9⟩
            have hB15 := hB14.trans (hb9.mono hB14.size)
            have ho8 := ho7.below hb9
            clear ho7 hsl hB14 hb9
            cases hz : watchsB LL
            · have HE := Lib.hid (addWatch_bad ((HC6.out false hz).trans rfl) (by decide))
              go_wp2
              go_ret2
              exact ⟨_, by rw [HE.out.1]; rfl, by rw [HE.out.2]; exact Own.nil _ _ _ _, hB15⟩
            have HC := Lib.hid ((HC6.out true hz).trans rfl : addWatchC xs x = 0)
            have HF := Lib.hid (hFL HC.out)
            clear hFL HC6 hz
            go_wp2
            go_ret2
            exact ⟨_, by rw [HC.out]; rfl, by rw [HF.out]; exact ho8, hB15⟩
        · skip
          have e2 : (xs[k].person.toList == x.person.toList) = false := bytes_beq_false hq21
          refine wpMix_pure (by kernel_rfl) (fun K hK => ?_); go_big_quiet_op; refine hK _ ?_; clear hK K
          refine wpMix_pure (by kernel_rfl) (fun K hK => ?_); go_big_quiet_op; refine hK _ ?_; clear hK K
          refine wpMix_skip (by kernel_rfl) (fun K hK => ?_)
          simp only [Act.put, List.setIfInBounds_toArray, List.set_cons_zero, List.set_cons_succ]
          refine hK _ ?_; clear hK K
          refine wpMix_skip (by kernel_rfl) (fun K hK => ?_)
          simp only [Act.put, List.setIfInBounds_toArray, List.set_cons_zero, List.set_cons_succ]
          refine hK _ ?_; clear hK K
          refine wpMix_skip (by kernel_rfl) (fun K hK => ?_)
          simp only [Act.put, List.setIfInBounds_toArray, List.set_cons_zero, List.set_cons_succ]
          refine hK _ ?_; clear hK K
          refine wpMix_skip (by kernel_rfl) (fun K hK => ?_)
          simp only [Act.put, List.setIfInBounds_toArray, List.set_cons_zero, List.set_cons_succ]
          refine hK _ ?_; clear hK K
          refine wpMix_skip (by kernel_rfl) (fun K hK => ?_)
          simp only [Act.put, List.setIfInBounds_toArray, List.set_cons_zero, List.set_cons_succ]
          refine hK _ ?_; clear hK K
          refine wpMix_skip (by kernel_rfl) (fun K hK => ?_)
          simp only [Act.put, List.setIfInBounds_toArray, List.set_cons_zero, List.set_cons_succ]
          refine hK _ ?_; clear hK K
          refine wpMix_skip (by kernel_rfl) (fun K hK => ?_)
          simp only [Act.put, List.setIfInBounds_toArray, List.set_cons_zero, List.set_cons_succ]
          refine hK _ ?_; clear hK K
          refine wpMix_skip (by kernel_rfl) (fun K hK => ?_)
          simp only [Act.put, List.setIfInBounds_toArray, List.set_cons_zero, List.set_cons_succ]
          refine hK _ ?_; clear hK K
          refine wpMix_pure (by kernel_rfl) (fun K hK => ?_); go_big_quiet_op; refine hK _ ?_; clear hK K
          refine wpMix_pure (by kernel_rfl) (fun K hK => ?_); go_big_quiet_op; refine hK _ ?_; clear hK K
          refine wpMix_pure (by kernel_rfl) (fun K hK => ?_); go_big_quiet_op; refine hK _ ?_; clear hK K
          refine wpMix_nil ?_
          have hcm : ¬ cmpW xs[k] x < 0 := fun h => hq12 ((cmpW_ned hq21).1 h)
          have hS9 := hS0
          have hb8 := hb.trans (hS9.mono hb.size)
          have HAT : Hid (atWatch xs x = k) := posF_is _ xs k hk (fun m h hm => decide_eq_true (HA.out m h hm)) (fun h => decide_eq_false hcm)
          have hB8 := hB2.trans (hb8.mono hB2.size)
          have hx8 := hx2.below' hb8
          have hp8 := hp2.below' hb8
          clear hcm HA hb8 hb hS9 hS0 c0 c1 c2 c3 d0 d1 d2 d3 gc0 gc1 gd0 gd1 hpm hB2 hx2 hp2
          (try clear hq12)
          (try clear hq21)
          (try clear hq30)
          generalize wr.drew = W8 at *
          have HL : Hid (addWatchL xs x = xs.take k ++ x :: xs.drop k) := by show _ = _; unfold addWatchL; rw [HAT.out]
          clear HAT
          have hB10 : Below W8.heap.size W8 (W8.alloc (.cells #[] 26)) := (Below.refl _ _).alloc (Nat.le_refl _) _
          have hx9 := hx8.below' hB10
          have hp9 := hp8.below' hB10
          have hB11 := hB8.trans (hB10.mono hB8.size)
          have hsz8 : w.heap.size + 1 ≤ W8.heap.size := hp8.lt
          have hs11 : w.heap.size + 1 ≤ (W8.alloc (.cells #[] 26)).heap.size := by simp; omega
          have ho5 := Own.lit0m fWatch (w := W8) (base := w.heap.size + 1) hsz8 (e := 26)
          have hsrc := hx9.src_take (k := k) (c := cap) (by omega)
          go_wp2_with (at_builtin; refine wpList_append_src (E := fWatch) rfl _ _ 24 rfl (w.heap.size + 1) 26 i0 (.agg #[.string ⟨#[]⟩, .int .i64 0, .int .i64 0, .bool false]) 40 Tryz.underlying24 hi hz0 hz1 hz2 rfl (.slice (some ⟨W8.heap.size, 0, none⟩) 0 0) [] rfl ho5 _ (xs.take k) rfl hsrc (by simp <;> omega) (by decide) hs11 ?_)
          intro v' u hown hbu
          try rw [List.nil_append] at hown
          have hB12 := hB11.trans (hbu.mono (Nat.le_succ _))
          have hx10 := hx9.below hbu (fun b hb => by have := hfp b hb; omega)
          have hp10 := hp9.below hbu (Nat.lt_succ_self _)
          have hlk : (xs.take k).length = k := by rw [List.length_take]; omega
          have hown1 : u.ownsRow (w.heap.size + 1) 26 4 v' k ((xs.take k).flatMap fWatch.enc) := by
            have h : u.ownsRow (w.heap.size + 1) 26 4 v' (xs.take k).length ((xs.take k).flatMap fWatch.enc) := hown
            rw [hlk] at h; exact h
          have hs12 : w.heap.size + 1 ≤ u.heap.size := hp10.lt
          obtain ⟨d0, d1, d2, d3⟩ := id hp10
          clear hown hx9 hp9 hx8 hp8 hsrc hbu
          go_wp2_with (at_builtin; refine wpList_append_one rfl _ _ 24 rfl (w.heap.size + 1) 26 i0 (.agg #[.string ⟨#[]⟩, .int .i64 0, .int .i64 0, .bool false]) 4 40 Tryz.underlying24 hi hz0 hz1 hz2 rfl (by decide) v' k _ rfl hown1 [.string x.person, .int .i64 x.start, .int .i64 x.hours, .bool x.onCall] rfl (by intro u hu; simp only [List.mem_cons, List.not_mem_nil, or_false] at hu; rcases hu with rfl | rfl | rfl | rfl <;> rfl) rfl (by omega) (by decide) hs12 ?_)
          intro v2 u2 hown2 hbu2 _ _
          have hB13 := hB12.trans (hbu2.mono (Nat.le_succ _))
          have hx11 := hx10.below hbu2 (fun b hb => by have := hfp b hb; omega)
          have hp11 := hp10.below hbu2 (Nat.lt_succ_self _)
          have ho6 : Own fWatch u2 (w.heap.size + 1) 26 v2 (xs.take k ++ [x]) := Own.push x (by rw [hlk]) hown2
          have hs13 : w.heap.size + 1 ≤ u2.heap.size := hp11.lt
          clear hown2 hown1 hx10 hp10 hbu2 d0 d1 d2 d3
          have hcl : k < cap := by omega
          have hsrc2 := hx11.src_drop (k := k) (c := cap - k) (by omega)
          go_wp2_with (at_builtin; refine wpList_append_src (E := fWatch) rfl _ _ 24 rfl (w.heap.size + 1) 26 i0 (.agg #[.string ⟨#[]⟩, .int .i64 0, .int .i64 0, .bool false]) 40 Tryz.underlying24 hi hz0 hz1 hz2 rfl v2 (xs.take k ++ [x]) rfl ho6 _ (xs.drop k) rfl hsrc2 (by simp <;> omega) (by decide) hs13 ?_)
          intro v3 u3 hown3 hbu3
          have hB14 := hB13.trans (hbu3.mono (Nat.le_succ _))
          have hEQ : xs.take k ++ [x] ++ xs.drop k = xs.take k ++ x :: xs.drop k := by simp
          have ho7 : Own fWatch u3 w.heap.size 26 v3 (addWatchL xs x) := by rw [HL.out]; first | exact ownM_ hown3 (Nat.le_succ _) | (rw [← hEQ]; exact ownM_ hown3 (Nat.le_succ _)) | (have h9 := hown3; simp only [List.append_nil, List.take_length, List.drop_length] at h9 ⊢; exact ownM_ h9 (Nat.le_succ _))
          clear hown3 ho6 hB13
          obtain ⟨fq, hsl, _, _⟩ := Sl.of_own (n := (addWatchL xs x).length) rfl ho7 HOK.out
          have hFL := fun h : addWatchC xs x = 0 => (show addWatchF xs x = addWatchL xs x by unfold addWatchF; rw [if_pos h])
          obtain ⟨A9, c9, rfl⟩ := ho7.form
          have hl9 : (addWatchL xs x).length ≤ 40 := by rw [addWatchL_length]; omega
          generalize addWatchL xs x = LL at *
          clear hEQ HL HOK hsrc2
          go_wp2_with fail
          refine (l26Ok_any _ LL fq _ hsl).mono ?_
          rintro e w9 ⟨rfl, hb9⟩
          have hB15 := hB14.trans (hb9.mono hB14.size)
          have ho8 := ho7.below hb9
          clear ho7 hsl hB14 hb9
          cases hz : watchsB LL
          · have HE := Lib.hid (addWatch_bad ((HC6.out false hz).trans rfl) (by decide))
            go_wp2
            go_ret2
            exact ⟨_, by rw [HE.out.1]; rfl, by rw [HE.out.2]; exact Own.nil _ _ _ _, hB15⟩
          have HC := Lib.hid ((HC6.out true hz).trans rfl : addWatchC xs x = 0)
          have HF := Lib.hid (hFL HC.out)
          clear hFL HC6 hz
          go_wp2
          go_ret2
          exact ⟨_, by rw [HC.out]; rfl, by rw [HF.out]; exact ho8, hB15⟩
    · have hkl : k = xs.length := by omega
      have HAT : Hid (atWatch xs x = k) := posF_is _ xs k hk (fun m h hm => decide_eq_true (HA.out m h hm)) (fun h => absurd h hlt)
      clear HA
      go_wp2
      have gd0 := cell_regrown d0
      have gd1 := cell_regrown d1
      refine wp_region_mix (C := fun w' => ∃ p : Regrown, w' = Go.Sort.grow (redrawn wr p.d) p.os) [true, true, true, true, true, true, true, true, true, true, true, true, true, true, true, true, true, true, true, true, true, true, true, true, true, true, true, true, true, true, true, true, true, true] (by kernel_rfl) (by kernel_rfl) (by kernel_rfl) (fun _ _ d _ _ h => by cases d <;> exact h) (regrown_of_below (Below.drew (Below.refl _ _))) ?_
      have hS0 : Below (wr.heap.size) wr wr.drew := Below.drew (Below.refl _ _)
      refine wpMix_pure (by kernel_rfl) (fun K hK => ?_); go_big_quiet_op; refine hK _ ?_; clear hK K
      refine wpMix_pure (by kernel_rfl) (fun K hK => ?_); go_big_quiet_op; refine hK _ ?_; clear hK K
      refine wpMix_pure (by kernel_rfl) (fun K hK => ?_); go_big_quiet_op; refine hK _ ?_; clear hK K
      refine wpMix_pure (by kernel_rfl) (fun K hK => ?_); go_big_quiet_op; refine hK _ ?_; clear hK K
      refine wpMix_pure (by kernel_rfl) (fun K hK => ?_); go_big_quiet_op; refine hK _ ?_; clear hK K
      refine wpMix_skip (by kernel_rfl) (fun K hK => ?_)
      simp only [Act.put, List.setIfInBounds_toArray, List.set_cons_zero, List.set_cons_succ]
      refine hK _ ?_; clear hK K
      refine wpMix_skip (by kernel_rfl) (fun K hK => ?_)
      simp only [Act.put, List.setIfInBounds_toArray, List.set_cons_zero, List.set_cons_succ]
      refine hK _ ?_; clear hK K
      refine wpMix_skip (by kernel_rfl) (fun K hK => ?_)
      simp only [Act.put, List.setIfInBounds_toArray, List.set_cons_zero, List.set_cons_succ]
      refine hK _ ?_; clear hK K
      refine wpMix_skip (by kernel_rfl) (fun K hK => ?_)
      simp only [Act.put, List.setIfInBounds_toArray, List.set_cons_zero, List.set_cons_succ]
      refine hK _ ?_; clear hK K
      refine wpMix_skip (by kernel_rfl) (fun K hK => ?_)
      simp only [Act.put, List.setIfInBounds_toArray, List.set_cons_zero, List.set_cons_succ]
      refine hK _ ?_; clear hK K
      refine wpMix_skip (by kernel_rfl) (fun K hK => ?_)
      simp only [Act.put, List.setIfInBounds_toArray, List.set_cons_zero, List.set_cons_succ]
      refine hK _ ?_; clear hK K
      refine wpMix_skip (by kernel_rfl) (fun K hK => ?_)
      simp only [Act.put, List.setIfInBounds_toArray, List.set_cons_zero, List.set_cons_succ]
      refine hK _ ?_; clear hK K
      refine wpMix_skip (by kernel_rfl) (fun K hK => ?_)
      simp only [Act.put, List.setIfInBounds_toArray, List.set_cons_zero, List.set_cons_succ]
      refine hK _ ?_; clear hK K
      refine wpMix_skip (by kernel_rfl) (fun K hK => ?_)
      simp only [Act.put, List.setIfInBounds_toArray, List.set_cons_zero, List.set_cons_succ]
      refine hK _ ?_; clear hK K
      refine wpMix_skip (by kernel_rfl) (fun K hK => ?_)
      simp only [Act.put, List.setIfInBounds_toArray, List.set_cons_zero, List.set_cons_succ]
      refine hK _ ?_; clear hK K
      refine wpMix_skip (by kernel_rfl) (fun K hK => ?_)
      simp only [Act.put, List.setIfInBounds_toArray, List.set_cons_zero, List.set_cons_succ]
      refine hK _ ?_; clear hK K
      refine wpMix_skip (by kernel_rfl) (fun K hK => ?_)
      simp only [Act.put, List.setIfInBounds_toArray, List.set_cons_zero, List.set_cons_succ]
      refine hK _ ?_; clear hK K
      refine wpMix_skip (by kernel_rfl) (fun K hK => ?_)
      simp only [Act.put, List.setIfInBounds_toArray, List.set_cons_zero, List.set_cons_succ]
      refine hK _ ?_; clear hK K
      refine wpMix_skip (by kernel_rfl) (fun K hK => ?_)
      simp only [Act.put, List.setIfInBounds_toArray, List.set_cons_zero, List.set_cons_succ]
      refine hK _ ?_; clear hK K
      refine wpMix_skip (by kernel_rfl) (fun K hK => ?_)
      simp only [Act.put, List.setIfInBounds_toArray, List.set_cons_zero, List.set_cons_succ]
      refine hK _ ?_; clear hK K
      refine wpMix_skip (by kernel_rfl) (fun K hK => ?_)
      simp only [Act.put, List.setIfInBounds_toArray, List.set_cons_zero, List.set_cons_succ]
      refine hK _ ?_; clear hK K
      refine wpMix_skip (by kernel_rfl) (fun K hK => ?_)
      simp only [Act.put, List.setIfInBounds_toArray, List.set_cons_zero, List.set_cons_succ]
      refine hK _ ?_; clear hK K
      refine wpMix_skip (by kernel_rfl) (fun K hK => ?_)
      simp only [Act.put, List.setIfInBounds_toArray, List.set_cons_zero, List.set_cons_succ]
      refine hK _ ?_; clear hK K
      refine wpMix_skip (by kernel_rfl) (fun K hK => ?_)
      simp only [Act.put, List.setIfInBounds_toArray, List.set_cons_zero, List.set_cons_succ]
      refine hK _ ?_; clear hK K
      refine wpMix_skip (by kernel_rfl) (fun K hK => ?_)
      simp only [Act.put, List.setIfInBounds_toArray, List.set_cons_zero, List.set_cons_succ]
      refine hK _ ?_; clear hK K
      refine wpMix_skip (by kernel_rfl) (fun K hK => ?_)
      simp only [Act.put, List.setIfInBounds_toArray, List.set_cons_zero, List.set_cons_succ]
      refine hK _ ?_; clear hK K
      refine wpMix_skip (by kernel_rfl) (fun K hK => ?_)
      simp only [Act.put, List.setIfInBounds_toArray, List.set_cons_zero, List.set_cons_succ]
      refine hK _ ?_; clear hK K
      refine wpMix_skip (by kernel_rfl) (fun K hK => ?_)
      simp only [Act.put, List.setIfInBounds_toArray, List.set_cons_zero, List.set_cons_succ]
      refine hK _ ?_; clear hK K
      refine wpMix_skip (by kernel_rfl) (fun K hK => ?_)
      simp only [Act.put, List.setIfInBounds_toArray, List.set_cons_zero, List.set_cons_succ]
      refine hK _ ?_; clear hK K
      refine wpMix_skip (by kernel_rfl) (fun K hK => ?_)
      simp only [Act.put, List.setIfInBounds_toArray, List.set_cons_zero, List.set_cons_succ]
      refine hK _ ?_; clear hK K
      refine wpMix_skip (by kernel_rfl) (fun K hK => ?_)
      simp only [Act.put, List.setIfInBounds_toArray, List.set_cons_zero, List.set_cons_succ]
      refine hK _ ?_; clear hK K
      refine wpMix_skip (by kernel_rfl) (fun K hK => ?_)
      simp only [Act.put, List.setIfInBounds_toArray, List.set_cons_zero, List.set_cons_succ]
      refine hK _ ?_; clear hK K
      refine wpMix_skip (by kernel_rfl) (fun K hK => ?_)
      simp only [Act.put, List.setIfInBounds_toArray, List.set_cons_zero, List.set_cons_succ]
      refine hK _ ?_; clear hK K
      refine wpMix_pure (by kernel_rfl) (fun K hK => ?_); go_big_quiet_op; refine hK _ ?_; clear hK K
      refine wpMix_nil ?_
      have hS9 := hS0
      have hb8 := hb.trans (hS9.mono hb.size)
      have hB8 := hB2.trans (hb8.mono hB2.size)
      have hx8 := hx2.below' hb8
      have hp8 := hp2.below' hb8
      clear hb8 hb hS9 hS0 d0 d1 d2 d3 gd0 gd1 hB2 hx2 hp2 hkl
      generalize wr.drew = W8 at *
      have HL : Hid (addWatchL xs x = xs.take k ++ x :: xs.drop k) := by show _ = _; unfold addWatchL; rw [HAT.out]
      clear HAT
      have hB10 : Below W8.heap.size W8 (W8.alloc (.cells #[] 26)) := (Below.refl _ _).alloc (Nat.le_refl _) _
      have hx9 := hx8.below' hB10
      have hp9 := hp8.below' hB10
      have hB11 := hB8.trans (hB10.mono hB8.size)
      have hsz8 : w.heap.size + 1 ≤ W8.heap.size := hp8.lt
      have hs11 : w.heap.size + 1 ≤ (W8.alloc (.cells #[] 26)).heap.size := by simp; omega
      have ho5 := Own.lit0m fWatch (w := W8) (base := w.heap.size + 1) hsz8 (e := 26)
      have hsrc := hx9.src_take (k := k) (c := cap) (by omega)
      go_wp2_with (at_builtin; refine wpList_append_src (E := fWatch) rfl _ _ 24 rfl (w.heap.size + 1) 26 i0 (.agg #[.string ⟨#[]⟩, .int .i64 0, .int .i64 0, .bool false]) 40 Tryz.underlying24 hi hz0 hz1 hz2 rfl (.slice (some ⟨W8.heap.size, 0, none⟩) 0 0) [] rfl ho5 _ (xs.take k) rfl hsrc (by simp <;> omega) (by decide) hs11 ?_)
      intro v' u hown hbu
      try rw [List.nil_append] at hown
      have hB12 := hB11.trans (hbu.mono (Nat.le_succ _))
      have hx10 := hx9.below hbu (fun b hb => by have := hfp b hb; omega)
      have hp10 := hp9.below hbu (Nat.lt_succ_self _)
      have hlk : (xs.take k).length = k := by rw [List.length_take]; omega
      have hown1 : u.ownsRow (w.heap.size + 1) 26 4 v' k ((xs.take k).flatMap fWatch.enc) := by
        have h : u.ownsRow (w.heap.size + 1) 26 4 v' (xs.take k).length ((xs.take k).flatMap fWatch.enc) := hown
        rw [hlk] at h; exact h
      have hs12 : w.heap.size + 1 ≤ u.heap.size := hp10.lt
      obtain ⟨d0, d1, d2, d3⟩ := id hp10
      clear hown hx9 hp9 hx8 hp8 hsrc hbu
      go_wp2_with (at_builtin; refine wpList_append_one rfl _ _ 24 rfl (w.heap.size + 1) 26 i0 (.agg #[.string ⟨#[]⟩, .int .i64 0, .int .i64 0, .bool false]) 4 40 Tryz.underlying24 hi hz0 hz1 hz2 rfl (by decide) v' k _ rfl hown1 [.string x.person, .int .i64 x.start, .int .i64 x.hours, .bool x.onCall] rfl (by intro u hu; simp only [List.mem_cons, List.not_mem_nil, or_false] at hu; rcases hu with rfl | rfl | rfl | rfl <;> rfl) rfl (by omega) (by decide) hs12 ?_)
      intro v2 u2 hown2 hbu2 _ _
      have hB13 := hB12.trans (hbu2.mono (Nat.le_succ _))
      have hx11 := hx10.below hbu2 (fun b hb => by have := hfp b hb; omega)
      have hp11 := hp10.below hbu2 (Nat.lt_succ_self _)
      have ho6 : Own fWatch u2 (w.heap.size + 1) 26 v2 (xs.take k ++ [x]) := Own.push x (by rw [hlk]) hown2
      have hs13 : w.heap.size + 1 ≤ u2.heap.size := hp11.lt
      clear hown2 hown1 hx10 hp10 hbu2 d0 d1 d2 d3
      obtain rfl : k = xs.length := by omega
      have hD0 : xs.drop xs.length = [] := List.drop_length
      rcases Nat.eq_or_lt_of_le hlen with hce | hcl
      · subst hce
        have hsrc2 : ∀ A, Src fWatch u2 (.slice A 0 0) ([] : List DWatch) := fun A => Src.empty
        cases A
        all_goals
          go_wp2_with (at_builtin; refine wpList_append_src (E := fWatch) rfl _ _ 24 rfl (w.heap.size + 1) 26 i0 (.agg #[.string ⟨#[]⟩, .int .i64 0, .int .i64 0, .bool false]) 40 Tryz.underlying24 hi hz0 hz1 hz2 rfl v2 (xs.take xs.length ++ [x]) rfl ho6 _ [] rfl (hsrc2 _) (by simp <;> omega) (by decide) hs13 ?_)
          intro v3 u3 hown3 hbu3
          have hB14 := hB13.trans (hbu3.mono (Nat.le_succ _))
          have hEQ : xs.take xs.length ++ [x] ++ xs.drop xs.length = xs.take xs.length ++ x :: xs.drop xs.length := by simp
          have ho7 : Own fWatch u3 w.heap.size 26 v3 (addWatchL xs x) := by rw [HL.out]; first | exact ownM_ hown3 (Nat.le_succ _) | (rw [← hEQ]; exact ownM_ hown3 (Nat.le_succ _)) | (have h9 := hown3; simp only [List.append_nil, List.take_length, List.drop_length] at h9 ⊢; exact ownM_ h9 (Nat.le_succ _))
          clear hown3 ho6 hB13
          obtain ⟨fq, hsl, _, _⟩ := Sl.of_own (n := (addWatchL xs x).length) rfl ho7 HOK.out
          have hFL := fun h : addWatchC xs x = 0 => (show addWatchF xs x = addWatchL xs x by unfold addWatchF; rw [if_pos h])
          obtain ⟨A9, c9, rfl⟩ := ho7.form
          have hl9 : (addWatchL xs x).length ≤ 40 := by rw [addWatchL_length]; omega
          generalize addWatchL xs x = LL at *
          clear hEQ HL HOK hsrc2
          go_wp2_with fail
          refine (l26Ok_any _ LL fq _ hsl).mono ?_
          rintro e w9 ⟨rfl, hb9⟩
          have hB15 := hB14.trans (hb9.mono hB14.size)
          have ho8 := ho7.below hb9
          clear ho7 hsl hB14 hb9
          cases hz : watchsB LL
          · have HE := Lib.hid (addWatch_bad ((HC6.out false hz).trans rfl) (by decide))
            go_wp2
            go_ret2
            exact ⟨_, by rw [HE.out.1]; rfl, by rw [HE.out.2]; exact Own.nil _ _ _ _, hB15⟩
          have HC := Lib.hid ((HC6.out true hz).trans rfl : addWatchC xs x = 0)
          have HF := Lib.hid (hFL HC.out)
          clear hFL HC6 hz
          go_wp2
          go_ret2
          exact ⟨_, by rw [HC.out]; rfl, by rw [HF.out]; exact ho8, hB15⟩
      · have hsrc2 : ∀ A c, Src fWatch u2 (.slice A 0 c) ([] : List DWatch) := fun A c => Src.empty
        cases A
        all_goals
          go_wp2_with (at_builtin; refine wpList_append_src (E := fWatch) rfl _ _ 24 rfl (w.heap.size + 1) 26 i0 (.agg #[.string ⟨#[]⟩, .int .i64 0, .int .i64 0, .bool false]) 40 Tryz.underlying24 hi hz0 hz1 hz2 rfl v2 (xs.take xs.length ++ [x]) rfl ho6 _ [] rfl (hsrc2 _ _) (by simp <;> omega) (by decide) hs13 ?_)
          intro v3 u3 hown3 hbu3
          have hB14 := hB13.trans (hbu3.mono (Nat.le_succ _))
          have hEQ : xs.take xs.length ++ [x] ++ xs.drop xs.length = xs.take xs.length ++ x :: xs.drop xs.length := by simp
          have ho7 : Own fWatch u3 w.heap.size 26 v3 (addWatchL xs x) := by rw [HL.out]; first | exact ownM_ hown3 (Nat.le_succ _) | (rw [← hEQ]; exact ownM_ hown3 (Nat.le_succ _)) | (have h9 := hown3; simp only [List.append_nil, List.take_length, List.drop_length] at h9 ⊢; exact ownM_ h9 (Nat.le_succ _))
          clear hown3 ho6 hB13
          obtain ⟨fq, hsl, _, _⟩ := Sl.of_own (n := (addWatchL xs x).length) rfl ho7 HOK.out
          have hFL := fun h : addWatchC xs x = 0 => (show addWatchF xs x = addWatchL xs x by unfold addWatchF; rw [if_pos h])
          obtain ⟨A9, c9, rfl⟩ := ho7.form
          have hl9 : (addWatchL xs x).length ≤ 40 := by rw [addWatchL_length]; omega
          generalize addWatchL xs x = LL at *
          clear hEQ HL HOK hsrc2
          go_wp2_with fail
          refine (l26Ok_any _ LL fq _ hsl).mono ?_
          rintro e w9 ⟨rfl, hb9⟩
          have hB15 := hB14.trans (hb9.mono hB14.size)
          have ho8 := ho7.below hb9
          clear ho7 hsl hB14 hb9
          cases hz : watchsB LL
          · have HE := Lib.hid (addWatch_bad ((HC6.out false hz).trans rfl) (by decide))
            go_wp2
            go_ret2
            exact ⟨_, by rw [HE.out.1]; rfl, by rw [HE.out.2]; exact Own.nil _ _ _ _, hB15⟩
          have HC := Lib.hid ((HC6.out true hz).trans rfl : addWatchC xs x = 0)
          have HF := Lib.hid (hFL HC.out)
          clear hFL HC6 hz
          go_wp2
          go_ret2
          exact ⟨_, by rw [HC.out]; rfl, by rw [HF.out]; exact ho8, hB15⟩

end Go.Proofs.YtmlconbekkdahaaGreatDoor

namespace Go.Proofs.YtmlconbekkdahaaGreatDoor
open Go.RowKit
set_option linter.unusedVariables false

theorem flat_set {α : Type} {E : Flat α} : ∀ (L : List α) (k j : Nat) (y : α) (u : Value) (hk : k < L.length), j < E.n → E.enc y = (E.enc L[k]).set j u → (L.flatMap E.enc).set (k * E.n + j) u = (L.set k y).flatMap E.enc
  | [], k, j, y, u, hk, _, _ => absurd hk (Nat.not_lt_zero _)
  | x :: L, 0, j, y, u, hk, hj, hu => by
    have hl := E.len x
    rw [List.getElem_cons_zero] at hu
    rw [Nat.zero_mul, Nat.zero_add, List.flatMap_cons, List.set_cons_zero, List.flatMap_cons, List.set_append_left _ _ (by omega), hu]
  | x :: L, k + 1, j, y, u, hk, hj, hu => by
    have hl := E.len x
    have ih := flat_set L k j y u (by simpa using hk) hj (by simpa using hu)
    have e : (k + 1) * E.n + j - (E.enc x).length = k * E.n + j := by rw [hl, Nat.succ_mul]; omega
    have h2 : (E.enc x).length ≤ (k + 1) * E.n + j := by rw [hl, Nat.succ_mul]; omega
    rw [List.flatMap_cons, List.set_cons_succ, List.flatMap_cons, List.set_append_right _ _ h2, e, ih]
theorem Own.len_eq {α : Type} {E : Flat α} {w : World} {base : Nat} {e : TypeId} {A : Option Addr} {n cap : Nat} {L : List α} (h : Own E w base e (.slice A n cap) L) (hL : L ≠ []) : n = L.length := by
  rcases h.2 with ⟨hv, h0⟩ | ⟨g', cap', cur, hv, _⟩
  · injection hv with _ h1 _
    first | omega | exact absurd (List.length_eq_zero_iff.1 (by first | exact h0.1 | exact h0 | omega)) hL
  · injection hv
theorem Own.setF {α : Type} {E : Flat α} {w : World} {base : Nat} {e : TypeId} {g n cap : Nat} {L : List α} (h : Own E w base e (.slice (some ⟨g, 0, none⟩) n cap) L) {k : Nat} (hk : k < L.length) (j : Nat) (hj : j < E.n) (y : α) (u : Value) (hu : E.enc y = (E.enc L[k]).set j u) :
    Own E (w.setCell ⟨g, k * E.n + j, none⟩ u) base e (.slice (some ⟨g, 0, none⟩) n cap) (L.set k y) := by
  have hn : n = L.length := by
    rcases h.2 with ⟨hv, _⟩ | ⟨g', cap', cur, hv, _⟩
    · cases hv
    · injection hv
  have h' : w.ownsRow base e E.n (.slice (some ⟨g, 0, none⟩) L.length cap) L.length (L.flatMap E.enc) := by rw [hn] at h; exact h
  have h2 := (h'.stored (k * E.n + j) u).1
  rw [flat_set L k j y u hk hj hu] at h2
  show World.ownsRow _ base e E.n _ (L.set k y).length _
  rw [List.length_set, hn]
  exact h2
theorem Own.cellF {α : Type} {E : Flat α} {w : World} {base : Nat} {e : TypeId} {g n cap : Nat} {L : List α} (h : Own E w base e (.slice (some ⟨g, 0, none⟩) n cap) L) {k : Nat} (hk : k < L.length) {j : Nat} (hj : j < E.n) {u : Value} (hu : (E.enc L[k])[j]? = some u) : w.cell? ⟨g, k * E.n + j, none⟩ = some u := by
  have hn : n = L.length := by
    rcases h.2 with ⟨hv, _⟩ | ⟨g', cap', cur, hv, _⟩
    · cases hv
    · injection hv
  have h' : w.ownsRow base e E.n (.slice (some ⟨g, 0, none⟩) L.length cap) L.length (L.flatMap E.enc) := by rw [hn] at h; exact h
  have hlt : k * E.n + j < L.length * E.n := by
    calc k * E.n + j < k * E.n + E.n := by omega
      _ = (k + 1) * E.n := by rw [Nat.succ_mul]
      _ ≤ L.length * E.n := Nat.mul_le_mul_right _ hk
  rw [h'.cellAt (k * E.n + j) hlt]
  have := flat_get E.enc E.n L (fun x _ => E.len x) k hk j hj
  rw [this]; exact hu
theorem Own.frozenF {α : Type} {E : Flat α} {w : World} {base : Nat} {e : TypeId} {g n cap : Nat} {L : List α} (h : Own E w base e (.slice (some ⟨g, 0, none⟩) n cap) L) (k : Nat) : w.frozen? ⟨g, k, none⟩ = false := by
  have hn : n = L.length := by
    rcases h.2 with ⟨hv, _⟩ | ⟨g', cap', cur, hv, _⟩
    · cases hv
    · injection hv
  have h' : w.ownsRow base e E.n (.slice (some ⟨g, 0, none⟩) L.length cap) L.length (L.flatMap E.enc) := by rw [hn] at h; exact h
  exact h'.frozenAt k
end Go.Proofs.YtmlconbekkdahaaGreatDoor

namespace Go.Proofs.YtmlconbekkdahaaGreatDoor
open Go.RowKit
section
variable {P : Program} {ops : Array Oper} {Q : Exit → Act → World → Prop} {md : Region.Mode} {C : World → Prop} {t : Nat}

/-- Whichever comes up: behind each but number 't' the class holds. -/
def wpSink (P : Program) (md : Region.Mode) (ops : Array Oper) (Q : Exit → Act → World → Prop) (C : World → Prop) (t : Nat) : Nat → Array Bool → Act → World → Prop
  | 0, L, a, w => Region.ready md ops L = [] ∧ Q .normal a w
  | n + 1, L, a, w => (Region.ready md ops L = [] → Q .normal a w) ∧ ∀ i, i ∈ Region.ready md ops L → wpOp P ops Q i (fun b v => (i ≠ t → C v) ∧ wpSink P md ops Q C t n (L.setIfInBounds i true) b v) a w
theorem any_of_sink : ∀ (n : Nat) (L : Array Bool) (a : Act) (w : World), wpSink P md ops Q C t n L a w → wpAny P md ops Q n L a w
  | 0, _, _, _, h => h
  | n + 1, _, _, _, h => And.intro h.1 fun i hi => wpOp_mono (fun b v g => any_of_sink n _ b v g.2) (h.2 i hi)
/-- Does number 't' wait for number 'i'? -/
def waitsOn (md : Region.Mode) (ops : Array Oper) (t i : Nat) : Bool := match ops[t]? with | some o => o.after.any (fun e => Region.binds md e && e.on == i) | none => false
theorem waitsOn_not {i : Nat} {L : Array Bool} (hw : waitsOn md ops t i = true) (hi : L.getD i true = false) : t ∉ Region.ready md ops L := by
  intro ht
  obtain ⟨_, o, ho, hall⟩ := mem_ready.1 ht
  unfold waitsOn at hw
  rw [ho] at hw
  simp only at hw
  obtain ⟨e, he, hb⟩ := Array.any_eq_true'.1 hw
  simp only [Bool.and_eq_true, beq_iff_eq] at hb
  have h1 := hall e he hb.1
  rw [hb.2] at h1
  rcases Nat.lt_or_ge i L.size with h' | h'
  · simp [h'] at hi h1; rw [hi] at h1; cases h1
  · simp [Array.getElem?_eq_none h'] at h1
theorem sink_first {i : Nat} {o : Oper} {v : Value} (ho : ops[i]? = some o) (hs : Region.noSelect ops = true) (hit : i ≠ t) (hwt : waitsOn md ops t i = true)
    (hQ : ∀ c a w, Q (.panic c) (a.put o.dst v) w → Q (.panic c) a w) : ∀ (n : Nat) (L : Array Bool) (a : Act) (w : World),
      (∀ j p, ops[j]? = some p → j ≠ i → L.getD j true = false → (∀ e ∈ p.after, Region.binds md e = true → e.on ≠ i) → o.apart ops p = true) →
      i ∈ Region.ready md ops L → YieldsIf P ops C o v a → C w → wpSink P md ops Q C t n (L.setIfInBounds i true) (a.put o.dst v) w → wpSink P md ops Q C t (n + 1) L a w := by
  intro n
  induction n with
  | zero =>
    intro L a w _ hr hy hC H
    constructor
    · intro h; rw [h] at hr; exact absurd hr List.not_mem_nil
    · intro j hj
      rcases Decidable.em (j = i) with rfl | e
      · exact hy.wpOp ho hC ⟨fun _ => hC, H⟩
      · have h2 := ready_mono hj e
        rw [H.1] at h2
        exact absurd h2 List.not_mem_nil
  | succ n ih =>
    intro L a w hf hr hy hC H
    constructor
    · intro h; rw [h] at hr; exact absurd hr List.not_mem_nil
    · intro j hj
      rcases Decidable.em (j = i) with rfl | e
      · exact hy.wpOp ho hC ⟨fun _ => hC, H⟩
      · have hun := (mem_ready.1 hr).1
        have hjt : j ≠ t := fun h => waitsOn_not hwt hun (h ▸ hj)
        obtain ⟨hju, p, hp, hall⟩ := mem_ready.1 hj
        have hno : ∀ e ∈ p.after, Region.binds md e = true → e.on ≠ i := fun e he hb h => by
          have h1 := hall e he hb
          rw [h] at h1
          rcases Nat.lt_or_ge i L.size with h' | h'
          · simp [h'] at hun h1; rw [hun] at h1; cases h1
          · simp [Array.getElem?_eq_none h'] at h1
        have h2 := wpOp_putIf hp (hf j p hp e hju hno) (fun cs b => Region.noSelect_spec hs i o cs b ho) (fun cs b => Region.noSelect_spec hs j p cs b hp) hQ hy (H.2 j (ready_mono hj e))
        refine wpOp_mono (fun b u g => ?_) h2
        have hCu := g.2.1 hjt
        refine ⟨fun _ => hCu, ih _ b u (fun k q hk hki hku hkn => ?_) (ready_mono hr (Ne.symm e)) g.1 hCu ?_⟩
        · refine hf k q hk hki ?_ hkn
          rcases Decidable.em (j = k) with rfl | hjk
          · exact hju
          · rw [getD_set_ne true hjk] at hku; exact hku
        · rw [Array.setIfInBounds_comm _ _ e]
          exact g.2.2

def wpMixS (P : Program) (ops : Array Oper) (Q : Exit → Act → World → Prop) (C : World → Prop) : List Bool → List Oper → Act → World → Prop
  | _, [], a, w => Q .normal a w
  | [], _ :: _, _, _ => False
  | true :: ks, o :: l, a, w => if Region.wanted o (yielded ops a.tmps) then o.quiet P a C (fun a' => wpMixS P ops Q C ks l a' w) else wpMixS P ops Q C ks l (a.put o.dst undef) w
  | false :: ks, o :: l, a, w => if Region.wanted o (yielded ops a.tmps) then o.wp P a w (fun a' w' => (l ≠ [] → C w') ∧ wpMixS P ops Q C ks l a' w') Q else wpMixS P ops Q C ks l (a.put o.dst undef) w
def mixSB (md : Region.Mode) (ops : Array Oper) (t : Nat) : List Nat → List Bool → Array Bool → Bool
  | [], _, L => (Region.ready md ops L).isEmpty
  | i :: is, true :: ks, L => (Region.ready md ops L).contains i && Region.free md ops L i && ((ops[i]?).map valueOnly).getD false && !(i == t) && waitsOn md ops t i && mixSB md ops t is ks (L.setIfInBounds i true)
  | i :: is, false :: ks, L => (Region.ready md ops L == [i]) && (is.isEmpty == (i == t)) && mixSB md ops t is ks (L.setIfInBounds i true)
  | _ :: _, [], _ => false
theorem sink_of_mix (hs : Region.noSelect ops = true) (hQ : ∀ (c : _) (a : Act) (d : Option Tmp) (v : Value) (w : World), Q (.panic c) (a.put d v) w → Q (.panic c) a w) :
    ∀ (is : List Nat) (ks : List Bool) (l : List Oper) (L : Array Bool) (a : Act) (w : World), (∀ j : Nat, l[j]? = (is[j]?).bind (fun i => ops[i]?)) → l.length = is.length →
      mixSB md ops t is ks L = true → (l ≠ [] → C w) → wpMixS P ops Q C ks l a w → wpSink P md ops Q C t is.length L a w := by
  intro is
  induction is with
  | nil =>
    intro ks l L a w _ hn hB _ h
    obtain rfl : l = [] := List.eq_nil_of_length_eq_zero hn
    have h' : Q .normal a w := by cases ks <;> exact h
    exact ⟨by simpa [mixSB] using hB, h'⟩
  | cons i is ih =>
    intro ks l L a w hl hn hB hC h
    cases l with
    | nil => simp at hn
    | cons o l =>
      have hC := hC (by simp)
      have ho : ops[i]? = some o := by simpa using (hl 0).symm
      have hl' : ∀ j : Nat, l[j]? = (is[j]?).bind (fun i => ops[i]?) := fun j => by simpa using hl (j + 1)
      have hn' : l.length = is.length := by simpa using hn
      cases ks with
      | nil => simp [mixSB] at hB
      | cons k ks =>
        cases k with
        | true =>
          simp only [mixSB, Bool.and_eq_true, ho, Option.map_some, Option.getD_some, Bool.not_eq_true', beq_eq_false_iff_ne] at hB
          obtain ⟨⟨⟨⟨⟨hr, hf⟩, hv⟩, hit⟩, hwt⟩, hB'⟩ := hB
          simp only [wpMixS] at h
          have hr' : i ∈ Region.ready md ops L := by simpa using hr
          by_cases hw : Region.wanted o (yielded ops a.tmps) = true
          · rw [if_pos hw] at h
            obtain ⟨v, h1, h2⟩ := yieldsIf_of_quiet hv h
            exact sink_first ho hs hit hwt (fun c a w => hQ c a _ _ w) _ L a w (Region.free_spec ho hf) hr' (.inl ⟨hw, h1⟩) hC (ih ks l _ _ w hl' hn' hB' (fun _ => hC) h2)
          · rw [if_neg hw] at h
            exact sink_first ho hs hit hwt (fun c a w => hQ c a _ _ w) _ L a w (Region.free_spec ho hf) hr' (.inr ⟨by simpa using hw, rfl⟩) hC (ih ks l _ _ w hl' hn' hB' (fun _ => hC) h)
        | false =>
          simp only [mixSB, Bool.and_eq_true, beq_iff_eq] at hB
          obtain ⟨⟨hr, he⟩, hB'⟩ := hB
          simp only [wpMixS] at h
          have hlt : i ≠ t → l ≠ [] := fun hne hl0 => by
            subst hl0
            have : is = [] := List.eq_nil_of_length_eq_zero hn'.symm
            rw [this] at he
            exact hne (by simpa using he.symm)
          refine ⟨fun h0 => by rw [h0] at hr; simp at hr, fun j hj => ?_⟩
          rw [hr, List.mem_singleton] at hj
          subst hj
          unfold wpOp
          simp only [ho]
          by_cases hw : Region.wanted o (yielded ops a.tmps) = true
          · rw [if_pos hw] at h ⊢
            exact .inl (Oper.wp_mono (fun a' w' hh => ⟨fun hne => hh.1 (hlt hne), ih ks l _ a' w' hl' hn' hB' hh.1 hh.2⟩) h)
          · rw [if_neg hw] at h ⊢
            exact ⟨fun _ => hC, ih ks l _ _ w hl' hn' hB' (fun _ => hC) h⟩
structure MixS (P : Program) (ops : Array Oper) (Q : Exit → Act → World → Prop) (C : World → Prop) (ks : List Bool) (l : List Oper) (a : Act) (w : World) : Prop where
  out : wpMixS P ops Q C ks l a w
theorem wp_region_sink {id : Nat} {l : List Oper} {a : Act} {w : World} (is : List Nat) (ks : List Bool) (t : Nat) (hm : P.follows .mixedOrders = true) (hs : Region.noSelect l.toArray = true)
    (hB : (is.all (fun i => decide (i < l.length)) && decide (is.length = l.length) && mixSB .any l.toArray t is ks (Array.replicate l.length false)) = true)
    (hQ : ∀ (c : _) (a : Act) (d : Option Tmp) (v : Value) (w : World), Q (.panic c) (a.put d v) w → Q (.panic c) a w) (hC : C w.drew) (h : MixS P l.toArray Q C ks (is.map fun i => l.getD i default) a w.drew) : (Code.region id l.toArray true).wp P Q a w := by
  simp only [Bool.and_eq_true, decide_eq_true_eq, List.all_eq_true] at hB
  obtain ⟨⟨h1, h2⟩, h3⟩ := hB
  refine wp_region_any hm (any_of_sink (C := C) (t := t) _ _ _ _ ?_)
  have := sink_of_mix (md := .any) hs hQ is ks (is.map fun i => l.getD i default) (Array.replicate l.length false) a w.drew (fun j => by
    rw [List.getElem?_map]
    cases hj : is[j]? with
    | none => rfl
    | some i =>
      have hi := h1 i (List.mem_of_getElem? hj)
      simp [hi, List.getD_eq_getElem?_getD]) (by simp) h3 (fun _ => hC) h.out
  rw [h2] at this
  simpa using this
theorem wpMixS_pure {ks : List Bool} {o : Oper} {l : List Oper} {a : Act} {w : World} (hw : Region.wanted o (yielded ops a.tmps) = true)
    (h : ∀ K : Act → Prop, (∀ a', MixS P ops Q C ks l a' w → K a') → o.quiet P a C K) : MixS P ops Q C (true :: ks) (o :: l) a w := by
  refine ⟨?_⟩
  simp only [wpMixS]; rw [if_pos hw]; exact h _ fun _ h => h.out
theorem wpMixS_skip {k : Bool} {ks : List Bool} {o : Oper} {l : List Oper} {a : Act} {w : World} (hw : Region.wanted o (yielded ops a.tmps) = false)
    (h : ∀ K : Act → Prop, (∀ a', MixS P ops Q C ks l a' w → K a') → K (a.put o.dst undef)) : MixS P ops Q C (k :: ks) (o :: l) a w := by
  have h' : wpMixS P ops Q C ks l (a.put o.dst undef) w := h _ fun _ h => h.out
  refine ⟨?_⟩
  cases k <;> (simp only [wpMixS]; rw [if_neg (by rw [hw]; exact Bool.false_ne_true)]; exact h')
theorem wpMixS_act {ks : List Bool} {o : Oper} {l : List Oper} {a : Act} {w : World} (hw : Region.wanted o (yielded ops a.tmps) = true)
    (h : ∀ K : Act → World → Prop, (∀ a' w', C w' → MixS P ops Q C ks l a' w' → K a' w') → o.wp P a w K Q) : MixS P ops Q C (false :: ks) (o :: l) a w := by
  refine ⟨?_⟩
  simp only [wpMixS]; rw [if_pos hw]; exact h _ fun _ _ hc h => ⟨fun _ => hc, h.out⟩
theorem wpMixS_last {ks : List Bool} {o : Oper} {a : Act} {w : World} (hw : Region.wanted o (yielded ops a.tmps) = true)
    (h : ∀ K : Act → World → Prop, (∀ a' w', Q .normal a' w' → K a' w') → o.wp P a w K Q) : MixS P ops Q C (false :: ks) [o] a w := by
  refine ⟨?_⟩
  simp only [wpMixS]; rw [if_pos hw]; exact h _ fun _ _ hq => ⟨fun h0 => absurd rfl h0, by cases ks <;> exact hq⟩
theorem mixS_world {ks : List Bool} {l : List Oper} {a : Act} {w : World} (X : World → Prop) (hX : X w) (h : ∀ N, X N → MixS P ops Q C ks l a N) : MixS P ops Q C ks l a w := h w hX
end
end Go.Proofs.YtmlconbekkdahaaGreatDoor

namespace Go.Proofs.YtmlconbekkdahaaGreatDoor
open Go.RowKit
set_option linter.unusedVariables false

theorem manyWatch (k : Nat) (h : k ≤ 100) : SmWatch ⟨⟨#[105, 100, 97]⟩, 10 * (k : Int), 5, false⟩ := by
  unfold SmWatch; simp only
  refine ⟨by decide, by omega, by omega⟩
set_option maxRecDepth 100000 in
set_option maxHeartbeats 8000000 in
theorem l26DrawO_any (n g : Nat) (w : World) (hs : SrcD n g w) (hn : n ≤ 999999970000) :
    Calls Tryz.prog 18 #[.pointer (some ⟨g, 0, none⟩)] w fun e w' => ∃ (v : Value) (xs : List DWatch), e = .returned v ∧ Own fWatch w' w.heap.size 26 v xs ∧ (∀ x ∈ xs, SmWatch x) ∧ xs.length ≤ 70 ∧ SrcD (n + 2000) g w' ∧ Only [g] w w' := by
  have hg := hs.lt
  obtain ⟨i0, hi, hz0, hz1, hz2⟩ := info_parts infoWatchK
  have hB0 : Below w.heap.size w (w.alloc (.cells #[] 26)) := (Below.refl _ _).alloc (Nat.le_refl _) _
  go_enter Tryz.func18, Tryz.ntmps18
  go_wp2_with fail
  refine (pick_any _ g 9 _ (hs.below hB0) (by omega) (by omega)).mono ?_
  rintro e w2 ⟨q, rfl, ⟨q0, q1, _⟩, hs2, ho2⟩
  replace q1 := q1 (by omega)
  obtain ⟨j0, rfl⟩ : ∃ j : Nat, q = j := ⟨q.toNat, by omega⟩
  have hown : Own fWatch w2 w.heap.size 26 (.slice (some ⟨w.heap.size, 0, none⟩) 0 0) [] := (Own.lit0 fWatch w _).only ho2 (fun b hb => by simp at hb; subst hb; exact hg)
  have hO1 : Only [g] w w2 := Only.later hB0 ho2
  clear hB0 ho2 hs
  go_wp2
  go_loopw [3, 4] (fun v kv wr => ∃ (j : Nat) (L : List DWatch), kv = .int .i64 j ∧ j + L.length ≤ 8 ∧ j ≤ 8 ∧ Own fWatch wr w.heap.size 26 v L ∧ (∀ x ∈ L, SmWatch x) ∧ SrcD (n + 4 + 30 * (8 - j)) g wr ∧ Only [g] w wr) (fun _ kv _ => (intOf kv).toNat)
  case atStart => exact ⟨j0, [], rfl, by rw [List.length_nil]; omega, by omega, hown, by simp, hs2.mono (by omega), hO1⟩
  case round =>
    clear hown hs2 hO1 q0 q1
    obtain ⟨j, L, rfl, hj, hj2, ho, hsm, hsr, hor⟩ := hrel
    cases j with
    | zero =>
      go_wp2_with fail
      refine (pick_any _ g 20 _ hsr (by omega) (by omega)).mono ?_
      rintro e w3 ⟨q, rfl, ⟨q0, q1, _⟩, hs3, ho3⟩
      replace q1 := q1 (by omega)
      replace hor := hor.trans ho3
      replace ho := ho.only ho3 (fun b hb => by simp at hb; subst hb; exact hg)
      clear ho3 hsr
      by_cases hq0 : q = 0
      · subst hq0
        go_wp2_with fail
        refine (l26DrawOne_any _ g _ hs3 (by omega)).mono ?_
        rintro e w4 ⟨x0, rfl, hx0, hs4, ho4⟩
        go_wp2_with fail
        refine (l26Bend_any _ g x0 _ hs4 (by omega) hx0).mono ?_
        rintro e w5 ⟨x, rfl, hx, hs5, ho5⟩
        have hor2 := hor.trans (ho4.trans ho5)
        have hsz2 := hor2.size
        have hoW : w5.ownsRow w.heap.size 26 4 u3 L.length (L.flatMap fWatch.enc) := (ho.only ho4 (fun b hb => by simp at hb; subst hb; exact hg)).only ho5 (fun b hb => by simp at hb; subst hb; exact hg)
        clear ho hor ho4 ho5 hs4
        unfold agWatch
        go_wp2_with (at_builtin; refine wpList_append_one rfl _ _ 24 rfl w.heap.size 26 i0 (.agg #[.string ⟨#[]⟩, .int .i64 0, .int .i64 0, .bool false]) 4 40 Tryz.underlying24 hi hz0 hz1 hz2 rfl (by decide) u3 L.length _ rfl hoW [.string x.person, .int .i64 x.start, .int .i64 x.hours, .bool x.onCall] rfl (by intro u hu; simp only [List.mem_cons, List.not_mem_nil, or_false] at hu; rcases hu with rfl | rfl | rfl | rfl <;> rfl) rfl (by omega) (by decide) hsz2 ?_)
        intro v' u hown hbu _ _
        have hoD : Own fWatch u w.heap.size 26 v' (L ++ [x]) := Own.push _ (by omega) hown
        clear hown
        go_wp2
        go_ret
        exact ⟨_, _, rfl, hoD, fun y hy => by
          rcases List.mem_append.1 hy with hy | hy
          · exact hsm y hy
          · rw [List.mem_singleton] at hy; subst hy; exact hx, by rw [List.length_append, List.length_singleton]; omega, (hs5.belowB hbu hg).mono (by omega), hor2.then hbu⟩
      · have e0 : (q == 0) = false := by rw [beq_eq_false_iff_ne]; exact hq0
        by_cases hq1 : q = 1
        · subst hq1
          have hBL : Below w3.heap.size w3 (w3.alloc (.cells #[.int .i64 32, .int .i64 33] 2)) := (Below.refl _ _).alloc (Nat.le_refl _) _
          have hgl := hs3.lt
          go_wp2_with fail
          refine (among_any _ g _ [32, 33] [w3.heap.size] _ (hs3.below hBL) (by omega) (slLitI w3 2 [32, 33] _ rfl (by decide) (by decide) (by decide) _ _ rfl rfl) (by simp; omega) (by decide) (by decide)).mono ?_
          rintro e w4 ⟨t, ht, rfl, hs4, ho4⟩
          have hor2 := hor.trans (Only.later hBL ho4)
          have hsz2 := hor2.size
          clear hBL hgl hor ho hs3 ho4
          obtain ⟨M, rfl⟩ : ∃ M : Nat, t = M := ⟨t.toNat, by simp at ht; omega⟩
          have hM : M ≤ 33 := by simp at ht; omega
          have hown : Own fWatch (w4.alloc (.cells #[] 26)) w.heap.size 26 (.slice (some ⟨w4.heap.size, 0, none⟩) 0 0) [] := Own.lit0m fWatch hsz2
          have hB4 : Below w4.heap.size w4 (w4.alloc (.cells #[] 26)) := (Below.refl _ _).alloc (Nat.le_refl _) _
          replace hor2 := hor2.then (hB4.mono hsz2)
          replace hs4 := hs4.below hB4
          clear hB4 ht hsm hsz2
          go_wp2
          rename World => wo
          go_loopw [3, 8] (fun v kv wr => ∃ (k : Nat) (X : List DWatch), kv = .int .i64 k ∧ k ≤ M ∧ X.length = k ∧ Own fWatch wr w.heap.size 26 v X ∧ (∀ x ∈ X, SmWatch x) ∧ SrcD (n + 600) g wr ∧ Only [g] w wr) (fun _ kv _ => M - (intOf kv).toNat)
          case atStart => exact ⟨0, [], rfl, Nat.zero_le _, rfl, hown, by simp, hs4.mono (by omega), hor2⟩
          case round =>
            clear hown hs4 hor2
            obtain ⟨k, X, rfl, hk, hX, ho, hsm, hsr, hor⟩ := hrel
            by_cases hlt : k < M
            · have hsmk := Lib.hid (manyWatch k (by omega))
              have hk100 : k ≤ 100 := by omega
              have hsz2 := hor.size
              have hoW : wr.ownsRow w.heap.size 26 4 u3 X.length (X.flatMap fWatch.enc) := ho
              clear ho
              go_wp2_with (at_builtin; refine wpList_append_one rfl _ _ 24 rfl w.heap.size 26 i0 (.agg #[.string ⟨#[]⟩, .int .i64 0, .int .i64 0, .bool false]) 4 40 Tryz.underlying24 hi hz0 hz1 hz2 rfl (by decide) u3 X.length _ rfl hoW [.string ⟨#[105, 100, 97]⟩, .int .i64 (10 * (k : Int)), .int .i64 5, .bool false] rfl (by intro u hu; simp only [List.mem_cons, List.not_mem_nil, or_false] at hu; rcases hu with rfl | rfl | rfl | rfl <;> rfl) rfl (by omega) (by decide) hsz2 ?_)
              intro v' u hown hbu _ _
              have hoD : Own fWatch u w.heap.size 26 v' (X ++ [⟨⟨#[105, 100, 97]⟩, 10 * (k : Int), 5, false⟩]) := Own.push _ (by omega) hown
              clear hown
              have hs5 := hsr.belowB hbu hg
              have hor5 := hor.then hbu
              go_wp2
              go_roundw
              case rel => exact ⟨k + 1, _, by go_num, by omega, by rw [List.length_append, hX, List.length_singleton], hoD, fun y hy => by
                rcases List.mem_append.1 hy with hy | hy
                · exact hsm y hy
                · rw [List.mem_singleton] at hy; subst hy; exact hsmk.out, hs5, hor5⟩
              case measure => simp [intOf]; omega
            · obtain ⟨A9, c9, rfl⟩ := ho.form
              go_wp2
              go_ret
              exact ⟨_, _, rfl, ho, hsm, by omega, hsr.mono (by omega), hor⟩
        · have e1 : (q == 1) = false := by rw [beq_eq_false_iff_ne]; exact hq1
          obtain ⟨A9, c9, rfl⟩ := ho.form
          go_wp2
          go_ret
          exact ⟨_, _, rfl, ho, hsm, by omega, hs3.mono (by omega), hor⟩
    | succ j =>
      go_wp2_with fail
      refine (l26DrawOne_any _ g _ hsr (by omega)).mono ?_
      rintro e w3 ⟨x, rfl, hx, hs3, ho3⟩
      have hor3 := hor.trans ho3
      have ho3' := ho.only ho3 (fun b hb => by simp at hb; subst hb; exact hg)
      have hoks : ∀ y ∈ L, fWatch.ok y := fun y hy => (hsm y hy).ok
      obtain ⟨fp, hsl, hlo, hnd⟩ := Sl.of_own (n := L.length) rfl ho3' hoks
      clear ho hor ho3 hsr hoks
      unfold agWatch
      go_wp2_with fail
      refine (specAddWatch_any _ L fp x _ hsl hx.ok).mono ?_
      rintro e w4 ⟨v4, rfl, hown4, hb4⟩
      have hsz3 := hor3.size
      have hor4 := hor3.then (hb4.mono hsz3)
      have hs4 := hs3.below hb4
      have ho4 := ho3'.below hb4
      replace hown4 : Own fWatch w4 w.heap.size 26 v4 (addWatchF L x) := ownM_ hown4 hsz3
      clear hsl hlo hnd ho3' hs3 hor3 hb4
      by_cases hc : addWatchC L x = 0
      · have hlen := addWatch_length (xs := L) (x := x)
        have hsm4 : ∀ y ∈ addWatchF L x, SmWatch y := fun y hy => by
          rcases addWatch_mem hy with hy | rfl
          · exact hsm y hy
          · exact hx
        rw [hc]
        generalize addWatchF L x = L4 at *
        clear hc ho4 hsm
        go_wp2
        go_roundw
        case rel => exact ⟨j, L4, by go_num, by omega, by omega, hown4, hsm4, hs4.mono (by omega), hor4⟩
        case measure => simp [intOf]
      · have e1 : (addWatchC L x == 0) = false := by rw [beq_eq_false_iff_ne]; exact hc
        generalize addWatchC L x = cc at *
        clear hc hown4
        go_wp2
        go_roundw
        case rel => exact ⟨j, L, by go_num, by omega, by omega, ho4, hsm, hs4.mono (by omega), hor4⟩
        case measure => simp [intOf]
theorem Sl.far_cell {α : Type} {E : Cod α} {w : World} {v : Value} {xs : List α} {fp : List Nat} {g j : Nat} {u : Value} (h : Sl E w v xs fp) (hp : ∀ b ∈ fp, b ≠ g) : Sl E (w.setCell ⟨g, j, none⟩ u) v xs fp :=
  h.only ((Only.refl [g] w).set j u) (fun b hb => by simpa using hp b hb)
set_option maxRecDepth 100000 in
set_option maxHeartbeats 4000000 in
theorem DrawAddWatch_any (v : Value) (xs : List UInt8) (fp : List Nat) (w : World) (hx : Sl fByte.cod w v xs fp) :
    Calls Tryz.prog 5 #[v] w fun e w' => ∃ (y : Value) (ys : List DWatch) (x : DWatch) (fq : List Nat), e = .returned (.tuple #[y, agWatch x]) ∧ Sl fWatch.cod w' y ys fq ∧ (∀ z ∈ ys, SmWatch z) ∧ ys.length ≤ 70 ∧ SmWatch x ∧ Below w.heap.size w w' := by
  have hB0 : Below w.heap.size w (w.alloc (.cells #[.string ⟨#[]⟩, .int .i64 0, .int .i64 0, .bool false] 26)) := (Below.refl _ _).alloc (Nat.le_refl _) _
  go_enter Tryz.func5, Tryz.ntmps5
  go_wp2_with fail
  refine (l00From_any v xs fp _ (hx.below' hB0)).mono ?_
  rintro e w1 ⟨rfl, hs, hb1⟩
  have hbx := (BxWatch.new w 26).belowB hb1 (by simp)
  have hB1 := hB0.trans (hb1.mono (by simp))
  have hgw : w.heap.size < (w.alloc (.cells #[.string ⟨#[]⟩, .int .i64 0, .int .i64 0, .bool false] 26)).heap.size := by simp
  generalize (w.alloc (.cells #[.string ⟨#[]⟩, .int .i64 0, .int .i64 0, .bool false] 26)).heap.size = g at *
  have hof : ∀ b ∈ [g], w.heap.size ≤ b := by simp; omega
  have hg1 := hs.lt
  clear hB0 hb1 hx
  go_wp2_with fail
  refine (l26DrawO_any _ g _ hs (by omega)).mono ?_
  rintro e w2 ⟨y, ys, rfl, hown, hsm, hl, hs2, ho2⟩
  obtain ⟨fq, hsl, hlo, hnd⟩ := Sl.of_own (n := ys.length) rfl hown (fun y hy => (hsm y hy).ok)
  have hgq : ∀ b ∈ fq, b ∉ [g] := fun b hb => by have := hlo b hb; simp; omega
  obtain ⟨A, cap, rfl, _, _⟩ := hsl.form
  replace hbx := hbx.keep (ho2.block w.heap.size hbx.lt (by simp; omega))
  clear hown
  go_wp2_with fail
  refine (l26DrawOne_any _ g _ hs2 (by omega)).mono ?_
  rintro e w3 ⟨x0, rfl, hx0, hs3, ho3⟩
  replace hbx := hbx.keep (ho3.block w.heap.size hbx.lt (by simp; omega))
  go_wp2_with fail
  refine (l26Bend_any _ g x0 _ hs3 (by omega) hx0).mono ?_
  rintro e w4 ⟨x, rfl, hx4, hs4, ho4⟩
  replace hbx := hbx.keep (ho4.block w.heap.size hbx.lt (by simp; omega))
  have hsl4 := hsl.only (ho3.trans ho4) hgq
  have hB4 := hB1.trans ((ho2.trans (ho3.trans ho4)).below hB1.size hof)
  have hne : ∀ b ∈ fq, b ≠ w.heap.size := fun b hb => by have := hlo b hb; have := hB1.size; have := hg1; omega
  clear hsl hlo ho2 ho3 ho4 hB1 hs hs2 hs3 hs4
  obtain ⟨d0, d1, d2, d3, z0, z1, z2, z3⟩ := hbx
  have hrr := Nat.le_refl w.heap.size
  unfold agWatch
  go_wp2
  refine bodyPost_ret (v := .tuple #[.slice A ys.length cap, agWatch x]) (by simp [agWatch, results, hit_cellX, d0, d1, d2, d3, Tryz.results5, go_sem]) rfl ⟨_, ys, x, fq, rfl, ?_, hsm, hl, hx4, by (repeat (refine Below.setCell ?_ hrr _)); exact hB4⟩
  repeat (refine Sl.far_cell ?_ hne)
  exact hsl4
set_option maxRecDepth 100000 in
set_option maxHeartbeats 4000000 in
theorem DrawShortPauses_any (v : Value) (xs : List UInt8) (fp : List Nat) (w : World) (hx : Sl fByte.cod w v xs fp) :
    Calls Tryz.prog 14 #[v] w fun e w' => ∃ (y : Value) (ys : List DWatch) (r : Int) (fq : List Nat), e = .returned (.tuple #[y, .int .i64 r]) ∧ Sl fWatch.cod w' y ys fq ∧ (∀ z ∈ ys, SmWatch z) ∧ ys.length ≤ 70 ∧ -1 ≤ r ∧ r ≤ 101 ∧ Below w.heap.size w w' := by
  go_enter Tryz.func14, Tryz.ntmps14
  go_wp2_with fail
  refine (l00From_any v xs fp _ hx).mono ?_
  rintro e w1 ⟨rfl, hs, hb1⟩
  have hgw := Nat.le_refl w.heap.size
  generalize hg0 : w.heap.size = g at hs hgw ⊢
  have hge : w.heap.size ≤ g := by omega
  clear hg0 hgw
  have hg1 := hs.lt
  clear hx
  go_wp2_with fail
  refine (l26DrawO_any _ g _ hs (by omega)).mono ?_
  rintro e w2 ⟨y, ys, rfl, hown, hsm, hl, hs2, ho2⟩
  obtain ⟨fq, hsl, hlo, hnd⟩ := Sl.of_own (n := ys.length) rfl hown (fun y hy => (hsm y hy).ok)
  have hgq : ∀ b ∈ fq, b ∉ [g] := fun b hb => by have := hlo b hb; simp; omega
  obtain ⟨A, cap, rfl, _, _⟩ := hsl.form
  have hB2 : Below w.heap.size w w2 := hb1.trans (ho2.below hb1.size (by intro b hb; simp at hb; subst hb; exact hge))
  clear hown hs hlo hnd hb1 ho2
  have hBL : Below w2.heap.size w2 (w2.alloc (.cells #[.int .i64 0, .int .i64 1, .int .i64 8, .int .i64 11, .int .i64 24, .int .i64 100, .int .i64 101, .int .i64 (-1)] 2)) := (Below.refl _ _).alloc (Nat.le_refl _) _
  have hgl := hs2.lt
  go_wp2_with fail
  refine (among_any _ g _ [0, 1, 8, 11, 24, 100, 101, -1] [w2.heap.size] _ (hs2.below hBL) (by omega) (slLitI w2 2 [0, 1, 8, 11, 24, 100, 101, -1] _ rfl (by decide) (by decide) (by decide) _ _ rfl rfl) (by simp; omega) (by decide) (by decide)).mono ?_
  rintro e w4 ⟨t, ht, rfl, hs4, ho5⟩
  have hoA := Only.later hBL ho5
  have hsl4 := hsl.only hoA hgq
  have hB4 := hB2.trans (hoA.below hB2.size (by intro b hb; simp at hb; subst hb; exact hge))
  have htb : -1 ≤ t ∧ t ≤ 101 := by simp at ht; omega
  clear hBL hgl ht hs4 ho5 hoA hsl hB2
  go_wp2
  go_ret2
  exact ⟨_, ys, t, fq, rfl, hsl4, hsm, hl, htb.1, htb.2, hB4⟩

end Go.Proofs.YtmlconbekkdahaaGreatDoor

namespace Go.Proofs.YtmlconbekkdahaaGreatDoor
open Go.RowKit
set_option linter.unusedVariables false

theorem watch_back {xs : List DWatch} (h : watchsB xs = true) (t : DWatch) : ∀ (a b : Nat) (hab : a ≤ b) (hb : b < xs.length), cmpW xs[b] t < 0 → cmpW (xs[a]'(by omega)) t < 0 := by
  intro a b hab hb h0
  rcases Nat.lt_or_eq_of_le hab with h1 | rfl
  · have h2 := watchs_lt h b a hb h1
    have h3 : watchLt xs[b] t = true := decide_eq_true h0
    exact of_decide_eq_true (watchLt_trans h2 h3)
  · exact h0
set_option maxRecDepth 100000 in
set_option maxHeartbeats 8000000 in
theorem addWatch_any (v : Value) (xs : List DWatch) (fp : List Nat) (x : DWatch) (w : World) (hx : Sl fWatch.cod w v xs fp) (hok : fWatch.ok x) :
    Calls Tryz.prog 6 #[v, .agg #[.string x.person, .int .i64 x.start, .int .i64 x.hours, .bool x.onCall]] w fun e w' => NewR2 fWatch.cod w (addWatchF xs x) (addWatchC xs x) e w' := by
  obtain ⟨A, cap, rfl, hlen, hcap⟩ := hx.form
  have HOK : Hid (∀ y ∈ addWatchL xs x, fWatch.ok y) := addWatchL_all hx.oks hok
  have hB0 : Below w.heap.size w (w.alloc (.cells #[.string x.person, .int .i64 x.start, .int .i64 x.hours, .bool x.onCall] 26)) := (Below.refl _ _).alloc (Nat.le_refl _) _
  have hp := PWatch.box w x 26
  replace hx := hx.below' hB0
  go_enter Tryz.func6, Tryz.ntmps6
  go_wp2_with fail
  refine (ValidWatches_any _ xs fp _ hx).mono ?_
  rintro e w1 ⟨rfl, hb1⟩
  have hp1 := hp.below' hb1
  have hx1 := hx.below' hb1
  have hB1 := hB0.trans (hb1.mono hB0.size)
  clear hp hx hb1 hB0
  cases hv : watchsB xs
  · have HE := Lib.hid (addWatch_bad (x := x) (show addWatchC xs x = 1 by unfold addWatchC; rw [hv]; rfl) (by decide))

    go_wp2
    go_ret2
    exact ⟨_, by rw [HE.out.1]; rfl, by rw [HE.out.2]; exact New.nil hB1⟩
  have hlen2 := watchsB_len hv
  obtain ⟨c0, c1, c2, c3⟩ := id hp1
  go_wp2_with fail
  refine (validWatch_any x _ hok).mono ?_
  rintro e w3 ⟨rfl, hb3⟩
  have hp3 := hp1.below' hb3
  have hx3 := hx1.below' hb3
  have hB3 := hB1.trans (hb3.mono hB1.size)
  clear hp1 hx1 hb3 c0 c1 c2 c3
  cases ho : watchB x
  · have HE := Lib.hid (addWatch_bad (x := x) (show addWatchC xs x = 2 by unfold addWatchC; rw [hv, ho]; rfl) (by decide))

    go_wp2
    go_ret2
    exact ⟨_, by rw [HE.out.1]; rfl, by rw [HE.out.2]; exact New.nil hB3⟩
  by_cases hM : xs.length = 32
  · have HE := Lib.hid (addWatch_bad (x := x) (show addWatchC xs x = 5 by unfold addWatchC; rw [hv, ho, if_pos hM]; rfl) (by decide))

    have eM : ((xs.length : Int) == 32) = true := by rw [hM]; rfl
    clear hM
    go_wp2
    go_ret2
    exact ⟨_, by rw [HE.out.1]; rfl, by rw [HE.out.2]; exact New.nil hB3⟩
  have HC6 : Hid (∀ b, watchsB (addWatchL xs x) = b → addWatchC xs x = if b then 0 else 6) := fun b h => by unfold addWatchC; rw [hv, ho, if_neg hM, h]; rfl
  have eM : ((xs.length : Int) == 32) = false := by rw [beq_eq_false_iff_ne]; omega
  have hM2 : xs.length < 32 := by omega
  have hat : atWatch xs x ≤ xs.length := posF_le _ _
  obtain ⟨c0, c1, c2, c3⟩ := id hp3
  go_wp2_with fail
  refine (bsearchWatch_any _ xs fp x _ hx3 (watch_back hv x) (by omega)).mono ?_
  rintro e w4 ⟨rfl, hb4⟩
  have hp4 := hp3.below' hb4
  have hx4 := hx3.below' hb4
  have hB4 := hB3.trans (hb4.mono hB3.size)
  have HL := Lib.hid (show addWatchL xs x = xs.take (atWatch xs x) ++ x :: xs.drop (atWatch xs x) from rfl)
  clear hM hv ho hp3 hx3 hB3 hb4 c0 c1 c2 c3
  generalize atWatch xs x = at_ at *
  obtain ⟨c0, c1, c2, c3⟩ := id hp4
  go_wp2
  have gc0 := cell_regrown c0
  have gc1 := cell_regrown c1
  have gc2 := cell_regrown c2
  have gc3 := cell_regrown c3
  refine wp_region_fork (C := fun w' => ∃ p : Regrown, w' = Go.Sort.grow (redrawn w4 p.d) p.os) [0, 2, 3] 1 [4, 5, 6] [false, false, true] 4 [1, 5, 6] [false, false, true] (by kernel_rfl) (by kernel_rfl) (by kernel_rfl) (fun _ _ d _ _ h => by cases d <;> exact h) (regrown_of_below (Below.drew (Below.refl _ _))) ?_
  simp only [List.map_cons, List.map_nil, List.getD_cons_zero, List.getD_cons_succ]
  have hS0 : Below (w4.heap.size) w4 w4.drew := Below.drew (Below.refl _ _)
  refine wpFork_pure (by kernel_rfl) (fun K hK => ?_)
  go_big_quiet_op
  refine hK _ ?_; clear hK K
  refine wpFork_pure (by kernel_rfl) (fun K hK => ?_)
  go_big_quiet_op
  refine hK _ ?_; clear hK K
  refine wpFork_pure (by kernel_rfl) (fun K hK => ?_)
  go_big_quiet_op
  refine hK _ ?_; clear hK K
  refine wpFork_split ?_ ?_
  · skip
    refine wpMix_act (by kernel_rfl) (fun K hK => ?_)
    go_big_op
    refine (cloneWatch_any _ xs fp w4.drew (hx4.below' (hS0)) (by omega)).mono ?_
    rintro e wr1 ⟨v3, rfl, hown, hbr1⟩
    have hbr1S : Below (w4.heap.size) w4 wr1 := hS0.trans (hbr1.mono hS0.size)
    refine hK _ _ (regrown_of_below hbr1S) ?_
    clear hK K
    refine wpMix_act (by kernel_rfl) (fun K hK => ?_)
    go_big_op
    refine hK _ _ (regrown_of_below (hbr1S.alloc hbr1S.size _)) ?_
    clear hK K
    refine mix_world (fun N => Below (w4.heap.size) w4 N ∧ (N.heap[wr1.heap.size]? = some (.cells #[.string x.person, .int .i64 x.start, .int .i64 x.hours, .bool x.onCall] 26 (0, 0)) ∧ Below wr1.heap.size wr1 N ∧ wr1.heap.size < N.heap.size)) ⟨hbr1S.alloc hbr1S.size _, ⟨heap_alloc_new wr1 _, (Below.refl _ _).alloc (Nat.le_refl _) _, by simp⟩⟩ ?_
    rintro wr2 ⟨hbr2S, hbr2F⟩
    refine wpMix_act (by kernel_rfl) (fun K hK => ?_)
    go_big_op
    refine (insWatch_any v3 xs x at_ wr1.heap.size w4.drew.heap.size wr2 (hown.below hbr2F.2.1) hat hbr2F.1 (fun g hg => by have := (hown.lt g hg).2; omega) (by omega) (by have := hbr1S.size; have := hbr2F.2.2; have := (show w4.drew.heap.size = w4.heap.size from rfl); omega)).mono ?_
    rintro e wr3 ⟨v4, rfl, hown4, hbr3⟩
    have hbr3S : Below (w4.heap.size) w4 wr3 := hbr2S.trans (hbr3.mono (Nat.le_refl _))
    refine hK _ _ (regrown_of_below hbr3S) ?_
    clear hK K
    refine wpMix_pure (by kernel_rfl) (fun K hK => ?_); go_big_quiet_op; refine hK _ ?_; clear hK K
    refine wpMix_nil ?_
    have hS9 : Below w4.heap.size w4 wr3 := hbr3S
    have hB9 := hB4.trans (hS9.mono hB4.size)
    have hownZ : Own fWatch wr3 w.heap.size 26 v4 (xs.take at_ ++ x :: xs.drop at_) := ownM_ hown4 (by have := hB4.size; first | exact this | (have h9 := hbr4S.size; omega) | (have h9 := hbr1S.size; omega))
    rw [← HL.out] at hownZ
    obtain ⟨fq, hsl, _, _⟩ := Sl.of_own (n := (addWatchL xs x).length) rfl hownZ HOK.out
    have hFL := fun h : addWatchC xs x = 0 => (show addWatchF xs x = addWatchL xs x by unfold addWatchF; rw [if_pos h])
    obtain ⟨A9, c9, rfl⟩ := hownZ.form
    have hl9 : (addWatchL xs x).length ≤ 40 := by rw [addWatchL_length]; omega
    generalize addWatchL xs x = LL at *
    clear hown4 HL eM
    go_wp2_with fail
    refine (ValidWatches_any _ LL fq _ hsl).mono ?_
    rintro e w9 ⟨rfl, hb9⟩
    have hB15 := hB9.trans (hb9.mono hB9.size)
    have ho8 := hownZ.below hb9
    clear hownZ hsl hB9 hb9
    cases hz : watchsB LL
    · have HE := Lib.hid (addWatch_bad ((HC6.out false hz).trans rfl) (by decide))
      go_wp2
      go_ret2
      exact ⟨_, by rw [HE.out.1]; rfl, by rw [HE.out.2]; exact New.nil hB15⟩
    have HC := Lib.hid ((HC6.out true hz).trans rfl : addWatchC xs x = 0)
    have HF := Lib.hid (hFL HC.out)
    have hn := ho8.new hB15 HOK.out
    clear hFL HC6 hz ho8
    go_wp2
    go_ret2
    exact ⟨_, by rw [HC.out]; rfl, by rw [HF.out]; exact hn⟩
  · skip
    refine wpMix_act (by kernel_rfl) (fun K hK => ?_)
    go_big_op
    refine hK _ _ (regrown_of_below (hS0.alloc hS0.size _)) ?_
    clear hK K
    refine mix_world (fun N => Below (w4.heap.size) w4 N ∧ (N.heap[w4.drew.heap.size]? = some (.cells #[.string x.person, .int .i64 x.start, .int .i64 x.hours, .bool x.onCall] 26 (0, 0)) ∧ Below w4.drew.heap.size w4.drew N ∧ w4.drew.heap.size < N.heap.size)) ⟨hS0.alloc hS0.size _, ⟨heap_alloc_new w4.drew _, (Below.refl _ _).alloc (Nat.le_refl _) _, by simp⟩⟩ ?_
    rintro wr4 ⟨hbr4S, hbr4F⟩
    refine wpMix_act (by kernel_rfl) (fun K hK => ?_)
    go_big_op
    refine (cloneWatch_any _ xs fp wr4 (hx4.below' (hbr4S)) (by omega)).mono ?_
    rintro e wr5 ⟨v3, rfl, hown, hbr5⟩
    have hbr5S : Below (w4.heap.size) w4 wr5 := hbr4S.trans (hbr5.mono hbr4S.size)
    refine hK _ _ (regrown_of_below hbr5S) ?_
    clear hK K
    refine wpMix_act (by kernel_rfl) (fun K hK => ?_)
    go_big_op
    refine (insWatch_any v3 xs x at_ w4.drew.heap.size wr4.heap.size wr5 hown hat ((hbr5.block _ hbr4F.2.2).trans hbr4F.1) (fun g hg => by have := (hown.lt g hg).1; have := hbr4F.2.2; omega) (by omega) (hbr5.size)).mono ?_
    rintro e wr6 ⟨v4, rfl, hown4, hbr6⟩
    have hbr6S : Below (w4.heap.size) w4 wr6 := hbr5S.trans (hbr6.mono (Nat.le_of_lt hbr4F.2.2))
    refine hK _ _ (regrown_of_below hbr6S) ?_
    clear hK K
    refine wpMix_pure (by kernel_rfl) (fun K hK => ?_); go_big_quiet_op; refine hK _ ?_; clear hK K
    refine wpMix_nil ?_
    have hS9 : Below w4.heap.size w4 wr6 := hbr6S
    have hB9 := hB4.trans (hS9.mono hB4.size)
    have hownZ : Own fWatch wr6 w.heap.size 26 v4 (xs.take at_ ++ x :: xs.drop at_) := ownM_ hown4 (by have := hB4.size; first | exact this | (have h9 := hbr4S.size; omega) | (have h9 := hbr1S.size; omega))
    rw [← HL.out] at hownZ
    obtain ⟨fq, hsl, _, _⟩ := Sl.of_own (n := (addWatchL xs x).length) rfl hownZ HOK.out
    have hFL := fun h : addWatchC xs x = 0 => (show addWatchF xs x = addWatchL xs x by unfold addWatchF; rw [if_pos h])
    obtain ⟨A9, c9, rfl⟩ := hownZ.form
    have hl9 : (addWatchL xs x).length ≤ 40 := by rw [addWatchL_length]; omega
    generalize addWatchL xs x = LL at *
    clear hown4 HL eM
    go_wp2_with fail
    refine (ValidWatches_any _ LL fq _ hsl).mono ?_
    rintro e w9 ⟨rfl, hb9⟩
    have hB15 := hB9.trans (hb9.mono hB9.size)
    have ho8 := hownZ.below hb9
    clear hownZ hsl hB9 hb9
    cases hz : watchsB LL
    · have HE := Lib.hid (addWatch_bad ((HC6.out false hz).trans rfl) (by decide))
      go_wp2
      go_ret2
      exact ⟨_, by rw [HE.out.1]; rfl, by rw [HE.out.2]; exact New.nil hB15⟩
    have HC := Lib.hid ((HC6.out true hz).trans rfl : addWatchC xs x = 0)
    have HF := Lib.hid (hFL HC.out)
    have hn := ho8.new hB15 HOK.out
    clear hFL HC6 hz ho8
    go_wp2
    go_ret2
    exact ⟨_, by rw [HC.out]; rfl, by rw [HF.out]; exact hn⟩

end Go.Proofs.YtmlconbekkdahaaGreatDoor

namespace Go.Proofs.YtmlconbekkdahaaGreatDoor
open Go.RowKit
set_option linter.unusedVariables false

/-- The rows of a slice of slices, laid open. -/
structure NRows {α : Type} (E : Cod α) (w : World) (b off n : Nat) (V : Nat → Value) (cur : Nat → List α) (F : Nat → List Nat) : Prop where
  cell : ∀ i, i < n → w.cell? ⟨b, off + i, none⟩ = some (V i)
  frz : ∀ i, i < n → w.frozen? ⟨b, off + i, none⟩ = false
  rd : ∀ i, i < n → Sl E w (V i) (cur i) (F i)
section
variable {α : Type} {E : Cod α} {w w' : World} {b off n cap len : Nat} {A : Option Addr} {V : Nat → Value} {cur : Nat → List α} {F : Nat → List Nat} {xss : List (List α)} {fp : List Nat}
theorem Sl.rows (h : Sl E.slice w (.slice A len cap) xss fp) (h0 : 0 < xss.length) :
    ∃ b off V F, A = some ⟨b, off, none⟩ ∧ b < w.heap.size ∧ fp = b :: (List.range xss.length).flatMap F ∧ NRows E w b off xss.length V (fun i => xss.getD i []) F := by
  obtain ⟨A', cap', hv, hl, hc, hr⟩ := h
  injection hv with hA hn hcap
  subst hA
  rcases hr with ⟨h1, _⟩ | ⟨b, off, F, hA, hb, hfp, hi⟩
  · subst h1; simp at h0
  · have hex : ∀ i, ∃ u, ∀ h : i < xss.length, w.cell? ⟨b, off + i, none⟩ = some u ∧ w.frozen? ⟨b, off + i, none⟩ = false ∧ Sl E w u xss[i] (F i) := fun i => by
      by_cases hlt : i < xss.length
      · obtain ⟨cs, h1, h2, u, rfl, h3⟩ := hi i hlt
        refine ⟨u, fun _ => ⟨?_, ?_, h3⟩⟩
        · have := h1 0 (show 0 < 1 by omega); simpa [Cod.slice] using this
        · have := h2 0 (show 0 < 1 by omega); simpa [Cod.slice] using this
      · exact ⟨undef, fun h => absurd h hlt⟩
    refine ⟨b, off, fun i => Classical.choose (hex i), F, hA, hb, hfp, ⟨fun i h => ?_, fun i h => ?_, fun i h => ?_⟩⟩
    · exact (Classical.choose_spec (hex i) h).1
    · exact (Classical.choose_spec (hex i) h).2.1
    · have := (Classical.choose_spec (hex i) h).2.2
      simpa [List.getD_eq_getElem?_getD, h] using this
theorem NRows.sl (h : NRows E w b off n V cur F) (hb : b < w.heap.size) (hn : xss.length = n) (hx : ∀ i (hi : i < xss.length), xss[i] = cur i) (hc : n ≤ cap) (hm : cap ≤ maxLen) :
    Sl E.slice w (.slice (some ⟨b, off, none⟩) n cap) xss (b :: (List.range n).flatMap F) := by
  subst hn
  refine ⟨_, cap, rfl, hc, hm, .inr ⟨b, off, F, rfl, hb, rfl, fun i hi => ⟨[V i], fun j hj => ?_, fun j hj => ?_, V i, rfl, ?_⟩⟩⟩
  · have hj' : j = 0 := by have : j < 1 := hj; omega
    subst hj'
    have := h.cell i hi
    simpa [Cod.slice] using this
  · have hj' : j = 0 := by have : j < 1 := hj; omega
    subst hj'
    have := h.frz i hi
    simpa [Cod.slice] using this
  · rw [hx i hi]; exact h.rd i hi
theorem NRows.below (h : NRows E w b off n V cur F) (hb : b < w.heap.size) (hw : Below w.heap.size w w') : NRows E w' b off n V cur F :=
  ⟨fun i hi => (hw.cell (p := ⟨b, off + i, none⟩) hb).trans (h.cell i hi), fun i hi => (hw.frozen (p := ⟨b, off + i, none⟩) hb).trans (h.frz i hi), fun i hi => (h.rd i hi).below' hw⟩
theorem NRows.congr {cur' : Nat → List α} (h : NRows E w b off n V cur F) (hc : ∀ i, i < n → cur i = cur' i) : NRows E w b off n V cur' F :=
  ⟨h.cell, h.frz, fun i hi => by rw [← hc i hi]; exact h.rd i hi⟩
/-- No block twice. -/
theorem rows_apart (hnd : (b :: (List.range n).flatMap F).Nodup) : (∀ i, i < n → b ∉ F i) ∧ (∀ i j, i < n → j < n → i ≠ j → ∀ c ∈ F i, c ∉ F j) ∧ ∀ i, i < n → (F i).Nodup := by
  rw [List.nodup_cons] at hnd
  obtain ⟨h1, h2⟩ := hnd
  refine ⟨fun i hi hm => h1 (List.mem_flatMap.2 ⟨i, by simpa using hi, hm⟩), ?_, ?_⟩
  · have h3 : ∀ i j, i < j → j < n → ∀ c ∈ F i, c ∉ F j := by
      intro i j hij hj c hc hc'
      have e1 : List.range n = List.range j ++ (List.range (n - j)).map (j + ·) := by rw [← List.range_add]; congr 1; omega
      rw [e1, List.flatMap_append, List.nodup_append] at h2
      exact h2.2.2 c (List.mem_flatMap.2 ⟨i, by simpa using hij, hc⟩) c (List.mem_flatMap.2 ⟨j, by simp; omega, hc'⟩) rfl
    intro i j hi hj hne c hc hc'
    rcases Nat.lt_or_ge i j with h | h
    · exact h3 i j h hj c hc hc'
    · exact h3 j i (by omega) hi c hc' hc
  · intro i hi
    have e1 : List.range n = List.range i ++ (List.range (n - i)).map (i + ·) := by rw [← List.range_add]; congr 1; omega
    have e2 : List.range (n - i) = 0 :: (List.range (n - i - 1)).map Nat.succ := by
      rw [← List.range_succ_eq_map]; congr 1; omega
    rw [e1, e2, List.flatMap_append, List.nodup_append] at h2
    have h4 := h2.2.1
    rw [List.map_cons, List.flatMap_cons, List.nodup_append] at h4
    simpa using h4.1
/-- One row is written, through its own blocks alone. -/
theorem NRows.step {ys : List α} {k : Nat} (h : NRows E w b off n V cur F) (hnd : (b :: (List.range n).flatMap F).Nodup) (hb : b < w.heap.size) (hk : k < n) (hs : Sl E w' (V k) ys (F k)) (ho : Only (F k) w w') :
    NRows E w' b off n V (fun i => if i = k then ys else cur i) F := by
  obtain ⟨h1, h2, _⟩ := rows_apart hnd
  have hbk := ho.block b hb (h1 k hk)
  refine ⟨fun i hi => (World.cell?_of_block (a := ⟨b, off + i, none⟩) hbk).trans (h.cell i hi), fun i hi => (World.frozen?_of_block (a := ⟨b, off + i, none⟩) hbk).trans (h.frz i hi), fun i hi => ?_⟩
  by_cases e : i = k
  · subst e; rw [if_pos rfl]; exact hs
  · rw [if_neg e]; exact (h.rd i hi).only ho (h2 i k hi hk e)
theorem Only.sub {fp fp' : List Nat} (h : Only fp w w') (hs : ∀ c ∈ fp, c ∈ fp') : Only fp' w w' := ⟨h.os, h.tape, h.output, h.size, fun k hk hn => h.block k hk (fun hm => hn (hs k hm))⟩
theorem Sl.elem {k : Nat} (h : Sl E.slice w (.slice A len cap) xss fp) (hk : k < xss.length) :
    ∃ b off vk fk, A = some ⟨b, off, none⟩ ∧ w.cell? ⟨b, off + k, none⟩ = some vk ∧ Sl E w vk xss[k] fk ∧ b ∈ fp := by
  obtain ⟨b, off, V, F, hA, hb, hfp, hr⟩ := h.rows (by omega)
  have := hr.rd k hk
  simp [List.getD_eq_getElem?_getD, hk] at this
  exact ⟨b, off, V k, F k, hA, hr.cell k hk, this, by rw [hfp]; simp⟩
end
/-! ### A slice of slices that the call fills row by row -/
/-- The block g holds n slices, of which the first k are made: they read as the first k rows. -/
def SSt {α : Type} (E : Cod α) (w : World) (g : Nat) (T : TypeId) (xss : List (List α)) (k : Nat) : Prop :=
  ∃ (V : Nat → Value) (F : Nat → List Nat), Fill w g g T 1 xss.length ((List.range k).map V) ∧ (∀ i, i < k → w.cell? ⟨g, i, none⟩ = some (V i)) ∧ (∀ i, i < k → Sl E w (V i) (xss.getD i []) (F i)) ∧ ((List.range k).flatMap F).Nodup ∧ (∀ c ∈ (List.range k).flatMap F, g < c ∧ c < w.heap.size)
theorem SSt.start {α : Type} {E : Cod α} (w : World) (T : TypeId) (z : Value) (xss : List (List α)) (hn : xss.length ≤ 9223372036854775807) : SSt E (w.alloc (.cells (madeCells #[z] xss.length) T)) w.heap.size T xss 0 :=
  ⟨fun _ => undef, fun _ => [], by simpa using Fill.start1 w T xss.length #[z] hn, fun _ h => absurd h (Nat.not_lt_zero _), fun _ h => absurd h (Nat.not_lt_zero _), by simp, by simp⟩
section
variable {α : Type} {E : Cod α} {w w' : World} {g : Nat} {T : TypeId} {xss : List (List α)} {k : Nat}
theorem SSt.below (h : SSt E w g T xss k) (hb : Below w.heap.size w w') : SSt E w' g T xss k := by
  obtain ⟨V, F, h1, h2, h3, h4, h5⟩ := h
  exact ⟨V, F, h1.below hb h1.lt, fun i hi => (hb.cell (p := ⟨g, i, none⟩) h1.lt).trans (h2 i hi), fun i hi => (h3 i hi).below' hb, h4, fun c hc => ⟨(h5 c hc).1, Nat.lt_of_lt_of_le (h5 c hc).2 hb.size⟩⟩
theorem SSt.cell (h : SSt E w g T xss k) {j : Nat} (hj : j < xss.length) : ∃ u, w.cell? ⟨g, j, none⟩ = some u := by
  obtain ⟨V, F, h1, _⟩ := h
  exact h1.cell (by omega)
theorem SSt.frozen (h : SSt E w g T xss k) (j : Nat) : w.frozen? ⟨g, j, none⟩ = false := by
  obtain ⟨V, F, h1, _⟩ := h
  exact h1.frozen j
theorem SSt.lt (h : SSt E w g T xss k) : g < w.heap.size := by
  obtain ⟨V, F, h1, _⟩ := h
  exact h1.lt
/-- The next row is made and laid in. -/
theorem SSt.next (h : SSt E w g T xss k) (hk : k < xss.length) {y : Value} (hn : New E w y xss[k] w') : SSt E (w'.setCell ⟨g, k, none⟩ y) g T xss (k + 1) := by
  have hg := h.lt
  obtain ⟨V, F, h1, h2, h3, h4, h5⟩ := h
  obtain ⟨⟨f, hs, hlo, hnd⟩, hb⟩ := hn
  have ho : Only [g] w' (w'.setCell ⟨g, k, none⟩ y) := (Only.refl _ _).set k y
  have hne : ∀ c, g < c → c ∉ [g] := fun c hc hm => by rw [List.mem_singleton] at hm; omega
  have e1 : ∀ i, i < k → (fun i => if i = k then y else V i) i = V i := fun i hi => if_neg (by omega)
  have e2 : ∀ i, i < k → (fun i => if i = k then f else F i) i = F i := fun i hi => if_neg (by omega)
  have em : (List.range (k + 1)).map (fun i => if i = k then y else V i) = (List.range k).map V ++ [y] := by
    rw [List.range_succ, List.map_append, List.map_cons, List.map_nil, if_pos rfl]
    congr 1
    exact List.map_congr_left (fun i hi => e1 i (by simpa using hi))
  have ef : (List.range (k + 1)).flatMap (fun i => if i = k then f else F i) = (List.range k).flatMap F ++ f := by
    rw [List.range_succ, List.flatMap_append, List.flatMap_cons, List.flatMap_nil, if_pos rfl, List.append_nil]
    congr 1
    rw [List.flatMap_def, List.flatMap_def]
    congr 1
    exact List.map_congr_left (fun i hi => e2 i (by simpa using hi))
  have hf2 : Fill w' g g T 1 xss.length ((List.range k).map V) := h1.below hb hg
  refine ⟨fun i => if i = k then y else V i, fun i => if i = k then f else F i, ?_, ?_, ?_, ?_, ?_⟩
  · rw [em]
    exact hf2.put_at (by simp) (by omega) y
  · intro i hi
    dsimp only
    by_cases e : i = k
    · subst e
      rw [if_pos rfl]
      obtain ⟨u, hu⟩ := hf2.cell (j := i) (by omega)
      exact World.cell?_setCell_same w' _ y hu
    · rw [if_neg e, World.cell?_setCell_other _ _ _ _ (by intro h; injection h with _ h _; exact e h.symm)]
      exact (hb.cell (p := ⟨g, i, none⟩) hg).trans (h2 i (by omega))
  · intro i hi
    dsimp only
    by_cases e : i = k
    · subst e
      rw [if_pos rfl, if_pos rfl, show xss.getD i [] = xss[i] from by simp [List.getD_eq_getElem?_getD, hk]]
      exact hs.only ho (fun b hb' => hne b (by have := hlo b hb'; omega))
    · rw [if_neg e, if_neg e]
      exact ((h3 i (by omega)).below' hb).only ho (fun b hb' => hne b (h5 b (List.mem_flatMap.2 ⟨i, by simp; omega, hb'⟩)).1)
  · rw [ef, List.nodup_append]
    exact ⟨h4, hnd, fun a ha b hb' e => by have := (h5 a ha).2; have := hlo b hb'; omega⟩
  · rw [ef]
    intro c hc
    have hsz : (w'.setCell ⟨g, k, none⟩ y).heap.size = w'.heap.size := by simp
    rcases List.mem_append.1 hc with hc | hc
    · exact ⟨(h5 c hc).1, by rw [hsz]; exact Nat.lt_of_lt_of_le (h5 c hc).2 hb.size⟩
    · exact ⟨by have := hlo c hc; omega, by rw [hsz]; exact hs.lt c hc⟩
theorem SSt.done (h : SSt E w g T xss xss.length) (hm : xss.length ≤ maxLen) : ∃ fp, Sl E.slice w (.slice (some ⟨g, 0, none⟩) xss.length xss.length) xss fp ∧ (∀ b ∈ fp, g ≤ b) ∧ fp.Nodup := by
  have hg := h.lt
  obtain ⟨V, F, h1, h2, h3, h4, h5⟩ := h
  have hr : NRows E w g 0 xss.length V (fun i => xss.getD i []) F := ⟨fun i hi => by simpa using h2 i hi, fun i _ => by simpa using h1.frozen i, h3⟩
  refine ⟨_, hr.sl hg rfl (fun i hi => by simp [List.getD_eq_getElem?_getD, hi]) (Nat.le_refl _) hm, ?_, ?_⟩
  · intro b hb
    rcases List.mem_cons.1 hb with rfl | hb
    · exact Nat.le_refl _
    · exact Nat.le_of_lt (h5 b hb).1
  · rw [List.nodup_cons]
    exact ⟨fun hm' => Nat.lt_irrefl _ (h5 _ hm').1, h4⟩
end
def preS (ns : List Nat) (i : Nat) : Nat := (ns.take i).sum
theorem preS_succ {ns : List Nat} {i : Nat} (h : i < ns.length) : preS ns (i + 1) = preS ns i + ns[i] := by
  unfold preS; rw [List.take_succ_eq_append_getElem h, List.sum_append]; simp
theorem preS_full {ns : List Nat} {i : Nat} (h : ns.length ≤ i) : preS ns i = ns.sum := by unfold preS; rw [List.take_of_length_le h]
theorem preS_le (ns : List Nat) (i : Nat) : preS ns i ≤ ns.sum := by
  have h := List.sum_append (l₁ := ns.take i) (l₂ := ns.drop i)
  rw [List.take_append_drop] at h
  unfold preS; omega
end Go.Proofs.YtmlconbekkdahaaGreatDoor

namespace Go.Proofs.YtmlconbekkdahaaGreatDoor
open Go.RowKit
set_option linter.unusedVariables false

theorem infoSliceR : (Tryz.prog.info? 33).map (fun i => (i.zero, i.size, i.bytes)) = some (some (.slice none 0 0), 1, 24) := by kernel_rfl
structure RowsV (w : World) (B : Nat) (v : Value) (R : List (List ByteArray)) (V : Nat → Value) (F : Nat → List Nat) : Prop where
  own : w.ownsRow B 33 1 v R.length ((List.range R.length).map V)
  rd : ∀ i, i < R.length → Sl fStr.cod w (V i) (R.getD i []) (F i)
  ap : ∀ i, i < R.length → ∀ b ∈ F i, B ≤ b ∧ v.ownBlock ≠ some b
section
variable {w w' u : World} {B : Nat} {v v' : Value} {R : List (List ByteArray)} {V : Nat → Value} {F : Nat → List Nat}
theorem ownsRow_belowR {e : TypeId} {n size : Nat} {xs : List Value} (h : w.ownsRow B e size v n xs) (hb : Below w.heap.size w w') : w'.ownsRow B e size v n xs := by
  obtain ⟨h1, h2⟩ := h
  refine ⟨h1, ?_⟩
  rcases h2 with h2 | ⟨g, cap, cur, hv, hg, hh, r⟩
  · exact .inl h2
  · have hgl : g < w.heap.size := by
      rcases Nat.lt_or_ge g w.heap.size with hlt | hge
      · exact hlt
      · rw [Array.getElem?_eq_none hge] at hh; cases hh
    exact .inr ⟨g, cap, cur, hv, hg, by rw [hb.block _ hgl]; exact hh, r⟩
theorem RowsV.below (h : RowsV w B v R V F) (hb : Below w.heap.size w w') : RowsV w' B v R V F :=
  ⟨ownsRow_belowR h.own hb, fun i hi => (h.rd i hi).below' hb, h.ap⟩
theorem RowsV.lt (h : RowsV w B v R V F) : ∀ k, v.ownBlock = some k → k < w.heap.size := fun k hk => (h.own.lt k hk).2
/-- One more row. -/
theorem RowsV.push {r : List ByteArray} {y : Value} {f : List Nat} (h : RowsV w B v R V F) (hs : Sl fStr.cod w y r f) (hf : ∀ b ∈ f, B ≤ b ∧ v.ownBlock ≠ some b)
    (hown : u.ownsRow B 33 1 v' (R.length + 1) ((List.range R.length).map V ++ [y])) (hg : w.grownBy u v.ownBlock) (hl : v'.ownBlock = v.ownBlock ∨ v'.ownBlock = some w.heap.size) :
    RowsV u B v' (R ++ [r]) (fun i => if i = R.length then y else V i) (fun i => if i = R.length then f else F i) := by
  have hlen : (R ++ [r]).length = R.length + 1 := by simp
  have keep : ∀ {x : Value} {q : List ByteArray} {ff : List Nat}, Sl fStr.cod w x q ff → (∀ b ∈ ff, v.ownBlock ≠ some b) → Sl fStr.cod u x q ff := fun hx hne =>
    hx.keep (fun b hb => hg.block b (hx.lt b hb) (fun e => hne b hb e.symm)) hg.size
  have apart : ∀ {b : Nat}, b < w.heap.size → v.ownBlock ≠ some b → v'.ownBlock ≠ some b := fun hb hne => by
    rcases hl with e | e
    · rw [e]; exact hne
    · rw [e]; intro h2; injection h2 with h2; omega
  refine ⟨?_, ?_, ?_⟩
  · rw [hlen]
    have em : (List.range (R.length + 1)).map (fun i => if i = R.length then y else V i) = (List.range R.length).map V ++ [y] := by
      rw [List.range_succ, List.map_append, List.map_cons, List.map_nil, if_pos rfl]
      congr 1
      exact List.map_congr_left (fun i hi => if_neg (by have : i < R.length := by simpa using hi
                                                        omega))
    rw [em]
    exact hown
  · intro i hi
    rw [hlen] at hi
    by_cases e : i = R.length
    · subst e
      rw [if_pos rfl, if_pos rfl, show (R ++ [r]).getD R.length [] = r from by simp]
      exact keep hs (fun b hb => (hf b hb).2)
    · have hi2 : i < R.length := by omega
      rw [if_neg e, if_neg e, show (R ++ [r]).getD i [] = R.getD i [] from by simp [List.getD_eq_getElem?_getD, List.getElem?_append_left hi2]]
      exact keep (h.rd i hi2) (fun b hb => (h.ap i hi2 b hb).2)
  · intro i hi
    rw [hlen] at hi
    by_cases e : i = R.length
    · rw [if_pos e]
      exact fun b hb => ⟨(hf b hb).1, apart (hs.lt b hb) (hf b hb).2⟩
    · have hi2 : i < R.length := by omega
      rw [if_neg e]
      exact fun b hb => ⟨(h.ap i hi2 b hb).1, apart ((h.rd i hi2).lt b hb) (h.ap i hi2 b hb).2⟩
/-- It reads as a slice of slices. -/
theorem RowsV.sl (h : RowsV w B v R V F) (h0 : 0 < R.length) : ∃ fp, Sl fStr.cod.slice w v R fp := by
  obtain ⟨h1, h2⟩ := h.own
  rcases h2 with ⟨hv, hz⟩ | ⟨g, cap, cur, hv, hg, hh, hnc, hcm, hsz, hxs⟩
  · omega
  · have hgl : g < w.heap.size := by
      rcases Nat.lt_or_ge g w.heap.size with hlt | hge
      · exact hlt
      · rw [Array.getElem?_eq_none hge] at hh; cases hh
    have hown : w.ownsRow B 33 1 (.slice (some ⟨g, 0, none⟩) R.length cap) R.length ((List.range R.length).map V) := by rw [← hv]; exact h.own
    have hr : NRows fStr.cod w g 0 R.length V (fun i => R.getD i []) F := ⟨fun i hi => by
      rw [Nat.zero_add, hown.cellAt i (by omega), List.getElem?_map, List.getElem?_range hi]; rfl, fun i _ => by rw [Nat.zero_add]; exact hown.frozenAt i, h.rd⟩
    rw [hv]
    exact ⟨_, hr.sl hgl rfl (fun i hi => by simp [List.getD_eq_getElem?_getD, hi]) hnc hcm⟩
/-- The first row. -/
theorem RowsV.first {r : List ByteArray} {y : Value} {f : List Nat} {w : World} {B : Nat} (hB : B ≤ w.heap.size) (hs : Sl fStr.cod w y r f) (hf : ∀ b ∈ f, B ≤ b) :
    RowsV (w.alloc (.cells #[y] 33)) B (.slice (some ⟨w.heap.size, 0, none⟩) 1 1) [r] (fun _ => y) (fun _ => f) := by
  refine ⟨?_, ?_, ?_⟩
  · exact World.ownsRow_lit (e := 33) (size := 1) w #[y] 1 hB (by decide) rfl
  · intro i hi
    have hi0 : i = 0 := by simpa using hi
    subst hi0
    exact hs.below' ((Below.refl _ _).alloc (Nat.le_refl _) _)
  · intro i hi b hb
    refine ⟨hf b hb, ?_⟩
    have := hs.lt b hb
    show some w.heap.size ≠ some b
    intro e; injection e with e; omega
end
end Go.Proofs.YtmlconbekkdahaaGreatDoor

namespace Go.Proofs.YtmlconbekkdahaaGreatDoor
open Go.RowKit
set_option linter.unusedVariables false

/-- The j-th of the pieces of m elements. -/
def pgAt {α : Type} (m : Nat) (xs : List α) (j : Nat) : List α := (xs.drop (j * m)).take m
def pgN (m k : Nat) : Nat := (k + m - 1) / m
def pgAll (m : Nat) (hd : ByteArray) (xs : List ByteArray) : List (List ByteArray) := (List.range (pgN m xs.length)).map fun j => hd :: pgAt m xs j
theorem pgN_zero {m : Nat} (hm : 0 < m) : pgN m 0 = 0 := by unfold pgN; exact Nat.div_eq_of_lt (by omega)
theorem pgN_full {m k q : Nat} (hm : 0 < m) (hk : k = q * m) : pgN m k = q ∧ pgN m (k + 1) = q + 1 := by
  subst hk
  unfold pgN
  constructor
  · rw [show q * m + m - 1 = (m - 1) + m * q by rw [Nat.mul_comm]; omega, Nat.add_mul_div_left _ _ hm, Nat.div_eq_of_lt (by omega)]; omega
  · rw [show q * m + 1 + m - 1 = 0 + m * (q + 1) by rw [Nat.mul_succ, Nat.mul_comm]; omega, Nat.add_mul_div_left _ _ hm]; simp
theorem pgN_part {m k q r : Nat} (hm : 0 < m) (hk : k = q * m + r) (hr0 : 0 < r) (hr : r ≤ m) : pgN m k = q + 1 := by
  subst hk
  unfold pgN
  rw [show q * m + r + m - 1 = (r - 1) + m * (q + 1) by rw [Nat.mul_succ, Nat.mul_comm]; omega, Nat.add_mul_div_left _ _ hm, Nat.div_eq_of_lt (by omega)]; omega
theorem pgAt_take_old {α : Type} {m k k' j : Nat} {xs : List α} (h1 : (j + 1) * m ≤ k) (h2 : (j + 1) * m ≤ k') : pgAt m (xs.take k) j = pgAt m (xs.take k') j := by
  unfold pgAt
  rw [Nat.succ_mul] at h1 h2
  rw [List.drop_take, List.drop_take, List.take_take, List.take_take, Nat.min_eq_left (by omega), Nat.min_eq_left (by omega)]
theorem pgAt_last {α : Type} {m k j r : Nat} {xs : List α} (hk : k = j * m + r) (hr : r ≤ m) (hl : k ≤ xs.length) : pgAt m (xs.take k) j = (xs.drop (j * m)).take r := by
  unfold pgAt
  rw [List.drop_take, List.take_take, hk, Nat.add_sub_cancel_left, Nat.min_eq_right hr]
theorem pgAt_len {α : Type} {m k j r : Nat} {xs : List α} (hk : k = j * m + r) (hr : r ≤ m) (hl : k ≤ xs.length) : (pgAt m (xs.take k) j).length = r := by
  rw [pgAt_last hk hr hl, List.length_take, List.length_drop]; omega
theorem pgAt_snoc {α : Type} {m k j r : Nat} {xs : List α} (hk : k = j * m + r) (hr : r < m) (hl : k < xs.length) : pgAt m (xs.take (k + 1)) j = pgAt m (xs.take k) j ++ [xs[k]] := by
  rw [pgAt_last (r := r + 1) (by omega) (by omega) (by omega), pgAt_last (r := r) hk (by omega) (by omega), List.take_add_one, List.getElem?_drop, ← hk, List.getElem?_eq_getElem hl]; rfl
theorem pgAt_first {α : Type} {m k j : Nat} {xs : List α} (hk : k = j * m) (hm : 0 < m) (hl : k < xs.length) : pgAt m (xs.take (k + 1)) j = [xs[k]] := by
  rw [pgAt_snoc (r := 0) (by omega) hm hl]
  have h0 := pgAt_len (m := m) (k := k) (j := j) (r := 0) (xs := xs) (by omega) (by omega) (by omega)
  rw [List.eq_nil_of_length_eq_zero h0]; rfl

theorem own_stays {α : Type} {E : Flat α} {w w' : World} {B : Nat} {e : TypeId} {v : Value} {L : List α} (h : Own E w B e v L) (hk : ∀ k, v.ownBlock = some k → k < w.heap.size → w'.heap[k]? = w.heap[k]?) : Own E w' B e v L := by
  obtain ⟨h1, h2⟩ := h
  refine ⟨h1, ?_⟩
  rcases h2 with h2 | ⟨g, cap, cur, hv, hg, hh, r⟩
  · exact .inl h2
  · have hgl : g < w.heap.size := by
      rcases Nat.lt_or_ge g w.heap.size with hlt | hge
      · exact hlt
      · rw [Array.getElem?_eq_none hge] at hh; cases hh
    exact .inr ⟨g, cap, cur, hv, hg, by rw [hk g (by rw [hv]; rfl) hgl]; exact hh, r⟩
theorem own_at {α : Type} {E : Flat α} {w : World} {B : Nat} {e : TypeId} {v : Value} {L : List α} (h : Own E w B e v L) {g : Nat} (hg : v.ownBlock = some g) : B ≤ g ∧ g < w.heap.size := by
  rcases h.2 with ⟨hv, _⟩ | ⟨g', cap, cur, hv, hg', hh, _⟩
  · rw [hv] at hg; cases hg
  · rw [hv] at hg
    injection hg with hg
    have hg : g' = g := hg
    subst hg
    refine ⟨hg', ?_⟩
    rcases Nat.lt_or_ge g' w.heap.size with hlt | hge
    · exact hlt
    · rw [Array.getElem?_eq_none hge] at hh; cases hh
theorem own_fp {α : Type} {E : Flat α} {w : World} {base : Nat} {e : TypeId} {v : Value} {L : List α} (h : Own E w base e v L) (hok : ∀ x ∈ L, E.ok x) :
    ∃ fp, Sl E.cod w v L fp ∧ (∀ b ∈ fp, base ≤ b) ∧ fp.Nodup ∧ ∀ b ∈ fp, v.ownBlock = some b := by
  obtain ⟨fp, h1, h2, h3⟩ := Sl.of_own (n := L.length) rfl h hok
  rcases Nat.eq_zero_or_pos L.length with h0 | h0
  · obtain rfl := List.eq_nil_of_length_eq_zero h0
    refine ⟨[], ?_, by simp, by simp, by simp⟩
    obtain ⟨A, cap, hv, hl, hc, _⟩ := h1
    exact ⟨A, cap, hv, hl, hc, .inl ⟨rfl, rfl⟩⟩
  · refine ⟨fp, h1, h2, h3, fun b hb => ?_⟩
    obtain ⟨A, cap, rfl, _, _⟩ := h1.form
    obtain ⟨b', off, hA, hfp, _⟩ := h1.cells h0
    subst hA
    rw [hfp] at hb
    rw [List.mem_singleton] at hb
    subst hb
    rfl
structure PgV (w : World) (B : Nat) (v : Value) (n : Nat) (V : Nat → Value) (X : Nat → List ByteArray) (G : Nat → Nat) : Prop where
  own : w.ownsRow B 33 1 v n ((List.range n).map V)
  row : ∀ i, i < n → Own fStr w B 9 (V i) (X i)
  blk : ∀ i, i < n → (V i).ownBlock = some (G i)
  inj : ∀ i j, i < n → j < n → G i = G j → i = j
  ap : ∀ i, i < n → v.ownBlock ≠ some (G i)
section
variable {w w' u : World} {B n : Nat} {v v' : Value} {V : Nat → Value} {X : Nat → List ByteArray} {G : Nat → Nat}
theorem PgV.gl (h : PgV w B v n V X G) {i : Nat} (hi : i < n) : B ≤ G i ∧ G i < w.heap.size := own_at (h.row i hi) (h.blk i hi)
theorem PgV.below (h : PgV w B v n V X G) (hb : Below w.heap.size w w') : PgV w' B v n V X G :=
  ⟨ownsRow_belowR h.own hb, fun i hi => (h.row i hi).below hb, h.blk, h.inj, h.ap⟩
theorem PgV.nil {c : Nat} (hw : w.ownsRow B 33 1 v 0 []) : PgV w B v 0 (fun _ => undef) (fun _ => []) (fun _ => 0) :=
  ⟨hw, fun i hi => absurd hi (Nat.not_lt_zero i), fun i hi => absurd hi (Nat.not_lt_zero i), fun i j hi => absurd hi (Nat.not_lt_zero i), fun i hi => absurd hi (Nat.not_lt_zero i)⟩
theorem PgV.congr {X' : Nat → List ByteArray} (h : PgV w B v n V X G) (hx : ∀ i, i < n → X i = X' i) : PgV w B v n V X' G :=
  ⟨h.own, fun i hi => by rw [← hx i hi]; exact h.row i hi, h.blk, h.inj, h.ap⟩
theorem PgV.form (h : PgV w B v n V X G) : ∃ A cap, v = .slice A n cap := by
  rcases h.own.2 with ⟨hv, h0⟩ | ⟨g, cap, cur, hv, _⟩
  · exact ⟨none, 0, by rw [hv, h0]⟩
  · exact ⟨_, cap, hv⟩
theorem PgV.addr (h : PgV w B v n V X G) (h0 : 0 < n) : ∃ g cap, v = .slice (some ⟨g, 0, none⟩) n cap ∧ B ≤ g ∧ g < w.heap.size := by
  rcases h.own.2 with ⟨hv, h1⟩ | ⟨g, cap, cur, hv, hg, hh, _⟩
  · omega
  · refine ⟨g, cap, hv, hg, ?_⟩
    rcases Nat.lt_or_ge g w.heap.size with hlt | hge
    · exact hlt
    · rw [Array.getElem?_eq_none hge] at hh; cases hh
theorem PgV.last (h : PgV w B v n V X G) {i : Nat} (hi : i < n) (h0 : 0 < (X i).length) : ∃ c, V i = .slice (some ⟨G i, 0, none⟩) (X i).length c := by
  have hb := h.blk i hi
  rcases (h.row i hi).2 with ⟨hv, h1⟩ | ⟨g, cap, cur, hv, _⟩
  · omega
  · rw [hv] at hb
    injection hb with hb
    have hb : g = G i := hb
    subst hb
    exact ⟨cap, hv⟩
/-- One page more. -/
theorem PgV.push {r : List ByteArray} {y : Value} {gy : Nat} (h : PgV w B v n V X G) (hy : Own fStr w B 9 y r) (hgy : y.ownBlock = some gy) (hne : ∀ i, i < n → G i ≠ gy) (hvy : v.ownBlock ≠ some gy)
    (hown : u.ownsRow B 33 1 v' (n + 1) ((List.range n).map V ++ [y])) (hg : w.grownBy u v.ownBlock) (hl : v'.ownBlock = v.ownBlock ∨ v'.ownBlock = some w.heap.size) :
    PgV u B v' (n + 1) (fun i => if i = n then y else V i) (fun i => if i = n then r else X i) (fun i => if i = n then gy else G i) := by
  have keep : ∀ {z : Value} {q : List ByteArray} {b : Nat}, Own fStr w B 9 z q → z.ownBlock = some b → v.ownBlock ≠ some b → Own fStr u B 9 z q := fun hz hb hne => own_stays hz fun k hk hkl => hg.block k hkl (fun e => hne (by rw [← e]; rw [hb] at hk; exact hk.symm))
  have apart : ∀ {b : Nat}, b < w.heap.size → v.ownBlock ≠ some b → v'.ownBlock ≠ some b := fun hb hne => by
    rcases hl with e | e
    · rw [e]; exact hne
    · rw [e]; intro h2; injection h2 with h2; omega
  have hyl := own_at hy hgy
  refine ⟨?_, fun i hi => ?_, fun i hi => ?_, fun i j hi hj e => ?_, fun i hi => ?_⟩
  · have em : (List.range (n + 1)).map (fun i => if i = n then y else V i) = (List.range n).map V ++ [y] := by
      rw [List.range_succ, List.map_append, List.map_cons, List.map_nil, if_pos rfl]
      congr 1
      exact List.map_congr_left (fun i hi => if_neg (by have : i < n := by simpa using hi
                                                        omega))
    rw [em]
    exact hown
  · by_cases e : i = n
    · rw [if_pos e, if_pos e]; exact keep hy hgy hvy
    · rw [if_neg e, if_neg e]; exact keep (h.row i (by omega)) (h.blk i (by omega)) (h.ap i (by omega))
  · by_cases e : i = n
    · rw [if_pos e, if_pos e]; exact hgy
    · rw [if_neg e, if_neg e]; exact h.blk i (by omega)
  · by_cases e1 : i = n <;> by_cases e2 : j = n
    · omega
    · rw [if_pos e1, if_neg e2] at e; exact absurd e.symm (hne j (by omega))
    · rw [if_neg e1, if_pos e2] at e; exact absurd e (hne i (by omega))
    · rw [if_neg e1, if_neg e2] at e; exact h.inj i j (by omega) (by omega) e
  · by_cases e : i = n
    · rw [if_pos e]; exact apart hyl.2 hvy
    · rw [if_neg e]; exact apart (h.gl (by omega)).2 (h.ap i (by omega))
/-- The last page grows: its row went to y, in the world u; its place is stored. -/
theorem PgV.grow {g cap : Nat} {r : List ByteArray} {y : Value} {gy : Nat} (h : PgV w B (.slice (some ⟨g, 0, none⟩) (n + 1) cap) (n + 1) V X G) (hy : Own fStr u B 9 y r) (hgy : y.ownBlock = some gy)
    (hg : w.grownBy u (V n).ownBlock) (hl : y.ownBlock = (V n).ownBlock ∨ y.ownBlock = some w.heap.size) :
    PgV (u.setCell ⟨g, n, none⟩ y) B (.slice (some ⟨g, 0, none⟩) (n + 1) cap) (n + 1) (fun i => if i = n then y else V i) (fun i => if i = n then r else X i) (fun i => if i = n then gy else G i) := by
  obtain ⟨g', cap', hv, hgB, hgl⟩ := h.addr (by omega)
  injection hv with hv1 _ hv2
  injection hv1 with hv1
  injection hv1 with hv1
  subst hv1 hv2
  have hbn := h.blk n (by omega)
  have hgn : g ≠ G n := fun e => h.ap n (by omega) (by rw [← e]; rfl)
  have hgu : u.heap[g]? = w.heap[g]? := hg.block g hgl (by rw [hbn]; intro e; injection e with e; exact hgn e)
  have hgGi : ∀ i, i < n + 1 → g ≠ G i := fun i hi e => h.ap i hi (by rw [← e]; rfl)
  have hgy' : gy = G n ∨ gy = w.heap.size := by
    rcases hl with e | e
    · rw [hgy, hbn] at e; injection e with e; exact .inl e
    · rw [hgy] at e; injection e with e; exact .inr e
  have hne : g ≠ gy := by
    rcases hgy' with e | e
    · rw [e]; exact hgn
    · omega
  have hset : ∀ k, k < u.heap.size → k ≠ g → (u.setCell ⟨g, n, none⟩ y).heap[k]? = u.heap[k]? := fun k hkl hk => ((Only.refl [g] u).set n y).block k hkl (by rw [List.mem_singleton]; exact hk)
  refine ⟨?_, fun i hi => ?_, fun i hi => ?_, fun i j hi hj e => ?_, fun i hi => ?_⟩
  · have hu : u.ownsRow B 33 1 (.slice (some ⟨g, 0, none⟩) (n + 1) cap) (n + 1) ((List.range (n + 1)).map V) := by
      obtain ⟨h1, h2⟩ := h.own
      refine ⟨h1, ?_⟩
      rcases h2 with ⟨hv, _⟩ | ⟨g2, c2, cur, hv, q1, q2, q3⟩
      · cases hv
      · injection hv with e1 _ e2
        injection e1 with e1
        injection e1 with e1
        subst e1 e2
        exact .inr ⟨g, cap, cur, rfl, q1, by rw [hgu]; exact q2, q3⟩
    have h2 := (hu.stored n y).1
    have em : ((List.range (n + 1)).map V).set n y = (List.range (n + 1)).map (fun i => if i = n then y else V i) := by
      refine List.ext_getElem (by simp) (fun i h1 h2 => ?_)
      rw [List.getElem_set]
      simp only [List.length_map, List.length_range] at h2
      by_cases e : n = i
      · subst e; simp
      · rw [if_neg e]; simp [Ne.symm e]
    rw [em] at h2
    exact h2
  · by_cases e : i = n
    · rw [if_pos e, if_pos e]
      exact own_stays hy (fun k hk hkl => hset k hkl (fun e2 => by rw [hgy] at hk; injection hk with hk; exact hne (by rw [← e2, ← hk])))
    · rw [if_neg e, if_neg e]
      have hGi : G i ≠ G n := fun e2 => e (h.inj i n (by omega) (by omega) e2)
      have h1 : Own fStr u B 9 (V i) (X i) := own_stays (h.row i (by omega)) (fun k hk hkl => hg.block k hkl (by
        rw [h.blk i (by omega)] at hk; injection hk with hk
        rw [hbn, ← hk]; intro e2; injection e2 with e2; exact hGi e2))
      exact own_stays h1 (fun k hk hkl => hset k hkl (fun e2 => by
        rw [h.blk i (by omega)] at hk; injection hk with hk
        exact hgGi i (by omega) (by rw [← e2, ← hk])))
  · by_cases e : i = n
    · rw [if_pos e, if_pos e]; exact hgy
    · rw [if_neg e, if_neg e]; exact h.blk i (by omega)
  · have hlt : ∀ k, k < n → G k ≠ gy := fun k hk e => by
      rcases hgy' with e2 | e2
      · have := h.inj k n (by omega) (by omega) (e.trans e2); omega
      · have := (h.gl (i := k) (by omega)).2; omega
    by_cases e1 : i = n <;> by_cases e2 : j = n
    · omega
    · rw [if_pos e1, if_neg e2] at e; exact absurd e.symm (hlt j (by omega))
    · rw [if_neg e1, if_pos e2] at e; exact absurd e (hlt i (by omega))
    · rw [if_neg e1, if_neg e2] at e; exact h.inj i j (by omega) (by omega) e
  · show some g ≠ _
    by_cases e : i = n
    · rw [if_pos e]; intro e3; injection e3 with e3; exact hne e3
    · rw [if_neg e]; intro e3; injection e3 with e3; exact hgGi i (by omega) e3
/-- It reads as a slice of slices. -/
theorem PgV.sl {xss : List (List ByteArray)} (h : PgV w B v n V X G) (hx : xss = (List.range n).map X) (hok : ∀ i, i < n → ∀ x ∈ X i, fStr.ok x) : ∃ fp, Sl fStr.cod.slice w v xss fp ∧ (∀ b ∈ fp, B ≤ b) ∧ fp.Nodup := by
  have hxl : xss.length = n := by rw [hx]; simp
  rcases Nat.eq_zero_or_pos n with h0 | h0
  · subst h0
    obtain ⟨A, cap, rfl⟩ := h.form
    have : xss = [] := List.eq_nil_of_length_eq_zero hxl
    subst this
    have hc : 0 ≤ cap ∧ cap ≤ maxLen := by
      rcases h.own.2 with ⟨hv, _⟩ | ⟨g, c, cur, hv, _, _, _, hcm, _⟩
      · injection hv with _ _ e; subst e; simp [maxLen]
      · injection hv with _ _ e; subst e; exact ⟨Nat.zero_le _, hcm⟩
    exact ⟨[], ⟨A, cap, rfl, hc.1, hc.2, .inl ⟨rfl, rfl⟩⟩, by simp, by simp⟩
  · obtain ⟨g, cap, rfl, hgB, hgl⟩ := h.addr h0
    have hex : ∀ i, ∃ f : List Nat, i < n → Sl fStr.cod w (V i) (X i) f ∧ (∀ b ∈ f, B ≤ b) ∧ f.Nodup ∧ ∀ b ∈ f, (V i).ownBlock = some b := fun i => by
      by_cases hi : i < n
      · obtain ⟨f, hf⟩ := own_fp (h.row i hi) (hok i hi)
        exact ⟨f, fun _ => hf⟩
      · exact ⟨[], fun h => absurd h hi⟩
    obtain ⟨F, hF⟩ := Classical.axiomOfChoice hex
    have hFG : ∀ i, i < n → ∀ b ∈ F i, b = G i := fun i hi b hb => by
      have h1 := (hF i hi).2.2.2 b hb
      rw [h.blk i hi] at h1
      injection h1 with h1; exact h1.symm
    obtain ⟨hcn, hcm⟩ : n ≤ cap ∧ cap ≤ maxLen := by
      rcases h.own.2 with ⟨hv, _⟩ | ⟨g', c, cur, hv, _, _, hnc, hcm, _⟩
      · cases hv
      · injection hv with _ _ e; subst e; exact ⟨hnc, hcm⟩
    have hr : NRows fStr.cod w g 0 n V X F := ⟨fun i hi => by
      rw [Nat.zero_add, h.own.cellAt i (by omega), List.getElem?_map, List.getElem?_range hi]; rfl, fun i _ => by rw [Nat.zero_add]; exact h.own.frozenAt i, fun i hi => (hF i hi).1⟩
    refine ⟨g :: (List.range n).flatMap F, hr.sl hgl hxl (fun i hi => by rw [List.getElem_of_eq hx]; simp) hcn hcm, ?_, ?_⟩
    · intro b hb
      rcases List.mem_cons.1 hb with rfl | hb
      · exact hgB
      · obtain ⟨i, hi, hb⟩ := List.mem_flatMap.1 hb
        exact (hF i (by simpa using hi)).2.1 b hb
    · rw [List.nodup_cons]
      constructor
      · intro hb
        obtain ⟨i, hi, hb⟩ := List.mem_flatMap.1 hb
        have hi : i < n := by simpa using hi
        have := hFG i hi g hb
        exact h.ap i hi (by rw [← this]; rfl)
      · unfold List.Nodup
        rw [List.pairwise_flatMap]
        refine ⟨fun i hi => (hF i (by simpa using hi)).2.2.1, ?_⟩
        refine (List.pairwise_lt_range).imp_of_mem ?_
        intro i j hi hj hij b hb c hc e
        have hi : i < n := by simpa using hi
        have hj : j < n := by simpa using hj
        have e1 := hFG i hi b hb
        have e2 := hFG j hj c hc
        have := h.inj i j hi hj (by rw [← e1, ← e2, e])
        omega
end
end Go.Proofs.YtmlconbekkdahaaGreatDoor
