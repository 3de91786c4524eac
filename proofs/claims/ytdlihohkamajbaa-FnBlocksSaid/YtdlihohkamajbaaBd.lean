/- Contracts: a copy of blocks, DropBlock. Written by wip/gen/bd.py. -/
import Derived.Test.YtdlihohkamajbaaBn
import Derived.Test.YtdlihohkamajbaaAp
namespace Go.Proofs.Ytdlihohkamajbaa
open Go.RowKit
set_option linter.unusedVariables false

theorem infoBlock2 : (Try.prog.info? 27).map (fun i => (i.zero, i.size, i.bytes)) = some (some (.agg #[.string ⟨#[]⟩, .string ⟨#[]⟩, .string ⟨#[]⟩]), 3, 48) := by kernel_rfl
/-- A row of the call's own that holds the list. -/
def OwnR {α : Type} (E : Flat α) (T : TypeId) (w : World) (xs : List α) (e : Ending) (w' : World) : Prop := ∃ v, e = .returned v ∧ Own E w' w.heap.size T v xs ∧ Below w.heap.size w w'
set_option maxRecDepth 100000 in
set_option maxHeartbeats 1000000 in
theorem cloneB_any (v : Value) (xs : List DBlock) (fp : List Nat) (w : World) (hx : Sl fBlock.cod w v xs fp) (hl : xs.length ≤ 1000000) :
    Calls Try.prog 21 #[v] w fun e w' => OwnR fBlock 27 w xs e w' := by
  obtain ⟨A, cap, rfl, hlen, hcap⟩ := hx.form
  obtain ⟨i0, hi, hz0, hz1, hz2⟩ := info_parts infoBlock2
  have hsrc := (hx.below' ((Below.refl _ _).alloc (Nat.le_refl _) (.cells #[] 27))).src
  have ho := Own.lit0 fBlock w 27
  have hb0 : Below w.heap.size w (w.alloc (.cells #[] 27)) := (Below.refl _ _).alloc (Nat.le_refl _) _
  have hs2 := hb0.size
  have q22 : ∀ (w : World) (a : Option Addr) (n c n' c' : Nat), (binOp .eql 24 (.slice a n c) (.slice none n' c')).run Try.prog w = .ok (.bool a.isNone) w := fun w a n c n' c' => Lib.run_eql_slice_nil w _ _ a n c n' c' Try.underlying24
  cases A with
  | none =>
    have hnil : xs = [] := by
      rcases Nat.eq_zero_or_pos xs.length with h0 | h0
      · exact List.eq_nil_of_length_eq_zero h0
      · obtain ⟨b, off, hA, _⟩ := hx.cells h0
        cases hA
    subst hnil
    go_enter Try.func21, Try.ntmps21
    go_wp2
    go_ret
    exact ⟨_, rfl, Own.nil _ _ _ _, Below.refl _ _⟩
  | some ad =>
    go_enter Try.func21, Try.ntmps21
    go_wp2_with (at_builtin; refine wpList_append_src (E := fBlock) rfl _ _ 24 rfl w.heap.size 27 i0 (.agg #[.string ⟨#[]⟩, .string ⟨#[]⟩, .string ⟨#[]⟩]) 48 Try.underlying24 hi hz0 hz1 hz2 rfl (.slice (some ⟨w.heap.size, 0, none⟩) 0 0) [] rfl ho _ xs rfl hsrc (by simp; omega) (by decide) hs2 ?_)
    intro v' u hown hbu
    try rw [List.nil_append] at hown
    go_wp2
    go_ret
    exact ⟨_, rfl, hown, hb0.trans hbu⟩

def dbC (xs : List DBlock) (k n : ByteArray) : Int := if blocksB xs then (if hasKey xs ⟨k, n, ⟨#[]⟩⟩ then 0 else 3) else 1
def dbF (xs : List DBlock) (k n : ByteArray) : List DBlock := if blocksB xs && hasKey xs ⟨k, n, ⟨#[]⟩⟩ then xs.take (atB xs ⟨k, n, ⟨#[]⟩⟩) ++ xs.drop (atB xs ⟨k, n, ⟨#[]⟩⟩ + 1) else []
theorem dbF_ok {xs : List DBlock} {k n : ByteArray} (h : ∀ x ∈ xs, fBlock.ok x) : ∀ x ∈ dbF xs k n, fBlock.ok x := by
  unfold dbF; split
  · intro x hx
    rcases List.mem_append.1 hx with hx | hx
    · exact h x (List.mem_of_mem_take hx)
    · exact h x (List.mem_of_mem_drop hx)
  · simp
theorem dbF_len {xs : List DBlock} {k n : ByteArray} (h : xs.length ≤ 1048576) : (dbF xs k n).length ≤ 100000000000 := by
  unfold dbF; split
  · simp; omega
  · simp
theorem zeroB_run (w : World) : (zeroValue 27).run Try.prog w = .ok (.agg #[.string ⟨#[]⟩, .string ⟨#[]⟩, .string ⟨#[]⟩]) w := by kernel_rfl
theorem run_clearB (w : World) (ty : TypeId) (g o c : Nat) (hc : ∀ j, j < 3 → (w.cell? ⟨g, o + j, none⟩).isSome = true) (hf : ∀ j, j < 3 → w.frozen? ⟨g, o + j, none⟩ = false) :
    (Builtin.clear_ #[24] ty #[.slice (some ⟨g, o, none⟩) 1 c]).run Try.prog w = .ok (.tuple #[]) (w.setCells g o [.string ⟨#[]⟩, .string ⟨#[]⟩, .string ⟨#[]⟩]) := by
  have hzc : (Builtin.zeroCells (Value.agg #[.string ⟨#[]⟩, .string ⟨#[]⟩, .string ⟨#[]⟩]).cells 1).toList = [.string ⟨#[]⟩, .string ⟨#[]⟩, .string ⟨#[]⟩] := by kernel_rfl
  have hst := run_storeCells_cells (P := Try.prog) g o [.string ⟨#[]⟩, .string ⟨#[]⟩, .string ⟨#[]⟩] 0 w (by simpa using hc) (by simpa using hf) (by intro v hv; simp at hv; subst hv; rfl)
  simp only [Nat.add_zero] at hst
  simp [Builtin.clear_, run_underlying Try.underlying24, zeroB_run, hzc, hst]
set_option maxRecDepth 100000 in
set_option maxHeartbeats 2000000 in
theorem deleteB_any (xs : List DBlock) (g cap at_ base : Nat) (w : World) (hown : w.ownsRow base 27 3 (.slice (some ⟨g, 0, none⟩) xs.length cap) xs.length (xs.flatMap fBlock.enc)) (hlt : at_ < xs.length) (hl : xs.length ≤ 1000000) (hc1 : xs.length ≤ cap) (hc2 : cap ≤ 9223372036854775807) (hg : base ≤ g) (hgw : g < w.heap.size) :
    Calls Try.prog 20 #[.slice (some ⟨g, 0, none⟩) xs.length cap, .int .i64 at_, .int .i64 ((at_ : Int) + 1)] w fun e w' => ∃ v, e = .returned v ∧ Own fBlock w' base 27 v (xs.take at_ ++ xs.drop (at_ + 1)) ∧ Below base w w' := by
  obtain ⟨i0, hi, hz0, hz1, hz2⟩ := info_parts infoBlock2
  have e0 : ((at_ : Int) == (at_ : Int) + 1) = false := by rw [beq_eq_false_iff_ne]; omega
  have hlt1 : ((xs.take at_).flatMap fBlock.enc).length = at_ * 3 := by rw [flat_len fBlock.enc 3 _ (fun x _ => fBlock.len x)]; simp; omega
  have hnl : ((xs.drop (at_ + 1)).flatMap fBlock.enc).length = (xs.length - (at_ + 1)) * 3 := by rw [flat_len fBlock.enc 3 _ (fun x _ => fBlock.len x)]; simp
  have hone : ∀ u ∈ (xs.drop (at_ + 1)).flatMap fBlock.enc, u.oneCell' = true := fun u hu => by
    obtain ⟨y, _, hy⟩ := List.mem_flatMap.1 hu
    exact fBlock.one y u hy
  have hown0 : w.ownsRow base 27 3 (.slice (some ⟨g, 0, none⟩) at_ cap) at_ ((xs.take at_).flatMap fBlock.enc) := own_prefix hown (by omega) hlt1 (by
    have e : xs.flatMap fBlock.enc = (xs.take at_).flatMap fBlock.enc ++ (xs.drop at_).flatMap fBlock.enc := by rw [← List.flatMap_append, List.take_append_drop]
    exact ⟨_, e.symm⟩)
  have hsrcA : ∀ (j : Nat) u, ((xs.drop (at_ + 1)).flatMap fBlock.enc)[j]? = some u → w.cell? ⟨g, (at_ + 1) * 3 + j, none⟩ = some u := own_tail hown (k := at_ + 1) (by omega)
  obtain ⟨m, hm1, hm2⟩ : ∃ m, xs.length ≤ m + 1 ∧ m + 1 ≤ xs.length := ⟨xs.length - 1, by omega, by omega⟩
  have hmm : at_ + (xs.length - (at_ + 1)) = m := by omega
  by_cases hce : cap = at_ + 1
  · subst hce
    have HD := Lib.hid (show xs.drop (at_ + 1) = [] from List.drop_of_length_le (by omega))
    have hmm0 : at_ + 0 = m := by omega
    clear hnl hone hsrcA hmm
    go_enter Try.func20, Try.ntmps20
    go_wp2
    refine wp_region_mix (C := fun _ => True) [true, true, true, true, true, true, false, true] (by kernel_rfl) (by kernel_rfl) (by kernel_rfl) (fun _ _ d _ _ h => by cases d <;> exact h) trivial ?_
    have hS0 : Below w.heap.size w w.drew := Below.drew (Below.refl _ _)
    refine wpMix_pure (by kernel_rfl) (fun K hK => ?_)
    go_big_quiet_op
    refine hK _ ?_; clear hK K
    refine wpMix_pure (by kernel_rfl) (fun K hK => ?_)
    go_big_quiet_op
    refine hK _ ?_; clear hK K
    refine wpMix_pure (by kernel_rfl) (fun K hK => ?_)
    go_big_quiet_op
    refine hK _ ?_; clear hK K
    refine wpMix_pure (by kernel_rfl) (fun K hK => ?_)
    go_big_quiet_op
    refine hK _ ?_; clear hK K
    refine wpMix_pure (by kernel_rfl) (fun K hK => ?_)
    go_big_quiet_op
    refine hK _ ?_; clear hK K
    refine wpMix_pure (by kernel_rfl) (fun K hK => ?_)
    go_big_quiet_op
    refine hK _ ?_; clear hK K
    refine wpMix_act (by kernel_rfl) (fun K hK => ?_)
    refine wp_append_fits_ _ _ _ 24 rfl base 27 i0 3 Try.underlying24 hi hz1 g at_ (at_ + 1) ((xs.take at_).flatMap fBlock.enc) rfl hown0.drew ⟨g, 0, none⟩ 0 0 [] rfl rfl (by intro j u hu; simp at hu) (by intro u hu; simp at hu) (by omega) ?_
    intro w5 hown5 hg5
    rw [hmm0] at hown5 ⊢
    rw [List.append_nil] at hown5
    simp only [Act.put, List.setIfInBounds_toArray, List.set_cons_zero, List.set_cons_succ]
    refine hK _ _ trivial ?_
    clear hK K
    refine wpMix_pure (by kernel_rfl) (fun K hK => ?_)
    go_big_quiet_op
    refine hK _ ?_; clear hK K
    refine wpMix_nil ?_
    have e2 : xs.length - m = 1 := by omega
    have hclr := run_clearB w5 0 g (m * 3) (at_ + 1 - m) (fun j hj => by obtain ⟨⟨u, hu⟩, _⟩ := own_cell hown5 (p := m * 3 + j) (by omega); rw [hu]; rfl) (fun j hj => (own_cell hown5 (p := m * 3 + j) (by omega)).2)
    go_wp2
    go_ret
    refine ⟨_, rfl, ?_, ?_⟩
    · have hl3 : (xs.take at_ ++ xs.drop (at_ + 1)).length = m := by simp; omega
      show World.ownsRow _ base _ 3 _ (xs.take at_ ++ xs.drop (at_ + 1)).length ((xs.take at_ ++ xs.drop (at_ + 1)).flatMap fBlock.enc)
      rw [hl3, HD.out, List.append_nil]
      exact own_beyond (own_beyond (own_beyond hown5 (p := m * 3) (Nat.le_refl _) _) (p := m * 3 + 1) (by omega) _) (p := m * 3 + 1 + 1) (by omega) _
    · have hB5 : Below base w w5 := ((Below.refl base w).drew).grown hg5 (by show base ≤ w.heap.size; omega) (fun k hk => by cases hk; exact hg)
      exact ((hB5.setCell (p := ⟨g, _, none⟩) hg _).setCell (p := ⟨g, _, none⟩) hg _).setCell (p := ⟨g, _, none⟩) hg _
  · have hcl : at_ + 1 < cap := by omega
    have hnc : ∀ (j : Nat) u, ((xs.drop (at_ + 1)).flatMap fBlock.enc)[j]? = some u → w.drew.cell? ((⟨g, (at_ + 1) * 3, none⟩ : Addr).add j) = some u := fun j u hu => by rw [addr_add]; exact hsrcA j u hu
    go_enter Try.func20, Try.ntmps20
    go_wp2
    refine wp_region_mix (C := fun _ => True) [true, true, true, true, true, true, false, true] (by kernel_rfl) (by kernel_rfl) (by kernel_rfl) (fun _ _ d _ _ h => by cases d <;> exact h) trivial ?_
    have hS0 : Below w.heap.size w w.drew := Below.drew (Below.refl _ _)
    refine wpMix_pure (by kernel_rfl) (fun K hK => ?_)
    go_big_quiet_op
    refine hK _ ?_; clear hK K
    refine wpMix_pure (by kernel_rfl) (fun K hK => ?_)
    go_big_quiet_op
    refine hK _ ?_; clear hK K
    refine wpMix_pure (by kernel_rfl) (fun K hK => ?_)
    go_big_quiet_op
    refine hK _ ?_; clear hK K
    refine wpMix_pure (by kernel_rfl) (fun K hK => ?_)
    go_big_quiet_op
    refine hK _ ?_; clear hK K
    refine wpMix_pure (by kernel_rfl) (fun K hK => ?_)
    go_big_quiet_op
    refine hK _ ?_; clear hK K
    refine wpMix_pure (by kernel_rfl) (fun K hK => ?_)
    go_big_quiet_op
    refine hK _ ?_; clear hK K
    refine wpMix_act (by kernel_rfl) (fun K hK => ?_)
    refine wp_append_fits_ _ _ _ 24 rfl base 27 i0 3 Try.underlying24 hi hz1 g at_ cap ((xs.take at_).flatMap fBlock.enc) rfl hown0.drew ⟨g, (at_ + 1) * 3, none⟩ (xs.length - (at_ + 1)) (cap - (at_ + 1)) ((xs.drop (at_ + 1)).flatMap fBlock.enc) rfl hnl hnc hone (by omega) ?_
    intro w5 hown5 hg5
    rw [hmm] at hown5 ⊢
    simp only [Act.put, List.setIfInBounds_toArray, List.set_cons_zero, List.set_cons_succ]
    refine hK _ _ trivial ?_
    clear hK K
    refine wpMix_pure (by kernel_rfl) (fun K hK => ?_)
    go_big_quiet_op
    refine hK _ ?_; clear hK K
    refine wpMix_nil ?_
    have e2 : xs.length - m = 1 := by omega
    have hclr := run_clearB w5 0 g (m * 3) (cap - m) (fun j hj => by obtain ⟨⟨u, hu⟩, _⟩ := own_cell hown5 (p := m * 3 + j) (by omega); rw [hu]; rfl) (fun j hj => (own_cell hown5 (p := m * 3 + j) (by omega)).2)
    go_wp2
    go_ret
    refine ⟨_, rfl, ?_, ?_⟩
    · have hl3 : (xs.take at_ ++ xs.drop (at_ + 1)).length = m := by simp; omega
      show World.ownsRow _ base _ 3 _ (xs.take at_ ++ xs.drop (at_ + 1)).length ((xs.take at_ ++ xs.drop (at_ + 1)).flatMap fBlock.enc)
      rw [hl3, List.flatMap_append]
      exact own_beyond (own_beyond (own_beyond hown5 (p := m * 3) (Nat.le_refl _) _) (p := m * 3 + 1) (by omega) _) (p := m * 3 + 1 + 1) (by omega) _
    · have hB5 : Below base w w5 := ((Below.refl base w).drew).grown hg5 (by show base ≤ w.heap.size; omega) (fun k hk => by cases hk; exact hg)
      exact ((hB5.setCell (p := ⟨g, _, none⟩) hg _).setCell (p := ⟨g, _, none⟩) hg _).setCell (p := ⟨g, _, none⟩) hg _

theorem own_mono {w : World} {base base' : Nat} {e : TypeId} {size : Nat} {v : Value} {n : Nat} {xs : List Value} (h : w.ownsRow base e size v n xs) (hb : base' ≤ base) : w.ownsRow base' e size v n xs := by
  obtain ⟨h1, h2⟩ := h
  refine ⟨h1, ?_⟩
  rcases h2 with h2 | ⟨g, cap, cur, hv, hg, r⟩
  · exact .inl h2
  · exact .inr ⟨g, cap, cur, hv, by omega, r⟩
theorem own_open {w : World} {base : Nat} {e : TypeId} {size : Nat} {v : Value} {n : Nat} {xs : List Value} (h : w.ownsRow base e size v n xs) (hn : 0 < n) :
    ∃ g cap, v = .slice (some ⟨g, 0, none⟩) n cap ∧ base ≤ g ∧ g < w.heap.size ∧ n ≤ cap ∧ cap ≤ 9223372036854775807 := by
  obtain ⟨h1, h2⟩ := h
  rcases h2 with ⟨_, h0⟩ | ⟨g, cap, cur, hv, hg, hh, hnc, hcm, _, _⟩
  · omega
  · refine ⟨g, cap, hv, hg, ?_, hnc, by unfold maxLen at hcm; exact hcm⟩
    rcases Nat.lt_or_ge g w.heap.size with hlt | hge
    · exact hlt
    · rw [Array.getElem?_eq_none hge] at hh; cases hh
set_option maxRecDepth 100000 in
set_option maxHeartbeats 2000000 in
theorem implDropBlock_any (v : Value) (xs : List DBlock) (fp : List Nat) (k n : ByteArray) (w : World) (hx : Sl fBlock.cod w v xs fp) :
    Calls Try.prog 8 #[v, .string k, .string n] w fun e w' => NewR2 fBlock.cod w (dbF xs k n) (dbC xs k n) e w' := by
  obtain ⟨A, cap, rfl, hlen, hcap⟩ := hx.form
  go_enter Try.func8, Try.ntmps8
  go_wp2_with fail
  refine (validBlocks_any _ xs fp _ hx).mono ?_
  rintro e w1 ⟨rfl, hb1⟩
  cases h0 : blocksB xs
  · go_wp2
    go_ret2
    exact ⟨_, by rw [dbC, h0]; rfl, by rw [dbF, h0]; exact New.nil hb1⟩
  · have hl := blocksB_len h0
    have hor := blocksB_ordered h0
    have hx1 := hx.below' hb1
    go_wp2_with fail
    refine (bsearch_any _ xs fp ⟨k, n, ⟨#[]⟩⟩ _ hx1 hor (by omega)).mono ?_
    rintro e w2 ⟨rfl, hb2⟩
    have hb' := hb1.trans (hb2.mono hb1.size)
    have hx2 := hx.below' hb'
    cases h1 : hasKey xs ⟨k, n, ⟨#[]⟩⟩
    · go_wp2
      go_ret2
      exact ⟨_, by rw [dbC, h0, h1]; rfl, by rw [dbF, h0, h1]; exact New.nil hb'⟩
    · obtain ⟨hlt, _⟩ := hasKey_some h1
      have HF : Hid (dbF xs k n = xs.take (atB xs ⟨k, n, ⟨#[]⟩⟩) ++ xs.drop (atB xs ⟨k, n, ⟨#[]⟩⟩ + 1)) := by show _ = _; rw [dbF, h0, h1]; rfl
      have HC : Hid (dbC xs k n = 0) := by show _ = _; rw [dbC, h0, h1]; rfl
      have HOK := dbF_ok (k := k) (n := n) hx.oks
      generalize atB xs ⟨k, n, ⟨#[]⟩⟩ = at_ at *
      go_wp2_with fail
      refine (cloneB_any _ xs fp _ hx2 (by omega)).mono ?_
      rintro e w3 ⟨v3, rfl, hown, hb3⟩
      have hown' : w3.ownsRow w2.heap.size 27 3 v3 xs.length (xs.flatMap fBlock.enc) := hown
      obtain ⟨g, cap3, rfl, hg, hgw, hc1, hc2⟩ := own_open hown' (by omega)
      go_wp2_with fail
      refine (deleteB_any xs g cap3 at_ w2.heap.size _ hown' hlt (by omega) hc1 hc2 hg hgw).mono ?_
      rintro e w4 ⟨v4, rfl, hown4, hb4⟩
      have hb5 : Below w.heap.size w w4 := hb'.trans ((hb3.trans hb4).mono hb'.size)
      have ho2 : Own fBlock w4 w.heap.size 27 v4 (dbF xs k n) := by rw [HF.out]; exact own_mono hown4 hb'.size
      go_wp2
      go_ret2
      exact ⟨_, by rw [HC.out]; rfl, ho2.new hb5 HOK⟩

end Go.Proofs.Ytdlihohkamajbaa
