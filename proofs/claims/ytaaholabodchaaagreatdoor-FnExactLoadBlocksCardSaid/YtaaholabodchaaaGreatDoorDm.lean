/- The lines of bytes, and DamagedLines. Written by wip/gen/dm.py. -/
import Derived.Test.YtaaholabodchaaaGreatDoorPa
import Derived.Test.YtaaholabodchaaaGreatDoorTInt64
namespace Go.Proofs.YtaaholabodchaaaGreatDoor
open Go.RowKit
set_option linter.unusedVariables false

/-- The first ones of a slice. -/
theorem Sl.fst_ {α : Type} {E : Flat α} {w : World} {b off len cap : Nat} {xs : List α} {fp : List Nat} (h : Sl E.cod w (.slice (some ⟨b, off, none⟩) len cap) xs fp) {k : Nat} (hk : k ≤ xs.length) :
    ∃ fp', Sl E.cod w (.slice (some ⟨b, off, none⟩) k cap) (xs.take k) fp' := by
  obtain ⟨A', cap', hv, hl, hc, hr⟩ := h
  injection hv with hA hn hcap
  subst hcap
  have hlk : (xs.take k).length = k := by simp; omega
  rcases hr with ⟨h1, _⟩ | ⟨b', off', F, hA2, hb, hfp, hi⟩
  · subst h1
    have : k = 0 := by simpa using hk
    subst this
    exact ⟨[], _, cap, rfl, by simp, hc, .inl ⟨rfl, rfl⟩⟩
  · rw [← hA] at hA2
    injection hA2 with e
    injection e with e1 e2 _
    subst e1 e2
    refine ⟨_, _, cap, by rw [hlk], by rw [hlk]; omega, hc, .inr ⟨b, off, F, rfl, hb, rfl, fun i hi' => ?_⟩⟩
    rw [hlk] at hi'
    obtain ⟨cs, q1, q2, q3⟩ := hi i (by omega)
    exact ⟨cs, q1, q2, by rw [List.getElem_take]; exact q3⟩
def linL (s : ByteArray) : List ByteArray := (splS 10 s).dropLast
def linQ (s : ByteArray) : ByteArray := (splS 10 s).getLastD ⟨#[]⟩
theorem lin_cut (s : ByteArray) : splS 10 s = linL s ++ [linQ s] ∧ ((linL s).flatMap fun p : ByteArray => p.data.toList ++ [10]) ++ (linQ s).data.toList = s.data.toList := by
  obtain ⟨P, q, h1, h2⟩ := splS_cut 10 s
  have hL : linL s = P := by unfold linL; rw [h1, List.dropLast_concat]
  have hQ : linQ s = q := by unfold linQ; rw [h1]; simp [List.getLastD_eq_getLast?]
  rw [hL, hQ]
  exact ⟨h1, h2⟩
theorem flat_lens (L : List ByteArray) : (L.flatMap fun p : ByteArray => p.data.toList ++ [10]).length = (L.map (fun p : ByteArray => p.size + 1)).sum := by
  induction L with
  | nil => rfl
  | cons a L ih => rw [List.flatMap_cons, List.length_append, ih, List.map_cons, List.sum_cons, List.length_append]; simp
theorem sum_mem_le {L : List ByteArray} {x : ByteArray} (h : x ∈ L) : x.size + L.length ≤ (L.map (fun p : ByteArray => p.size + 1)).sum := by
  induction L with
  | nil => cases h
  | cons a L ih =>
    rw [List.map_cons, List.sum_cons, List.length_cons]
    have hl : L.length ≤ (L.map (fun p : ByteArray => p.size + 1)).sum := by
      clear ih h
      induction L with
      | nil => simp
      | cons b L ih => rw [List.map_cons, List.sum_cons, List.length_cons]; omega
    rcases List.mem_cons.1 h with rfl | h
    · omega
    · have := ih h; omega
theorem lin_tot (s : ByteArray) : ((linL s).map (fun p : ByteArray => p.size + 1)).sum + (linQ s).size = s.size := by
  obtain ⟨_, h2⟩ := lin_cut s
  have h3 := congrArg List.length h2
  rw [List.length_append, flat_lens, data_len, data_len] at h3
  exact h3
theorem lin_size (s : ByteArray) : ∀ x ∈ splS 10 s, x.size ≤ s.size := by
  intro x hx
  have ht := lin_tot s
  rw [(lin_cut s).1, List.mem_append] at hx
  rcases hx with hx | hx
  · have := sum_mem_le hx; omega
  · rw [List.mem_singleton] at hx; subst hx; omega
theorem lin_len (s : ByteArray) : (linL s).length ≤ s.size := by
  have ht := lin_tot s
  cases hL : linL s with
  | nil => simp
  | cons a L =>
    rw [hL] at ht
    have h1 := sum_mem_le (L := a :: L) (x := a) (by simp)
    rw [List.length_cons] at h1 ⊢
    omega
theorem linL_size {s x : ByteArray} (h : x ∈ linL s) : x.size ≤ s.size := lin_size s x (by rw [(lin_cut s).1]; simp [h])
theorem New.on {α : Type} {E : Cod α} {w w1 w2 : World} {v : Value} {xs : List α} (h : New E w v xs w1) (hb : Below w1.heap.size w1 w2) : New E w v xs w2 := by
  obtain ⟨⟨fp, h1, h2, h3⟩, h4⟩ := h
  exact ⟨⟨fp, h1.below' hb, h2, h3⟩, h4.trans (hb.mono h4.size)⟩
theorem blockB_ok {x : DBlock} (h : blockB x = true) : fBlock.ok x := by
  obtain ⟨h0, h1, h2⟩ := blockB_sizes h
  exact ⟨by show x.kind.size ≤ 9223372036854775807; omega, by show x.name.size ≤ 9223372036854775807; omega, by show x.text.size ≤ 9223372036854775807; omega⟩
theorem parse_valid {line : ByteArray} (h : parseC line = 0) : blockB (parseB line) = true := by
  unfold parseB; rw [if_pos h]
  unfold parseC at h
  split at h
  · cases h
  · split at h
    · cases h
    · split at h
      · cases h
      · rename_i h3
        cases hb : blockB (blkP (restP line))
        · exact absurd (.inr hb) h3
        · rfl
def emptyB (s : ByteArray) : Bool := decide (s = ⟨#[]⟩)
def LinR (w : World) (s : ByteArray) (e : Ending) (w' : World) : Prop := ∃ v fp, e = .returned (.tuple #[v, .bool (emptyB (linQ s))]) ∧ Sl fStr.cod w' v (linL s) fp ∧ Below w.heap.size w w'
theorem emptyB_eq (s : ByteArray) : (s.toList == []) = emptyB s := by
  unfold emptyB
  by_cases h : s = ⟨#[]⟩
  · rw [decide_eq_true h, h]; simp [ByteArray.toList_eq]
  · rw [decide_eq_false h, beq_eq_false_iff_ne]
    exact fun e => h (bytes_toList_inj (e.trans (by simp [ByteArray.toList_eq])))
set_option maxRecDepth 100000 in
set_option maxHeartbeats 2000000 in
theorem l29Lines_any (s : ByteArray) (w : World) (hs : s.size ≤ 1048576) :
    Calls Tryz.prog 17 #[.string s] w fun e w' => LinR w s e w' := by
  obtain ⟨hq1, hq2⟩ := lin_cut s
  have hsz := lin_size s
  have hlen := lin_len s
  go_enter Tryz.func17, Tryz.ntmps17
  go_wp2_with fail
  refine (l01Split_any s 10 _ hs).mono ?_
  rintro e w1 ⟨v1, rfl, hown, hb1⟩
  have hok : ∀ x ∈ splS 10 s, fStr.ok x := fun x hx => by have := hsz x hx; show _ ≤ _; omega
  rw [hq1] at hown hok
  obtain ⟨fpy, hsy, _, _⟩ := Sl.of_own (n := (linL s ++ [linQ s]).length) rfl hown hok
  obtain ⟨L, hL⟩ : ∃ L, L = linL s := ⟨_, rfl⟩
  obtain ⟨q, hq⟩ : ∃ q, q = linQ s := ⟨_, rfl⟩
  have HL := Lib.hid hL
  have HQ := Lib.hid hq
  rw [← hL] at hown hsy hlen
  rw [← hq] at hown hsy
  clear hL hq hq1 hq2 hok hsz
  obtain ⟨A, cap, rfl, hle, hca⟩ := hsy.form
  have hl1 : (L ++ [q]).length = L.length + 1 := by simp
  rw [hl1] at hsy hown hle ⊢
  have Hl1 := Lib.hid hl1
  clear hl1
  obtain ⟨b, off, rfl, _, hokq, hc0, _⟩ := hsy.cell1 rfl (k := L.length) (by rw [Hl1.out]; omega) rfl
  have hgq : (L ++ [q])[L.length]'(by rw [Hl1.out]; omega) = q := by simp
  rw [hgq] at hc0
  obtain ⟨fp2, hs2⟩ := hsy.fst_ (k := L.length) (by rw [Hl1.out]; omega)
  rw [List.take_append_of_le_length (Nat.le_refl _), List.take_length] at hs2
  have e1 := emptyB_eq q
  clear hgq hokq hown hsy
  go_wp2
  have ghc0 := cell_regrown hc0
  refine wp_region_mix (C := fun w' => ∃ p : Regrown, w' = Go.Sort.grow (redrawn w1 p.d) p.os) [true, true, true, true, true, true, true, true, true, true] (by kernel_rfl) (by kernel_rfl) (by kernel_rfl) (fun _ _ d _ _ h => by cases d <;> exact h) (regrown_of_below (Below.drew (Below.refl _ _))) ?_
  have hS0 : Below w1.heap.size w1 w1.drew := Below.drew (Below.refl _ _)
  refine wpMix_pure (by kernel_rfl) (fun K hK => ?_)
  go_big_quiet_op
  refine hK _ ?_; clear hK K
  refine wpMix_pure (by kernel_rfl) (fun K hK => ?_)
  go_big_quiet_op
  refine hK _ ?_; clear hK K
  refine wpMix_pure (by kernel_rfl) (fun K hK => ?_)
  go_big_quiet_op
  refine hK _ ?_; clear hK K
  refine wpMix_pure (by kernel_rfl) (fun K hK => ?_)
  go_big_quiet_op
  refine hK _ ?_; clear hK K
  refine wpMix_pure (by kernel_rfl) (fun K hK => ?_)
  go_big_quiet_op
  refine hK _ ?_; clear hK K
  refine wpMix_pure (by kernel_rfl) (fun K hK => ?_)
  go_big_quiet_op
  refine hK _ ?_; clear hK K
  refine wpMix_pure (by kernel_rfl) (fun K hK => ?_)
  go_big_quiet_op
  refine hK _ ?_; clear hK K
  refine wpMix_pure (by kernel_rfl) (fun K hK => ?_)
  go_big_quiet_op
  refine hK _ ?_; clear hK K
  refine wpMix_pure (by kernel_rfl) (fun K hK => ?_)
  go_big_quiet_op
  refine hK _ ?_; clear hK K
  refine wpMix_pure (by kernel_rfl) (fun K hK => ?_)
  go_big_quiet_op
  refine hK _ ?_; clear hK K
  refine wpMix_nil ?_
  go_wp2
  go_ret2
  refine ⟨_, fp2, ?_, by rw [← HL.out]; exact hs2.below' (hS0), hb1.trans ((hS0).mono hb1.size)⟩
  rw [← HQ.out, ← e1]
  first | rfl | (simp; done)

theorem infoInt0d : (Tryz.prog.info? 2).map (fun i => (i.zero, i.size, i.bytes)) = some (some (.int .i64 0), 1, 8) := by kernel_rfl
/-- Is line i damaged? The last piece, which no newline ends, is if it is not empty; the first line is none. -/
def dmB (L : List ByteArray) (q : ByteArray) (i : Nat) : Bool := if i < L.length then decide (0 < i) && !decide (parseC (L.getD i ⟨#[]⟩) = 0) else !(emptyB q)
def dmK (L : List ByteArray) (q : ByteArray) (k : Nat) : List Int := keptL (dmB L q) (fun i : Nat => (i : Int) + 1) (List.range (L.length + 1)) k
def dmF (s : ByteArray) : List Int := dmK (linL s) (linQ s) ((linL s).length + 1)
theorem dmK_yes {L : List ByteArray} {q : ByteArray} {k : Nat} (hk : k ≤ L.length) (h : dmB L q k = true) : dmK L q (k + 1) = dmK L q k ++ [(k : Int) + 1] := by
  have := keptL_yes (p := dmB L q) (f := fun i : Nat => (i : Int) + 1) (xs := List.range (L.length + 1)) (k := k) (by simp; omega) (by simpa using h)
  simpa [dmK] using this
theorem dmK_no {L : List ByteArray} {q : ByteArray} {k : Nat} (hk : k ≤ L.length) (h : dmB L q k = false) : dmK L q (k + 1) = dmK L q k :=
  keptL_no (by simp; omega) (by simpa using h)
theorem dmK_len {L : List ByteArray} {q : ByteArray} {k : Nat} : (dmK L q k).length ≤ k := keptL_len
theorem dmK_ok {L : List ByteArray} {q : ByteArray} {k : Nat} (hl : L.length ≤ 1048576) : ∀ x ∈ dmK L q k, fInt.ok x := by
  intro x hx
  unfold dmK keptL at hx
  obtain ⟨i, hi, rfl⟩ := List.mem_map.1 hx
  have := List.mem_range.1 (List.mem_of_mem_take (List.mem_filter.1 hi).1)
  show _ ∧ _
  omega
theorem dmF_len {s : ByteArray} (h : s.size ≤ 1048576) : (dmF s).length ≤ 100000000000 := by
  unfold dmF; have := dmK_len (L := linL s) (q := linQ s) (k := (linL s).length + 1); have := lin_len s; omega
theorem dmB_in {L : List ByteArray} {q : ByteArray} {k : Nat} (hk : k < L.length) (h0 : 0 < k) (c : Int) (hc : parseC L[k] = c) : dmB L q k = !decide (c = 0) := by
  unfold dmB; rw [if_pos hk, decide_eq_true h0, List.getD_eq_getElem?_getD, List.getElem?_eq_getElem hk, Option.getD_some, hc, Bool.true_and]
theorem dmB_first {L : List ByteArray} {q : ByteArray} (hk : 0 < L.length) : dmB L q 0 = false := by
  unfold dmB; rw [if_pos hk]; rfl
theorem dmB_last {L : List ByteArray} {q : ByteArray} {k : Nat} (hk : L.length ≤ k) : dmB L q k = !(emptyB q) := by
  unfold dmB; rw [if_neg (by omega)]
theorem splitD_any (s : ByteArray) (c : UInt8) (m : Int) (w : World) (hs : s.size ≤ 1048576) (hm : w.cell? ⟨0, 0, none⟩ = some (.int .i64 m)) :
    Calls Tryz.prog 22 #[.string s, .string ⟨#[c]⟩] w fun e w' => OwnRT fStr 9 w (splS c s) e w' := by
  refine (Tryz.strings_Split s ⟨#[c]⟩ m w (by omega) hm (Nat.le_refl 1)).mono ?_
  rintro e w' ⟨rfl, rfl⟩
  have hl := Lib.splitB_all ⟨#[c]⟩ (Nat.le_refl 1) 0 _ s rfl
  rw [splS_split] at hl ⊢
  rw [← hl]
  have hb0 : Below w.heap.size w (w.alloc (.cells ((splS c s).map Value.string).toArray 9)) := (Below.refl _ _).alloc (Nat.le_refl _) _
  refine ⟨_, rfl, ?_, hb0⟩
  have hll : (splS c s).length ≤ s.size + 1 := by
    have h1 := Lib.countB_le ⟨#[c]⟩ (Nat.le_refl 1) s.size s (Nat.le_refl _)
    omega
  have h := World.ownsRow_lit (e := 9) (size := 1) (base := w.heap.size) w ((splS c s).map Value.string).toArray (splS c s).length (Nat.le_refl _) (by unfold maxLen; omega) (by simp)
  have e1 : (splS c s).map Value.string = (splS c s).flatMap fStr.enc := by
    generalize splS c s = L
    induction L with
    | nil => rfl
    | cons x L ih => rw [List.map_cons, List.flatMap_cons, ih]; rfl
  rw [show ((splS c s).map Value.string).toArray.toList = (splS c s).flatMap fStr.enc from by simpa using e1] at h
  exact h

end Go.Proofs.YtaaholabodchaaaGreatDoor
