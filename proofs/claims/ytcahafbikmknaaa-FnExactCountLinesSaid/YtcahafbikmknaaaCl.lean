/- Contracts: CountLines. Written by wip/gen/cl.py. -/
import Derived.Test.YtcahafbikmknaaaSv
import Derived.Test.YtcahafbikmknaaaTInt64
import Derived.Test.YtcahafbikmknaaaSeg
import Derived.Deep.AppendLies
namespace Go.Proofs.Ytcahafbikmknaaa
open Go.RowKit
set_option linter.unusedVariables false

/-! ### different lines in order, and how many of each -/
def cntS (L : List ByteArray) (s : ByteArray) : Nat := L.countP (fun x => decide (x = s))
theorem cntS_snoc (L : List ByteArray) (x s : ByteArray) : cntS (L ++ [x]) s = cntS L s + if x = s then 1 else 0 := by
  unfold cntS; rw [List.countP_append]; simp [List.countP_cons]
theorem cntS_zero {L : List ByteArray} {s : ByteArray} (h : s ∉ L) : cntS L s = 0 := by
  unfold cntS; rw [List.countP_eq_zero]; intro x hx he; simp at he; exact h (he ▸ hx)
theorem cntS_le (L : List ByteArray) (s : ByteArray) : cntS L s ≤ L.length := List.countP_le_length
theorem cntS_perm {L M : List ByteArray} (h : L.Perm M) (s : ByteArray) : cntS L s = cntS M s := h.countP_eq _
def SSrt (L : List ByteArray) : Prop := L.Pairwise (fun a b => ltS a b = true)
theorem SSrt.nodup {L : List ByteArray} (h : SSrt L) : L.Nodup := by
  refine List.Pairwise.imp ?_ h
  intro a b h e; subst e; rw [ltS_irrefl] at h; cases h
theorem SSrt.srt {L : List ByteArray} (h : SSrt L) : Srt L := h.imp (fun h => ltS_asymm h)
theorem ssrt_of {L : List ByteArray} (h : Srt L) (hn : L.Nodup) : SSrt L := by
  unfold SSrt
  have h2 := List.Pairwise.and h hn
  refine h2.imp ?_
  rintro a b ⟨h1, h3⟩
  cases h4 : ltS a b with
  | true => rfl
  | false => exact absurd (ltS_tri h4 h1) h3
theorem ssrt_unique {a b : List ByteArray} (ha : SSrt a) (hb : SSrt b) (h : ∀ s, s ∈ a ↔ s ∈ b) : a = b :=
  srt_unique ha.srt hb.srt ((List.perm_ext_iff_of_nodup ha.nodup hb.nodup).2 h)
def insU (x : ByteArray) (L : List ByteArray) : List ByteArray := if L.any (fun y => decide (y = x)) = true then L else x :: L
theorem insU_spec (xs : List ByteArray) : (xs.foldr insU []).Nodup ∧ ∀ s, s ∈ xs.foldr insU [] ↔ s ∈ xs := by
  induction xs with
  | nil => simp
  | cons x xs ih =>
    obtain ⟨h1, h2⟩ := ih
    rw [List.foldr_cons]
    generalize xs.foldr insU [] = M at *
    unfold insU
    split
    · rename_i h
      replace h : x ∈ M := by
        rw [List.any_eq_true] at h
        obtain ⟨y, hy, e⟩ := h
        simp at e; exact e ▸ hy
      refine ⟨h1, fun s => ?_⟩
      rw [h2, List.mem_cons]
      exact ⟨.inr, fun hs => by rcases hs with rfl | hs; exact (h2 _).1 h; exact hs⟩
    · rename_i h
      replace h : x ∉ M := fun hx => h (List.any_eq_true.2 ⟨x, hx, by simp⟩)
      exact ⟨List.nodup_cons.2 ⟨h, h1⟩, fun s => by rw [List.mem_cons, List.mem_cons]; exact or_congr Iff.rfl (h2 s)⟩
/-- The different lines, in order. -/
def cdF (xs : List ByteArray) : List ByteArray := srtF (xs.foldr insU [])
theorem cdF_ssrt (xs : List ByteArray) : SSrt (cdF xs) := ssrt_of (srtF_srt _) ((srtF_perm _).nodup_iff.2 (insU_spec xs).1)
theorem cdF_mem (xs : List ByteArray) (s : ByteArray) : s ∈ cdF xs ↔ s ∈ xs := ((srtF_perm _).mem_iff).trans ((insU_spec xs).2 s)
theorem cdF_of {xs L : List ByteArray} (h : SSrt L) (hm : ∀ s, s ∈ L ↔ s ∈ xs) : L = cdF xs := ssrt_unique h (cdF_ssrt xs) (fun s => (hm s).trans (cdF_mem xs s).symm)
theorem insU_len (xs : List ByteArray) : (xs.foldr insU []).length ≤ xs.length := by
  induction xs with
  | nil => simp
  | cons x xs ih =>
    rw [List.foldr_cons]
    generalize xs.foldr insU [] = M at *
    unfold insU
    split
    · simp; omega
    · simp; omega
theorem cdF_len (xs : List ByteArray) : (cdF xs).length ≤ xs.length := by
  unfold cdF; rw [srtF_len]; exact insU_len xs
def cmF (xs : List ByteArray) : List Int := (cdF xs).map (fun s => (cntS xs s : Int))
/-- The rounds over sorted lines. -/
structure Grp (ys : List ByteArray) (k : Nat) (out : List ByteArray) : Prop where
  srt : SSrt out
  mem : ∀ s, s ∈ out ↔ s ∈ ys.take k
  last : ∀ j, k = j + 1 → out.getLast? = ys[j]?
  len : out.length ≤ k
theorem Grp.zero (ys : List ByteArray) : Grp ys 0 [] := ⟨List.Pairwise.nil, by simp, by omega, by simp⟩
theorem Grp.first {ys : List ByteArray} (h : 0 < ys.length) : Grp ys 1 [ys[0]] := by
  refine ⟨List.pairwise_singleton _ _, fun s => ?_, fun j hj => ?_, by simp⟩
  · rw [List.take_succ_eq_append_getElem h]; simp
  · obtain rfl : j = 0 := by omega
    simp [h]
theorem Grp.new_notmem {ys out : List ByteArray} {j : Nat} (hs : Srt ys) (h : Grp ys (j + 1) out) (hj : j + 1 < ys.length) (hne : ys[j + 1] ≠ ys[j]) : ∀ s ∈ out, ltS s ys[j + 1] = true := by
  intro s hm
  have hlt : ltS ys[j] ys[j + 1] = true := by
    cases h1 : ltS ys[j] ys[j + 1] with
    | true => rfl
    | false => exact absurd (ltS_tri h1 (List.pairwise_iff_getElem.1 hs j (j + 1) (by omega) hj (by omega))).symm hne
  obtain ⟨m, hm1, rfl⟩ := List.getElem_of_mem ((h.mem s).1 hm)
  simp at hm1
  rw [List.getElem_take]
  rcases Nat.lt_or_ge m j with h2 | h2
  · have h3 := List.pairwise_iff_getElem.1 hs m j (by omega) (by omega) h2
    cases h4 : ltS ys[m] ys[j + 1] with
    | true => rfl
    | false =>
      have := leS_trans h3 (ltS_asymm hlt)
      rw [ltS_tri h4 this] at h3
      rw [hlt] at h3; cases h3
  · obtain rfl : m = j := by omega
    exact hlt
theorem Grp.new {ys out : List ByteArray} {j : Nat} (hs : Srt ys) (h : Grp ys (j + 1) out) (hj : j + 1 < ys.length) (hne : ys[j + 1] ≠ ys[j]) : Grp ys (j + 2) (out ++ [ys[j + 1]]) := by
  refine ⟨?_, fun s => ?_, fun i hi => ?_, by have := h.len; simp; omega⟩
  · unfold SSrt
    rw [List.pairwise_append]
    refine ⟨h.srt, List.pairwise_singleton _ _, ?_⟩
    intro a ha b hb
    rw [List.mem_singleton] at hb
    subst hb
    exact h.new_notmem hs hj hne a ha
  · rw [List.mem_append, h.mem, List.take_succ_eq_append_getElem hj, List.mem_append]
  · obtain rfl : i = j + 1 := by omega
    simp [hj]
theorem Grp.same {ys out : List ByteArray} {j : Nat} (h : Grp ys (j + 1) out) (hj : j + 1 < ys.length) (he : ys[j + 1] = ys[j]) : Grp ys (j + 2) out := by
  refine ⟨h.srt, fun s => ?_, fun i hi => ?_, by have := h.len; omega⟩
  · rw [h.mem, List.take_succ_eq_append_getElem hj, List.mem_append]
    constructor
    · exact .inl
    · rintro (h1 | h1)
      · exact h1
      · rw [List.mem_singleton] at h1
        subst h1
        rw [he]
        exact List.mem_take_iff_getElem.2 ⟨j, by omega, rfl⟩
  · obtain rfl : i = j + 1 := by omega
    rw [h.last j rfl, List.getElem?_eq_getElem (by omega), List.getElem?_eq_getElem hj, he]
/-- The numbers. -/
def nmF (ys out : List ByteArray) (k : Nat) : List Int := out.map (fun s => (cntS (ys.take k) s : Int))
theorem nmF_len (ys out : List ByteArray) (k : Nat) : (nmF ys out k).length = out.length := List.length_map _
theorem nmF_first {ys : List ByteArray} (h : 0 < ys.length) : nmF ys [ys[0]] 1 = [(0 : Int) + 1] := by
  unfold nmF; rw [List.take_succ_eq_append_getElem h]; simp [cntS]
theorem nmF_new {ys out : List ByteArray} {j : Nat} (hs : Srt ys) (h : Grp ys (j + 1) out) (hj : j + 1 < ys.length) (hne : ys[j + 1] ≠ ys[j]) :
    (nmF ys out (j + 1) ++ [0]).set out.length (0 + 1) = nmF ys (out ++ [ys[j + 1]]) (j + 2) := by
  have hl := nmF_len ys out (j + 1)
  rw [← hl, List.set_append_right _ _ (Nat.le_refl _), Nat.sub_self, List.set_cons_zero]
  unfold nmF
  rw [List.map_append, List.take_succ_eq_append_getElem hj]
  congr 1
  · refine List.map_congr_left (fun s hm => ?_)
    rw [cntS_snoc, if_neg]
    · simp
    · intro e; have := h.new_notmem hs hj hne s hm; rw [e, ltS_irrefl] at this; cases this
  · have hz : cntS (ys.take (j + 1)) ys[j + 1] = 0 := cntS_zero (fun hm => by have := h.new_notmem hs hj hne _ ((h.mem _).2 hm); rw [ltS_irrefl] at this; cases this)
    rw [List.map_cons, List.map_nil, cntS_snoc, hz]; simp
theorem nmF_same {ys out : List ByteArray} {j m : Nat} (h : Grp ys (j + 1) out) (hj : j + 1 < ys.length) (he : ys[j + 1] = ys[j]) (hm : out.length = m + 1) :
    ∃ c : Nat, (nmF ys out (j + 1))[m]? = some (c : Int) ∧ c ≤ ys.length ∧ (nmF ys out (j + 1)).set m ((c : Int) + 1) = nmF ys out (j + 2) := by
  have hlast : out[m]? = some ys[j] := by
    have := h.last j rfl
    rw [List.getLast?_eq_getElem?, hm, Nat.add_sub_cancel] at this
    rw [this, List.getElem?_eq_getElem (by omega)]
  have hml : m < out.length := by omega
  have hx : out[m] = ys[j] := by rw [List.getElem?_eq_getElem hml] at hlast; exact Option.some.inj hlast
  refine ⟨cntS (ys.take (j + 1)) ys[j], ?_, ?_, ?_⟩
  · unfold nmF; rw [List.getElem?_map, hlast]; rfl
  · have := cntS_le (ys.take (j + 1)) ys[j]; rw [List.length_take] at this; omega
  · apply List.ext_getElem?
    intro i
    rw [List.getElem?_set]
    unfold nmF
    simp only [List.length_map, List.getElem?_map]
    rw [List.take_succ_eq_append_getElem hj]
    by_cases hi : m = i
    · subst hi
      rw [if_pos rfl, if_pos hml, hlast, Option.map_some, cntS_snoc, if_pos he]
      simp
    · rw [if_neg hi]
      rcases Nat.lt_or_ge i out.length with h2 | h2
      · rw [List.getElem?_eq_getElem h2, Option.map_some, Option.map_some, cntS_snoc, if_neg]
        · simp
        · intro e
          have h3 := List.pairwise_iff_getElem.1 h.srt.nodup
          rw [he, ← hx] at e
          rcases Nat.lt_or_ge m i with h4 | h4
          · exact h3 m i hml h2 h4 e
          · exact h3 i m h2 hml (by omega) e.symm
      · rw [List.getElem?_eq_none h2]; rfl
/-- Another block is written. -/
theorem Own.other {α : Type} {E : Flat α} {w : World} {base : Nat} {e : TypeId} {g n cap : Nat} {L : List α} (h : Own E w base e (.slice (some ⟨g, 0, none⟩) n cap) L) {g' j : Nat} (hne : g ≠ g') (u : Value) : Own E (w.setCell ⟨g', j, none⟩ u) base e (.slice (some ⟨g, 0, none⟩) n cap) L :=
  World.ownsRow.kept (w' := w.setCell ⟨g', j, none⟩ u) (row := some g') h ⟨rfl, rfl, rfl, by simp, fun k _ hk => heap_setCell_other w ⟨g', j, none⟩ k u (fun e => hk (by simp [e]))⟩ (.inr (fun e => hne (Option.some.inj e)))
theorem Own.blk {α : Type} {E : Flat α} {w : World} {base : Nat} {e : TypeId} {g n cap : Nat} {L : List α} (h : Own E w base e (.slice (some ⟨g, 0, none⟩) n cap) L) : base ≤ g ∧ g < w.heap.size ∧ n = L.length ∧ n ≤ cap ∧ cap ≤ 9223372036854775807 := by
  rcases h.2 with ⟨hv, _⟩ | ⟨g', cap', cur, hv, hg, hh, h1, h2, _⟩
  · cases hv
  · injection hv with hv1 hv2 hv3
    injection hv1 with hv1
    injection hv1 with hv1
    subst hv1 hv3
    unfold maxLen at h2
    exact ⟨hg, (Array.getElem?_eq_some_iff.1 hh).1, hv2, by omega, h2⟩
theorem Own.cellI {w : World} {base : Nat} {e : TypeId} {g n cap : Nat} {L : List Int} (h : Own fInt w base e (.slice (some ⟨g, 0, none⟩) n cap) L) {k : Nat} {x : Int} (hx : L[k]? = some x) : w.cell? ⟨g, k, none⟩ = some (.int .i64 x) := by
  obtain ⟨_, _, hn, _⟩ := h.blk
  have h' : w.ownsRow base e 1 (.slice (some ⟨g, 0, none⟩) L.length cap) L.length (L.flatMap fInt.enc) := by rw [hn] at h; exact h
  have hk : k < L.length := by
    rcases Nat.lt_or_ge k L.length with h | h
    · exact h
    · rw [List.getElem?_eq_none h] at hx; cases hx
  rw [h'.cellAt k (by omega)]
  have := flat_get fInt.enc 1 L (fun x _ => fInt.len x) k hk 0 (by omega)
  simp only [Nat.mul_one, Nat.add_zero] at this
  rw [this]
  have e1 : L[k] = x := by rw [List.getElem?_eq_getElem hk] at hx; exact Option.some.inj hx
  rw [e1]; rfl
/-- Two new slices and a code. -/
def New2R (w : World) (xs : List ByteArray) (ys : List Int) (c : Int) (e : Ending) (w' : World) : Prop :=
  ∃ v1 v2, e = .returned (.tuple #[v1, v2, .int .i64 c]) ∧ ∃ fp1 fp2, Sl fStr.cod w' v1 xs fp1 ∧ Sl fInt.cod w' v2 ys fp2 ∧ (∀ b ∈ fp1, w.heap.size ≤ b) ∧ (∀ b ∈ fp2, w.heap.size ≤ b) ∧ fp1.Nodup ∧ fp2.Nodup ∧ (∀ b ∈ fp1, b ∉ fp2) ∧ Below w.heap.size w w'
theorem New2R.nil {w w' : World} (h : Below w.heap.size w w') : New2R w [] [] 1 (.returned (.tuple #[.slice none 0 0, .slice none 0 0, .int .i64 1])) w' :=
  ⟨_, _, rfl, [], [], ⟨none, 0, rfl, by simp, by simp [maxLen], .inl ⟨rfl, rfl⟩⟩, ⟨none, 0, rfl, by simp, by simp [maxLen], .inl ⟨rfl, rfl⟩⟩, by simp, by simp, by simp, by simp, by simp, h⟩
theorem Own.fp {α : Type} {E : Flat α} {w : World} {base : Nat} {e : TypeId} {v : Value} {L : List α} (h : Own E w base e v L) (hok : ∀ x ∈ L, E.ok x) :
    ∃ fp, Sl E.cod w v L fp ∧ (∀ b ∈ fp, base ≤ b) ∧ fp.Nodup ∧ ∀ b ∈ fp, v.ownBlock = some b := by
  obtain ⟨fp, h1, h2, h3⟩ := Sl.of_own (n := L.length) rfl h hok
  rcases Nat.eq_zero_or_pos L.length with h0 | h0
  · obtain rfl := List.eq_nil_of_length_eq_zero h0
    refine ⟨[], ?_, by simp, by simp, by simp⟩
    obtain ⟨A, cap, hv, hl, hc, _⟩ := h1
    exact ⟨A, cap, hv, hl, hc, .inl ⟨rfl, rfl⟩⟩
  · refine ⟨fp, h1, h2, h3, fun b hb => ?_⟩
    obtain ⟨A, cap, rfl, _, _⟩ := h1.form
    obtain ⟨b', off, hA, hfp, _⟩ := h1.cells h0
    subst hA
    rw [hfp] at hb
    rw [List.mem_singleton] at hb
    subst hb
    rfl
theorem New2R.of {w w' : World} {v1 v2 : Value} {xs : List ByteArray} {ys : List Int} {b1 b2 : Nat} {T1 T2 : TypeId} {c : Int} (h1 : Own fStr w' b1 T1 v1 xs) (h2 : Own fInt w' b2 T2 v2 ys) (hb1 : w.heap.size ≤ b1) (hb2 : w.heap.size ≤ b2) (hne : v1.ownBlock ≠ v2.ownBlock ∨ v1.ownBlock = none ∨ v2.ownBlock = none)
    (ok1 : ∀ x ∈ xs, fStr.ok x) (ok2 : ∀ y ∈ ys, fInt.ok y) (hb : Below w.heap.size w w') : New2R w xs ys c (.returned (.tuple #[v1, v2, .int .i64 c])) w' := by
  obtain ⟨f1, a1, a2, a3, a4⟩ := h1.fp ok1
  obtain ⟨f2, c1, c2, c3, c4⟩ := h2.fp ok2
  refine ⟨_, _, rfl, f1, f2, a1, c1, fun b h => Nat.le_trans hb1 (a2 b h), fun b h => Nat.le_trans hb2 (c2 b h), a3, c3, fun b h h' => ?_, hb⟩
  have e1 := a4 b h
  have e2 := c4 b h'
  rcases hne with hne | hne | hne
  · exact hne (e1.trans e2.symm)
  · rw [e1] at hne; cases hne
  · rw [e2] at hne; cases hne
theorem infoInt3 : (Try.prog.info? 2).map (fun i => (i.zero, i.size, i.bytes)) = some (some (.int .i64 0), 1, 8) := by kernel_rfl
def clC (xs : List ByteArray) : Int := if linesB xs then 0 else 1
def clD (xs : List ByteArray) : List ByteArray := if linesB xs then cdF xs else []
def clM (xs : List ByteArray) : List Int := if linesB xs then cmF xs else []
theorem clD_len {xs : List ByteArray} (h : xs.length ≤ 1048576) : (clD xs).length ≤ 100000000000 := by
  unfold clD; split
  · have := cdF_len xs; omega
  · simp
theorem clM_len {xs : List ByteArray} (h : xs.length ≤ 1048576) : (clM xs).length ≤ 100000000000 := by
  unfold clM; split
  · unfold cmF; rw [List.length_map]; have := cdF_len xs; omega
  · simp
theorem clM_ok {xs : List ByteArray} (h : xs.length ≤ 1000000) : ∀ y ∈ cmF xs, fInt.ok y := by
  intro y hy
  obtain ⟨s, _, rfl⟩ := List.mem_map.1 hy
  have := cntS_le xs s
  show -9223372036854775808 ≤ _ ∧ _ ≤ _
  omega
set_option maxRecDepth 100000 in
set_option maxHeartbeats 4000000 in
theorem specCountLines_any (v : Value) (xs : List ByteArray) (fp : List Nat) (w : World) (hx : Sl fStr.cod w v xs fp) :
    Calls Try.prog 27 #[v] w fun e w' => New2R w (clD xs) (clM xs) (clC xs) e w' := by
  obtain ⟨i0, hi, hz0, hz1, hz2⟩ := info_parts infoStr3
  obtain ⟨j0, hj, hy0, hy1, hy2⟩ := info_parts infoInt3
  go_enter Try.func27, Try.ntmps27
  go_wp2_with fail
  refine (l30Ok_any _ xs fp _ hx).mono ?_
  rintro e w' ⟨rfl, rfl⟩
  cases h0 : linesB xs
  · have HC := Lib.hid (show clC xs = 1 by rw [clC, h0]; rfl)
    have HD := Lib.hid (show clD xs = [] by rw [clD, h0]; rfl)
    have HM := Lib.hid (show clM xs = [] by rw [clM, h0]; rfl)
    go_wp2
    go_ret3
    rw [HC.out, HD.out, HM.out]
    exact New2R.nil (Below.refl _ _)
  · have hl := linesB_len h0
    have HC := Lib.hid (show clC xs = 0 by rw [clC, h0]; rfl)
    have HD := Lib.hid (show clD xs = cdF xs by rw [clD, h0]; rfl)
    have HM := Lib.hid (show clM xs = cmF xs by rw [clM, h0]; rfl)
    go_wp2_with fail
    refine (l30Sorted_any _ xs fp _ hx (by omega)).mono ?_
    rintro e w1 ⟨v1, rfl, hown, hb1⟩
    obtain ⟨ys, hys⟩ : ∃ ys, ys = srtF xs := ⟨_, rfl⟩
    have hyl : ys.length = xs.length := by rw [hys, srtF_len]
    have hsr : Srt ys := by rw [hys]; exact srtF_srt _
    have hpm : ys.Perm xs := by rw [hys]; exact srtF_perm _
    have hyok := srtF_ok hx.oks
    rw [← hys] at hown hyok
    clear hys
    obtain ⟨A5, cap5, rfl⟩ := hown.form
    obtain ⟨fpy, hsy, _, _⟩ := hown.fp hyok
    obtain ⟨n, hn⟩ : ∃ n, ys.length = n := ⟨_, rfl⟩
    have hn200 : n ≤ 200 := by omega
    rw [hn] at hsy hown ⊢
    have Hn := Lib.hid hn
    have hcap5 := hsy.form
    clear hown
    go_wp2
    go_loopw [6, 7, 8] (fun a b i wr => ∃ k : Nat, k ≤ n ∧ i = .int .i64 k ∧ ∃ (out : List ByteArray) (g1 c1 g2 c2 : Nat), a = .slice (some ⟨g1, 0, none⟩) out.length c1 ∧ b = .slice (some ⟨g2, 0, none⟩) out.length c2 ∧ g1 ≠ g2 ∧ Grp ys k out ∧ Own fStr wr w1.heap.size 9 (.slice (some ⟨g1, 0, none⟩) out.length c1) out ∧ Own fInt wr w1.heap.size 2 (.slice (some ⟨g2, 0, none⟩) out.length c2) (nmF ys out k) ∧ Below w1.heap.size w1 wr) (fun _ _ i _ => n - (intOf i).toNat)
    case atStart =>
      refine ⟨0, Nat.zero_le _, rfl, [], w1.heap.size, 0, w1.heap.size + 1, 0, rfl, by simp, by omega, Grp.zero ys, ?_, ?_, ?_⟩
      · exact World.ownsRow.alloc (Own.lit0 fStr w1 9) _
      · have h := Own.lit0m fInt (w := w1.alloc (.cells #[] 9)) (base := w1.heap.size) (by simp) (e := 2)
        rw [World.size_alloc] at h
        exact h
      · exact ((Below.refl _ _).alloc (Nat.le_refl _) _).alloc (by simp) _
    case round =>
      obtain ⟨k, hk, rfl, out, g1, c1, g2, c2, rfl, rfl, hgg, HG0, ho1, ho2, hb⟩ := hrel
      have hn := Hn.out
      have hoL : out.length ≤ 200 := by have := HG0.len; omega
      by_cases hlt : k < n
      · obtain ⟨b5, off5, rfl, _, _, hc0, _⟩ := (hsy.below' hb).cell1 rfl (k := k) (by omega) rfl
        cases k with
        | zero =>
          rw [Nat.add_zero] at hc0
          have hout0 := Lib.hid (show out = [] from List.eq_nil_of_length_eq_zero (by have := HG0.len; omega))
          clear hn
          have hw1r := hb.size
          obtain ⟨hb1g, hb1w, hbx1, hb1c, hb1d⟩ := ho1.blk
          obtain ⟨hb2g, hb2w, hbx2, hb2c, hb2d⟩ := ho2.blk
          clear hbx1 hbx2
          go_wp2
          have ghc0 := cell_regrown hc0
          refine wp_region_mix (C := fun w' => ∃ p : Regrown, w' = Go.Sort.grow (redrawn wr p.d) p.os) [true, true, true, true, true, true, true, true, true, true, true, true, true, true] (by kernel_rfl) (by kernel_rfl) (by kernel_rfl) (fun _ _ d _ _ h => by cases d <;> exact h) (regrown_of_below (Below.drew (Below.refl _ _))) ?_
          have hS0 : Below wr.heap.size wr wr.drew := Below.drew (Below.refl _ _)
          refine wpMix_pure (by kernel_rfl) (fun K hK => ?_)
          go_big_quiet_op
          refine hK _ ?_; clear hK K
          refine wpMix_pure (by kernel_rfl) (fun K hK => ?_)
          go_big_quiet_op
          refine hK _ ?_; clear hK K
          refine wpMix_pure (by kernel_rfl) (fun K hK => ?_)
          go_big_quiet_op
          refine hK _ ?_; clear hK K
          refine wpMix_skip (by kernel_rfl) (fun K hK => ?_)
          simp only [Act.put, List.setIfInBounds_toArray, List.set_cons_zero, List.set_cons_succ]
          refine hK _ ?_; clear hK K
          refine wpMix_skip (by kernel_rfl) (fun K hK => ?_)
          simp only [Act.put, List.setIfInBounds_toArray, List.set_cons_zero, List.set_cons_succ]
          refine hK _ ?_; clear hK K
          refine wpMix_skip (by kernel_rfl) (fun K hK => ?_)
          simp only [Act.put, List.setIfInBounds_toArray, List.set_cons_zero, List.set_cons_succ]
          refine hK _ ?_; clear hK K
          refine wpMix_skip (by kernel_rfl) (fun K hK => ?_)
          simp only [Act.put, List.setIfInBounds_toArray, List.set_cons_zero, List.set_cons_succ]
          refine hK _ ?_; clear hK K
          refine wpMix_skip (by kernel_rfl) (fun K hK => ?_)
          simp only [Act.put, List.setIfInBounds_toArray, List.set_cons_zero, List.set_cons_succ]
          refine hK _ ?_; clear hK K
          refine wpMix_skip (by kernel_rfl) (fun K hK => ?_)
          simp only [Act.put, List.setIfInBounds_toArray, List.set_cons_zero, List.set_cons_succ]
          refine hK _ ?_; clear hK K
          refine wpMix_skip (by kernel_rfl) (fun K hK => ?_)
          simp only [Act.put, List.setIfInBounds_toArray, List.set_cons_zero, List.set_cons_succ]
          refine hK _ ?_; clear hK K
          refine wpMix_skip (by kernel_rfl) (fun K hK => ?_)
          simp only [Act.put, List.setIfInBounds_toArray, List.set_cons_zero, List.set_cons_succ]
          refine hK _ ?_; clear hK K
          refine wpMix_skip (by kernel_rfl) (fun K hK => ?_)
          simp only [Act.put, List.setIfInBounds_toArray, List.set_cons_zero, List.set_cons_succ]
          refine hK _ ?_; clear hK K
          refine wpMix_skip (by kernel_rfl) (fun K hK => ?_)
          simp only [Act.put, List.setIfInBounds_toArray, List.set_cons_zero, List.set_cons_succ]
          refine hK _ ?_; clear hK K
          refine wpMix_pure (by kernel_rfl) (fun K hK => ?_)
          go_big_quiet_op
          refine hK _ ?_; clear hK K
          refine wpMix_nil ?_
          have hoA : World.ownsRow (wr.drew.alloc (.cells #[.string ys[0]] 9)) w1.heap.size 9 1 (.slice (some ⟨g1, 0, none⟩) out.length c1) out.length (out.flatMap fStr.enc) := World.ownsRow.alloc (w := wr.drew) ho1 _
          have hoB : Own fInt (wr.drew.alloc (.cells #[.string ys[0]] 9)) w1.heap.size 2 (.slice (some ⟨g2, 0, none⟩) out.length c2) (nmF ys out 0) := World.ownsRow.alloc (w := wr.drew) ho2 _
          have hbB : Below w1.heap.size w1 (wr.drew.alloc (.cells #[.string ys[0]] 9)) := (Below.drew hb).alloc hw1r _
          clear ho1 ho2
          go_wp2_with (at_builtin; refine wpList_append_lies _ rfl _ _ 22 rfl w1.heap.size 9 i0 (.string ⟨#[]⟩) 1 16 Try.underlying22 hi hz0 hz1 hz2 rfl (by decide) (.slice (some ⟨g1, 0, none⟩) out.length c1) out.length _ rfl hoA _ 1 1 [.string ys[0]] rfl rfl (cell_one_new _ _ _) (by intro u hu; rw [List.mem_singleton] at hu; subst hu; rfl) (by decide) (by unfold maxLen; omega) (by omega) (by (try simp); omega) (wr.heap.size + 1) (by simp) ?_)
          intro g5 cap5' w5 hown5 hgrow5 hat5 hlt5
          have hbl5 : Below w1.heap.size w1 w5 := hbB.grown hgrow5 (by simp; omega) (fun k hk => by cases hk; exact hb1g)
          have hs5 := hbl5.size
          have hgs5 := hgrow5.size
          simp at hgs5
          have hg5 : g5 ≠ g2 := by
            rcases hat5 with h | h
            · simp [Value.ownBlock] at h; omega
            · omega
          have ho2b : Own fInt w5 w1.heap.size 2 (.slice (some ⟨g2, 0, none⟩) out.length c2) (nmF ys out 0) := World.ownsRow.kept hoB hgrow5 (.inr (by simp [Value.ownBlock]; omega))
          have ho1b : Own fStr w5 w1.heap.size 9 (.slice (some ⟨g5, 0, none⟩) (out.length + 1) cap5') (out ++ [ys[0]]) := Own.push _ rfl hown5
          have hlb := nmF_len ys out 0
          have hoC : World.ownsRow (w5.alloc (.cells #[.int .i64 0] 2)) w1.heap.size 2 1 (.slice (some ⟨g2, 0, none⟩) out.length c2) out.length ((nmF ys out 0).flatMap fInt.enc) := by
            have h := World.ownsRow.alloc ho2b (.cells #[.int .i64 0] 2)
            rw [hlb] at h; exact h
          have hoD : Own fStr (w5.alloc (.cells #[.int .i64 0] 2)) w1.heap.size 9 (.slice (some ⟨g5, 0, none⟩) (out.length + 1) cap5') (out ++ [ys[0]]) := World.ownsRow.alloc ho1b _
          have hbD : Below w1.heap.size w1 (w5.alloc (.cells #[.int .i64 0] 2)) := hbl5.alloc hs5 _
          clear hoA hoB hown5 ho1b ho2b hlb
          go_wp2_with (at_builtin; refine wpList_append_lies _ rfl _ _ 38 rfl w1.heap.size 2 j0 (.int .i64 0) 1 8 Try.underlying38 hj hy0 hy1 hy2 rfl (by decide) (.slice (some ⟨g2, 0, none⟩) out.length c2) out.length _ rfl hoC _ 1 1 [.int .i64 0] rfl rfl (cell_one_new _ _ _) (by intro u hu; rw [List.mem_singleton] at hu; subst hu; rfl) (by decide) (by unfold maxLen; omega) (by omega) (by (try simp); omega) (w5.heap.size + 1) (by simp) ?_)
          intro g6 cap6' w6 hown6 hgrow6 hat6 hlt6
          have hbl6 : Below w1.heap.size w1 w6 := hbD.grown hgrow6 (by simp; omega) (fun k hk => by cases hk; exact hb2g)
          have hs6 := hbl6.size
          have hg6 : g5 ≠ g6 := by
            rcases hat6 with h | h
            · simp [Value.ownBlock] at h; omega
            · omega
          have ho1c : Own fStr w6 w1.heap.size 9 (.slice (some ⟨g5, 0, none⟩) (out.length + 1) cap5') (out ++ [ys[0]]) := World.ownsRow.kept hoD hgrow6 (.inr (by simp [Value.ownBlock]; omega))
          have ho2c : Own fInt w6 w1.heap.size 2 (.slice (some ⟨g6, 0, none⟩) (out.length + 1) cap6') (nmF ys out 0 ++ [0]) := Own.push (0 : Int) (by rw [nmF_len]) hown6
          obtain ⟨hb6g, hb6w, hbx6, hb6c, hb6d⟩ := ho2c.blk
          clear hbx6
          have c6 := ho2c.cellI (k := out.length) (x := 0) (by rw [List.getElem?_append_right (by rw [nmF_len]; exact Nat.le_refl _), nmF_len, Nat.sub_self]; rfl)
          have f6 := ho2c.frozenS out.length
          have hs1 := ho2c.set1 rfl out.length (0 + 1 : Int) (.int .i64 1) rfl
          have hs2 : Own fInt (w6.setCell ⟨g6, out.length, none⟩ (.int .i64 1)) w1.heap.size 2 (.slice (some ⟨g6, 0, none⟩) (out.length + 1) cap6') (nmF ys (out ++ [ys[0]]) (0 + 1)) := by
            have e0 : (nmF ys out 0 ++ [0]).set out.length (0 + 1) = nmF ys (out ++ [ys[0]]) (0 + 1) := by rw [hout0.out]; exact (nmF_first (by have := Hn.out; omega)).symm
            rw [← e0]; exact hs1
          have hs3 : Own fStr (w6.setCell ⟨g6, out.length, none⟩ (.int .i64 1)) w1.heap.size 9 (.slice (some ⟨g5, 0, none⟩) (out.length + 1) cap5') (out ++ [ys[0]]) := ho1c.other hg6 _
          have HG := (show Grp ys (0 + 1) (out ++ [ys[0]]) from by rw [hout0.out]; exact Grp.first (by have := Hn.out; omega))
          clear hs1 ho1c ho2c hoC hoD hown6
          go_wp2
          go_roundw
          case rel => exact ⟨0 + 1, by omega, by go_num, out ++ [ys[0]], g5, cap5', g6, cap6', by simp, by simp, hg6, HG, by rw [List.length_append]; exact hs3, by rw [List.length_append]; exact hs2, hbl6.setCell (p := ⟨g6, _, none⟩) hb6g _⟩
          case measure => simp [intOf]; omega
        | succ j =>
          obtain ⟨b5', off5', hA5, _, _, hc1, _⟩ := (hsy.below' hb).cell1 rfl (k := j) (by omega) rfl
          injection hA5 with hA5
          injection hA5 with e1 e2 _
          subst e1 e2
          by_cases hne : ys[j + 1] = ys[j]
          · have e1 : (ys[j + 1].toList == ys[j].toList) = true := eqS_true.2 hne
            obtain ⟨m, hm⟩ : ∃ m, out.length = m + 1 := by
              cases out with
              | nil => have h := HG0.last j rfl; rw [List.getElem?_eq_getElem (by omega)] at h; cases h
              | cons x out => exact ⟨out.length, rfl⟩
            have hw1r := hb.size
            obtain ⟨hb1g, hb1w, hbx1, hb1c, hb1d⟩ := ho1.blk
            obtain ⟨hb2g, hb2w, hbx2, hb2c, hb2d⟩ := ho2.blk
            clear hbx1 hbx2
            obtain ⟨c, hq1, hq2, hq3⟩ := nmF_same HG0 (by omega) hne hm
            have HGS := HG0.same (by omega) hne
            have c6 := ho2.cellI hq1
            have f6 := ho2.frozenS m
            have hset : Own fInt (wr.drew.setCell ⟨g2, m, none⟩ (.int .i64 ((c : Int) + 1))) w1.heap.size 2 (.slice (some ⟨g2, 0, none⟩) out.length c2) (nmF ys out (j + 2)) := by
              rw [← hq3]; exact Own.set1 (w := wr.drew) rfl ho2 m ((c : Int) + 1) _ rfl
            have hoth : Own fStr (wr.drew.setCell ⟨g2, m, none⟩ (.int .i64 ((c : Int) + 1))) w1.heap.size 9 (.slice (some ⟨g1, 0, none⟩) out.length c1) out := Own.other (w := wr.drew) ho1 hgg _
            have hcb : (c : Int) ≤ 200 := by omega
            clear hq1 hq3 ho1 ho2 hne
            rw [hm] at hset hoth hb1c hb2c ⊢
            have Hm := Lib.hid hm
            clear hm hn hoL
            go_wp2
            have ghc0 := cell_regrown hc0
            have ghc1 := cell_regrown hc1
            refine wp_region_mix (C := fun w' => ∃ p : Regrown, w' = Go.Sort.grow (redrawn wr p.d) p.os) [true, true, true, true, true, true, true, true, true, true, true, true, true, true] (by kernel_rfl) (by kernel_rfl) (by kernel_rfl) (fun _ _ d _ _ h => by cases d <;> exact h) (regrown_of_below (Below.drew (Below.refl _ _))) ?_
            have hS0 : Below wr.heap.size wr wr.drew := Below.drew (Below.refl _ _)
            refine wpMix_pure (by kernel_rfl) (fun K hK => ?_)
            go_big_quiet_op
            refine hK _ ?_; clear hK K
            refine wpMix_pure (by kernel_rfl) (fun K hK => ?_)
            go_big_quiet_op
            refine hK _ ?_; clear hK K
            refine wpMix_pure (by kernel_rfl) (fun K hK => ?_)
            go_big_quiet_op
            refine hK _ ?_; clear hK K
            refine wpMix_pure (by kernel_rfl) (fun K hK => ?_)
            go_big_quiet_op
            refine hK _ ?_; clear hK K
            refine wpMix_pure (by kernel_rfl) (fun K hK => ?_)
            go_big_quiet_op
            refine hK _ ?_; clear hK K
            refine wpMix_pure (by kernel_rfl) (fun K hK => ?_)
            go_big_quiet_op
            refine hK _ ?_; clear hK K
            refine wpMix_pure (by kernel_rfl) (fun K hK => ?_)
            go_big_quiet_op
            refine hK _ ?_; clear hK K
            refine wpMix_pure (by kernel_rfl) (fun K hK => ?_)
            go_big_quiet_op
            refine hK _ ?_; clear hK K
            refine wpMix_pure (by kernel_rfl) (fun K hK => ?_)
            go_big_quiet_op
            refine hK _ ?_; clear hK K
            refine wpMix_pure (by kernel_rfl) (fun K hK => ?_)
            go_big_quiet_op
            refine hK _ ?_; clear hK K
            refine wpMix_pure (by kernel_rfl) (fun K hK => ?_)
            go_big_quiet_op
            refine hK _ ?_; clear hK K
            refine wpMix_pure (by kernel_rfl) (fun K hK => ?_)
            go_big_quiet_op
            refine hK _ ?_; clear hK K
            refine wpMix_pure (by kernel_rfl) (fun K hK => ?_)
            go_big_quiet_op
            refine hK _ ?_; clear hK K
            refine wpMix_pure (by kernel_rfl) (fun K hK => ?_)
            go_big_quiet_op
            refine hK _ ?_; clear hK K
            refine wpMix_nil ?_
            go_wp2
            go_roundw
            case rel => exact ⟨j + 1 + 1, by omega, by go_num, out, g1, c1, g2, c2, by rw [Hm.out], by rw [Hm.out], hgg, HGS, by rw [Hm.out]; exact hoth, by rw [Hm.out]; exact hset, (Below.drew hb).setCell (p := ⟨g2, _, none⟩) hb2g _⟩
            case measure => simp [intOf]; omega
          · have e1 : (ys[j + 1].toList == ys[j].toList) = false := bytes_beq_false hne
            clear hn
            have hw1r := hb.size
            obtain ⟨hb1g, hb1w, hbx1, hb1c, hb1d⟩ := ho1.blk
            obtain ⟨hb2g, hb2w, hbx2, hb2c, hb2d⟩ := ho2.blk
            clear hbx1 hbx2
            go_wp2
            have ghc0 := cell_regrown hc0
            have ghc1 := cell_regrown hc1
            refine wp_region_mix (C := fun w' => ∃ p : Regrown, w' = Go.Sort.grow (redrawn wr p.d) p.os) [true, true, true, true, true, true, true, true, true, true, true, true, true, true] (by kernel_rfl) (by kernel_rfl) (by kernel_rfl) (fun _ _ d _ _ h => by cases d <;> exact h) (regrown_of_below (Below.drew (Below.refl _ _))) ?_
            have hS0 : Below wr.heap.size wr wr.drew := Below.drew (Below.refl _ _)
            refine wpMix_pure (by kernel_rfl) (fun K hK => ?_)
            go_big_quiet_op
            refine hK _ ?_; clear hK K
            refine wpMix_pure (by kernel_rfl) (fun K hK => ?_)
            go_big_quiet_op
            refine hK _ ?_; clear hK K
            refine wpMix_pure (by kernel_rfl) (fun K hK => ?_)
            go_big_quiet_op
            refine hK _ ?_; clear hK K
            refine wpMix_pure (by kernel_rfl) (fun K hK => ?_)
            go_big_quiet_op
            refine hK _ ?_; clear hK K
            refine wpMix_pure (by kernel_rfl) (fun K hK => ?_)
            go_big_quiet_op
            refine hK _ ?_; clear hK K
            refine wpMix_pure (by kernel_rfl) (fun K hK => ?_)
            go_big_quiet_op
            refine hK _ ?_; clear hK K
            refine wpMix_pure (by kernel_rfl) (fun K hK => ?_)
            go_big_quiet_op
            refine hK _ ?_; clear hK K
            refine wpMix_pure (by kernel_rfl) (fun K hK => ?_)
            go_big_quiet_op
            refine hK _ ?_; clear hK K
            refine wpMix_pure (by kernel_rfl) (fun K hK => ?_)
            go_big_quiet_op
            refine hK _ ?_; clear hK K
            refine wpMix_pure (by kernel_rfl) (fun K hK => ?_)
            go_big_quiet_op
            refine hK _ ?_; clear hK K
            refine wpMix_pure (by kernel_rfl) (fun K hK => ?_)
            go_big_quiet_op
            refine hK _ ?_; clear hK K
            refine wpMix_pure (by kernel_rfl) (fun K hK => ?_)
            go_big_quiet_op
            refine hK _ ?_; clear hK K
            refine wpMix_pure (by kernel_rfl) (fun K hK => ?_)
            go_big_quiet_op
            refine hK _ ?_; clear hK K
            refine wpMix_pure (by kernel_rfl) (fun K hK => ?_)
            go_big_quiet_op
            refine hK _ ?_; clear hK K
            refine wpMix_nil ?_
            have hoA : World.ownsRow (wr.drew.alloc (.cells #[.string ys[j + 1]] 9)) w1.heap.size 9 1 (.slice (some ⟨g1, 0, none⟩) out.length c1) out.length (out.flatMap fStr.enc) := World.ownsRow.alloc (w := wr.drew) ho1 _
            have hoB : Own fInt (wr.drew.alloc (.cells #[.string ys[j + 1]] 9)) w1.heap.size 2 (.slice (some ⟨g2, 0, none⟩) out.length c2) (nmF ys out (j + 1)) := World.ownsRow.alloc (w := wr.drew) ho2 _
            have hbB : Below w1.heap.size w1 (wr.drew.alloc (.cells #[.string ys[j + 1]] 9)) := (Below.drew hb).alloc hw1r _
            clear ho1 ho2
            go_wp2_with (at_builtin; refine wpList_append_lies _ rfl _ _ 22 rfl w1.heap.size 9 i0 (.string ⟨#[]⟩) 1 16 Try.underlying22 hi hz0 hz1 hz2 rfl (by decide) (.slice (some ⟨g1, 0, none⟩) out.length c1) out.length _ rfl hoA _ 1 1 [.string ys[j + 1]] rfl rfl (cell_one_new _ _ _) (by intro u hu; rw [List.mem_singleton] at hu; subst hu; rfl) (by decide) (by unfold maxLen; omega) (by omega) (by (try simp); omega) (wr.heap.size + 1) (by simp) ?_)
            intro g5 cap5' w5 hown5 hgrow5 hat5 hlt5
            have hbl5 : Below w1.heap.size w1 w5 := hbB.grown hgrow5 (by simp; omega) (fun k hk => by cases hk; exact hb1g)
            have hs5 := hbl5.size
            have hgs5 := hgrow5.size
            simp at hgs5
            have hg5 : g5 ≠ g2 := by
              rcases hat5 with h | h
              · simp [Value.ownBlock] at h; omega
              · omega
            have ho2b : Own fInt w5 w1.heap.size 2 (.slice (some ⟨g2, 0, none⟩) out.length c2) (nmF ys out (j + 1)) := World.ownsRow.kept hoB hgrow5 (.inr (by simp [Value.ownBlock]; omega))
            have ho1b : Own fStr w5 w1.heap.size 9 (.slice (some ⟨g5, 0, none⟩) (out.length + 1) cap5') (out ++ [ys[j + 1]]) := Own.push _ rfl hown5
            have hlb := nmF_len ys out (j + 1)
            have hoC : World.ownsRow (w5.alloc (.cells #[.int .i64 0] 2)) w1.heap.size 2 1 (.slice (some ⟨g2, 0, none⟩) out.length c2) out.length ((nmF ys out (j + 1)).flatMap fInt.enc) := by
              have h := World.ownsRow.alloc ho2b (.cells #[.int .i64 0] 2)
              rw [hlb] at h; exact h
            have hoD : Own fStr (w5.alloc (.cells #[.int .i64 0] 2)) w1.heap.size 9 (.slice (some ⟨g5, 0, none⟩) (out.length + 1) cap5') (out ++ [ys[j + 1]]) := World.ownsRow.alloc ho1b _
            have hbD : Below w1.heap.size w1 (w5.alloc (.cells #[.int .i64 0] 2)) := hbl5.alloc hs5 _
            clear hoA hoB hown5 ho1b ho2b hlb
            go_wp2_with (at_builtin; refine wpList_append_lies _ rfl _ _ 38 rfl w1.heap.size 2 j0 (.int .i64 0) 1 8 Try.underlying38 hj hy0 hy1 hy2 rfl (by decide) (.slice (some ⟨g2, 0, none⟩) out.length c2) out.length _ rfl hoC _ 1 1 [.int .i64 0] rfl rfl (cell_one_new _ _ _) (by intro u hu; rw [List.mem_singleton] at hu; subst hu; rfl) (by decide) (by unfold maxLen; omega) (by omega) (by (try simp); omega) (w5.heap.size + 1) (by simp) ?_)
            intro g6 cap6' w6 hown6 hgrow6 hat6 hlt6
            have hbl6 : Below w1.heap.size w1 w6 := hbD.grown hgrow6 (by simp; omega) (fun k hk => by cases hk; exact hb2g)
            have hs6 := hbl6.size
            have hg6 : g5 ≠ g6 := by
              rcases hat6 with h | h
              · simp [Value.ownBlock] at h; omega
              · omega
            have ho1c : Own fStr w6 w1.heap.size 9 (.slice (some ⟨g5, 0, none⟩) (out.length + 1) cap5') (out ++ [ys[j + 1]]) := World.ownsRow.kept hoD hgrow6 (.inr (by simp [Value.ownBlock]; omega))
            have ho2c : Own fInt w6 w1.heap.size 2 (.slice (some ⟨g6, 0, none⟩) (out.length + 1) cap6') (nmF ys out (j + 1) ++ [0]) := Own.push (0 : Int) (by rw [nmF_len]) hown6
            obtain ⟨hb6g, hb6w, hbx6, hb6c, hb6d⟩ := ho2c.blk
            clear hbx6
            have c6 := ho2c.cellI (k := out.length) (x := 0) (by rw [List.getElem?_append_right (by rw [nmF_len]; exact Nat.le_refl _), nmF_len, Nat.sub_self]; rfl)
            have f6 := ho2c.frozenS out.length
            have hs1 := ho2c.set1 rfl out.length (0 + 1 : Int) (.int .i64 1) rfl
            have hs2 : Own fInt (w6.setCell ⟨g6, out.length, none⟩ (.int .i64 1)) w1.heap.size 2 (.slice (some ⟨g6, 0, none⟩) (out.length + 1) cap6') (nmF ys (out ++ [ys[j + 1]]) ((j + 1) + 1)) := by
              have e0 := nmF_new hsr HG0 (by have := Hn.out; omega) hne
              rw [← e0]; exact hs1
            have hs3 : Own fStr (w6.setCell ⟨g6, out.length, none⟩ (.int .i64 1)) w1.heap.size 9 (.slice (some ⟨g5, 0, none⟩) (out.length + 1) cap5') (out ++ [ys[j + 1]]) := ho1c.other hg6 _
            have HG := (HG0.new hsr (by have := Hn.out; omega) hne)
            clear hs1 ho1c ho2c hoC hoD hown6
            go_wp2
            go_roundw
            case rel => exact ⟨(j + 1) + 1, by omega, by go_num, out ++ [ys[j + 1]], g5, cap5', g6, cap6', by simp, by simp, hg6, HG, by rw [List.length_append]; exact hs3, by rw [List.length_append]; exact hs2, hbl6.setCell (p := ⟨g6, _, none⟩) hb6g _⟩
            case measure => simp [intOf]; omega
      · have e1 : out = cdF xs := cdF_of HG0.srt (fun s => by rw [HG0.mem, List.take_of_length_le (by omega)]; exact hpm.mem_iff)
        have e2 : nmF ys out k = cmF xs := by
          unfold nmF cmF
          rw [List.take_of_length_le (by omega), e1]
          exact List.map_congr_left (fun s _ => by rw [cntS_perm hpm])
        have hfin := New2R.of (w := w) (c := 0) ho1 ho2 hb1.size hb1.size (.inl (by simp [Value.ownBlock]; omega)) (fun x hx' => hx.oks x ((cdF_mem xs x).1 (e1 ▸ hx'))) (by rw [e2]; exact clM_ok (by omega)) (hb1.trans (hb.mono hb1.size))
        have HE1 := Lib.hid e1
        have HE2 := Lib.hid e2
        clear e1 e2 ho1 ho2 hn
        go_wp2
        go_ret3
        rw [HC.out, HD.out, HM.out, ← HE1.out, ← HE2.out]
        exact hfin

end Go.Proofs.Ytcahafbikmknaaa
