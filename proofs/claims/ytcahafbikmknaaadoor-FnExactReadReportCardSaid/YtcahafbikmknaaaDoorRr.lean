/- Contracts: ReadReport. Written by wip/gen/rr.py. -/
import Derived.Test.YtcahafbikmknaaaDoorSp
import Derived.Test.YtcahafbikmknaaaDoorRt
import Derived.Test.YtcahafbikmknaaaDoorAll
import Derived.Test.YtcahafbikmknaaaDoorSeg
namespace Go.Proofs.YtcahafbikmknaaaDoor
open Go.RowKit
set_option linter.unusedVariables false

/-- The first ones of a slice. -/
theorem Sl.first {α : Type} {E : Flat α} {w : World} {b off len cap : Nat} {xs : List α} {fp : List Nat} (h : Sl E.cod w (.slice (some ⟨b, off, none⟩) len cap) xs fp) {k : Nat} (hk : k ≤ xs.length) :
    ∃ fp', Sl E.cod w (.slice (some ⟨b, off, none⟩) k cap) (xs.take k) fp' := by
  obtain ⟨A', cap', hv, hl, hc, hr⟩ := h
  injection hv with hA hn hcap
  subst hcap
  have hlk : (xs.take k).length = k := by simp; omega
  rcases hr with ⟨h1, _⟩ | ⟨b', off', F, hA2, hb, hfp, hi⟩
  · subst h1
    have : k = 0 := by simpa using hk
    subst this
    exact ⟨[], _, cap, rfl, by simp, hc, .inl ⟨rfl, rfl⟩⟩
  · rw [← hA] at hA2
    injection hA2 with e
    injection e with e1 e2 _
    subst e1 e2
    refine ⟨_, _, cap, by rw [hlk], by rw [hlk]; omega, hc, .inr ⟨b, off, F, rfl, hb, rfl, fun i hi' => ?_⟩⟩
    rw [hlk] at hi'
    obtain ⟨cs, q1, q2, q3⟩ := hi i (by omega)
    exact ⟨cs, q1, q2, by rw [List.getElem_take]; exact q3⟩
/-- The lines of a text: all pieces but the last one; is the last one empty? -/
def rrL (s : ByteArray) : List ByteArray := (splS 10 s).dropLast
def rrE (s : ByteArray) : Bool := decide ((splS 10 s).getLast? = some ⟨#[]⟩)
def rrB (s : ByteArray) : Bool := rrE s && linesB (rrL s)
def rrF (s : ByteArray) : List ByteArray := if rrB s then rrL s else []
theorem rr_cut (s : ByteArray) : ∃ q : ByteArray, splS 10 s = rrL s ++ [q] ∧ rT (rrL s) ++ q.data.toList = s.data.toList ∧ (rrE s = true ↔ q = ⟨#[]⟩) := by
  obtain ⟨P, q, h1, h2⟩ := splS_cut 10 s
  have hL : rrL s = P := by unfold rrL; rw [h1, List.dropLast_concat]
  refine ⟨q, by rw [hL]; exact h1, by rw [hL]; exact h2, ?_⟩
  unfold rrE
  rw [h1, List.getLast?_concat, decide_eq_true_eq]
  exact ⟨fun h => Option.some.inj h, fun h => by rw [h]⟩
theorem rr_tot (s : ByteArray) : totStringS (rrL s) ≤ s.size := by
  obtain ⟨q, _, h2, _⟩ := rr_cut s
  have h3 := congrArg List.length h2
  rw [List.length_append, rT_len] at h3
  have h4 : s.data.toList.length = s.size := (by simp)
  omega
theorem rr_text {s : ByteArray} (h : linesB (rrL s) = true) : (reportF (rrL s) = s) ↔ rrE s = true := by
  obtain ⟨q, _, h2, h3⟩ := rr_cut s
  unfold reportF
  rw [if_pos h, h3]
  constructor
  · intro e
    have e2 : rT (rrL s) = s.data.toList := by
      have := congrArg (fun x : ByteArray => x.data.toList) e
      simpa using this
    rw [e2] at h2
    have : q.data.toList = [] := by simpa using h2
    exact data_inj this
  · intro e
    subst e
    have h4 : rT (rrL s) = s.data.toList := by simpa using h2
    rw [h4]
theorem rrL_len (s : ByteArray) : (rrL s).length ≤ s.size := by
  have h := rr_tot s
  unfold totStringS at h
  omega
theorem rrF_len {s : ByteArray} (h : s.size ≤ 1048576) : (rrF s).length ≤ 100000000000 := by
  unfold rrF; split
  · have := rrL_len s; omega
  · simp
theorem splS_size (s : ByteArray) : ∀ x ∈ splS 10 s, x.size ≤ s.size := by
  intro x hx
  obtain ⟨q, h1, h2, _⟩ := rr_cut s
  have hl : s.data.toList.length = s.size := (by simp)
  have hxl : x.data.toList.length = x.size := (by simp)
  rw [h1, List.mem_append] at hx
  have h3 := congrArg List.length h2
  rw [List.length_append] at h3
  rcases hx with hx | hx
  · have h4 : x.data.toList.length ≤ (rT (rrL s)).length := by
      unfold rT
      obtain ⟨A, B, e⟩ := List.append_of_mem hx
      rw [e, List.flatMap_append, List.flatMap_cons]
      simp; omega
    omega
  · rw [List.mem_singleton] at hx
    subst hx
    omega
/-- A slice and a bool. -/
def NewRB {α : Type} (E : Cod α) (w : World) (xs : List α) (c : Bool) (e : Ending) (w' : World) : Prop := ∃ v, e = .returned (.tuple #[v, .bool c]) ∧ New E w v xs w'
set_option maxRecDepth 100000 in
set_option maxHeartbeats 2000000 in
theorem specReadReport_any (s : ByteArray) (w : World) (hs : s.size ≤ 1048576) :
    Calls Tryd.prog 5 #[.string s] w fun e w' => NewRB fStr.cod w (rrF s) (rrB s) e w' := by
  obtain ⟨i0, hi, hz0, hz1, hz2⟩ := info_parts infoStr4
  obtain ⟨q, hq1, hq2, hq3⟩ := rr_cut s
  have hsz := splS_size s
  have hlen := rrL_len s
  go_enter Tryd.func5, Tryd.ntmps5
  go_wp2_with fail
  refine (l01Split_any s 10 _ hs).mono ?_
  rintro e w1 ⟨v1, rfl, hown, hb1⟩
  have hok : ∀ x ∈ splS 10 s, fStr.ok x := fun x hx => by have := hsz x hx; show _ ≤ _; omega
  have hokL : ∀ x ∈ rrL s, fStr.ok x := fun x hx => hok x (by rw [hq1]; simp [hx])
  rw [hq1] at hown hok
  obtain ⟨fpy, hsy, _, _⟩ := Sl.of_own (n := (rrL s ++ [q]).length) rfl hown hok
  obtain ⟨L, hL⟩ : ∃ L, L = rrL s := ⟨_, rfl⟩
  have hB : Hid (rrB s = (rrE s && linesB L)) := by show _ = _; rw [hL]; rfl
  have hF : Hid (rrF s = if rrE s && linesB L then L else []) := by show _ = _; rw [hL]; rfl
  rw [← hL] at hown hsy hlen hokL
  clear hL hq1 hq2 hok
  obtain ⟨A, cap, rfl, hle, hca⟩ := hsy.form
  have hl1 : (L ++ [q]).length = L.length + 1 := by simp
  rw [hl1] at hsy hown hle ⊢
  have Hl1 := Lib.hid hl1
  clear hl1
  obtain ⟨b, off, rfl, _, hokq, hc0, _⟩ := hsy.cell1 rfl (k := L.length) (by rw [Hl1.out]; omega) rfl
  have hgq : (L ++ [q])[L.length]'(by rw [Hl1.out]; omega) = q := by simp
  rw [hgq] at hc0
  obtain ⟨fp2, hs2⟩ := hsy.first (k := L.length) (by rw [Hl1.out]; omega)
  rw [List.take_append_of_le_length (Nat.le_refl _), List.take_length] at hs2
  clear hgq hokq hown
  cases he : rrE s
  · have hne : ¬ q = ⟨#[]⟩ := fun e => by rw [hq3.2 e] at he; cases he
    have hne2 : ¬ q.toList = [] := fun e => hne (bytes_toList_inj (e.trans (by simp [ByteArray.toList_eq])))
    have e1 : (q.toList == []) = false := by rw [beq_eq_false_iff_ne]; exact hne2
    have e2 : q.toList.isEmpty = false := by rw [List.isEmpty_eq_false_iff]; exact hne2
    have HB2 : Hid (rrB s = false) := by show _ = _; rw [hB.out, he]; rfl
    have HF2 : Hid (rrF s = []) := by show _ = _; rw [hF.out, he]; rfl
    clear he hne hq3
    go_wp2
    go_ret2
    exact ⟨_, by rw [HB2.out]; rfl, by rw [HF2.out]; exact New.nil hb1⟩
  · have hq := hq3.1 he
    subst hq
    clear hq3
    go_wp2_with fail
    refine (l30Ok_any _ L fp2 _ hs2).mono ?_
    rintro e w' ⟨rfl, rfl⟩
    cases h0 : linesB L
    · have HB2 : Hid (rrB s = false) := by show _ = _; rw [hB.out, he, h0]; rfl
      have HF2 : Hid (rrF s = []) := by show _ = _; rw [hF.out, he, h0]; rfl
      clear he
      go_wp2
      go_ret2
      exact ⟨_, by rw [HB2.out]; rfl, by rw [HF2.out]; exact New.nil hb1⟩
    · have HB2 : Hid (rrB s = true) := by show _ = _; rw [hB.out, he, h0]; rfl
      have HF2 : Hid (rrF s = L) := by show _ = _; rw [hF.out, he, h0]; rfl
      clear he
      have hb2 : Below w.heap.size w (w1.alloc (.cells #[] 9)) := hb1.alloc hb1.size _
      have hs3 := hs2.below' (((Below.refl _ w1).alloc (Nat.le_refl _) (.cells #[] 9)))
      have ho := Own.lit0m fStr hb1.size (e := 9)
      have hsz2 := hb2.size
      have hsrc := hs3.src
      go_wp2_with (at_builtin; refine wpList_append_src (E := fStr) rfl _ _ 22 rfl w.heap.size 9 i0 (.string ⟨#[]⟩) 16 Tryd.underlying22 hi hz0 hz1 hz2 rfl (.slice (some ⟨w1.heap.size, 0, none⟩) 0 0) [] rfl ho _ L rfl hsrc (by simp; omega) (by decide) hsz2 ?_)
      intro v' u hown hbu
      try rw [List.nil_append] at hown
      have hb3 := hb2.trans hbu
      have hfin := hown.new hb3 hokL
      clear hown
      go_wp2
      go_ret2
      exact ⟨_, by rw [HB2.out]; rfl, by rw [HF2.out]; exact hfin⟩
set_option maxRecDepth 100000 in
set_option maxHeartbeats 1000000 in
theorem cloneS_any (v : Value) (xs : List ByteArray) (fp : List Nat) (w : World) (hx : Sl fStr.cod w v xs fp) (hl : xs.length ≤ 2000000) :
    Calls Tryd.prog 21 #[v] w fun e w' => OwnRT fStr 9 w xs e w' := by
  obtain ⟨A, cap, rfl, hlen, hcap⟩ := hx.form
  obtain ⟨i0, hi, hz0, hz1, hz2⟩ := info_parts infoStr4
  have hsrc := (hx.below' ((Below.refl _ _).alloc (Nat.le_refl _) (.cells #[] 9))).src
  have ho := Own.lit0 fStr w 9
  have hb0 : Below w.heap.size w (w.alloc (.cells #[] 9)) := (Below.refl _ _).alloc (Nat.le_refl _) _
  have hs2 := hb0.size
  have q22 : ∀ (w : World) (a : Option Addr) (n c n' c' : Nat), (binOp .eql 22 (.slice a n c) (.slice none n' c')).run Tryd.prog w = .ok (.bool a.isNone) w := fun w a n c n' c' => Lib.run_eql_slice_nil w _ _ a n c n' c' Tryd.underlying22
  cases A with
  | none =>
    have hnil : xs = [] := by
      rcases Nat.eq_zero_or_pos xs.length with h0 | h0
      · exact List.eq_nil_of_length_eq_zero h0
      · obtain ⟨b, off, hA, _⟩ := hx.cells h0
        cases hA
    subst hnil
    go_enter Tryd.func21, Tryd.ntmps21
    go_wp2
    go_ret
    exact ⟨_, rfl, Own.nil _ _ _ _, Below.refl _ _⟩
  | some ad =>
    go_enter Tryd.func21, Tryd.ntmps21
    go_wp2_with (at_builtin; refine wpList_append_src (E := fStr) rfl _ _ 22 rfl w.heap.size 9 i0 (.string ⟨#[]⟩) 16 Tryd.underlying22 hi hz0 hz1 hz2 rfl (.slice (some ⟨w.heap.size, 0, none⟩) 0 0) [] rfl ho _ xs rfl hsrc (by simp; omega) (by decide) hs2 ?_)
    intro v' u hown hbu
    try rw [List.nil_append] at hown
    go_wp2
    go_ret
    exact ⟨_, rfl, hown, hb0.trans hbu⟩
theorem split_any (s : ByteArray) (c : UInt8) (m : Int) (w : World) (hs : s.size ≤ 1048576) (hm : w.cell? ⟨0, 0, none⟩ = some (.int .i64 m)) :
    Calls Tryd.prog 18 #[.string s, .string ⟨#[c]⟩] w fun e w' => OwnRT fStr 9 w (splS c s) e w' := by
  refine (Tryd.strings_Split s ⟨#[c]⟩ m w (by omega) hm (Nat.le_refl 1)).mono ?_
  rintro e w' ⟨rfl, rfl⟩
  have hl := Lib.splitB_all ⟨#[c]⟩ (Nat.le_refl 1) 0 _ s rfl
  rw [splS_split] at hl ⊢
  rw [← hl]
  have hb0 : Below w.heap.size w (w.alloc (.cells ((splS c s).map Value.string).toArray 9)) := (Below.refl _ _).alloc (Nat.le_refl _) _
  refine ⟨_, rfl, ?_, hb0⟩
  have hll : (splS c s).length ≤ s.size + 1 := by
    have h1 := Lib.countB_le ⟨#[c]⟩ (Nat.le_refl 1) s.size s (Nat.le_refl _)
    omega
  have h := World.ownsRow_lit (e := 9) (size := 1) (base := w.heap.size) w ((splS c s).map Value.string).toArray (splS c s).length (Nat.le_refl _) (by unfold maxLen; omega) (by simp)
  have e1 : (splS c s).map Value.string = (splS c s).flatMap fStr.enc := by
    generalize splS c s = L
    induction L with
    | nil => rfl
    | cons x L ih => rw [List.map_cons, List.flatMap_cons, ih]; rfl
  rw [show ((splS c s).map Value.string).toArray.toList = (splS c s).flatMap fStr.enc from by simpa using e1] at h
  exact h
set_option maxRecDepth 100000 in
set_option maxHeartbeats 2000000 in
theorem implReadReport_any (s : ByteArray) (m : Int) (w : World) (hs : s.size ≤ 1048576) (hm : w.cell? ⟨0, 0, none⟩ = some (.int .i64 m)) :
    Calls Tryd.prog 6 #[.string s] w fun e w' => NewRB fStr.cod w (rrF s) (rrB s) e w' := by
  obtain ⟨i0, hi, hz0, hz1, hz2⟩ := info_parts infoStr4
  obtain ⟨q, hq1, hq2, hq3⟩ := rr_cut s
  have hsz := splS_size s
  have hlen := rrL_len s
  have htot := rr_tot s
  go_enter Tryd.func6, Tryd.ntmps6
  go_wp2_with fail
  refine (split_any s 10 m _ hs hm).mono ?_
  rintro e w1 ⟨v1, rfl, hown, hb1⟩
  have hok : ∀ x ∈ splS 10 s, fStr.ok x := fun x hx => by have := hsz x hx; show _ ≤ _; omega
  have hokL : ∀ x ∈ rrL s, fStr.ok x := fun x hx => hok x (by rw [hq1]; simp [hx])
  rw [hq1] at hown hok
  obtain ⟨fpy, hsy, _, _⟩ := Sl.of_own (n := (rrL s ++ [q]).length) rfl hown hok
  obtain ⟨L, hL⟩ : ∃ L, L = rrL s := ⟨_, rfl⟩
  have hB : Hid (rrB s = (rrE s && linesB L)) := by show _ = _; rw [hL]; rfl
  have hF : Hid (rrF s = if rrE s && linesB L then L else []) := by show _ = _; rw [hL]; rfl
  have hT : Hid (linesB L = true → (reportF L = s ↔ rrE s = true)) := by show _ → _; rw [hL]; exact rr_text
  rw [← hL] at hown hsy hlen hokL htot
  clear hL hq1 hq2 hok
  obtain ⟨A, cap, rfl, hle, hca⟩ := hsy.form
  have hl1 : (L ++ [q]).length = L.length + 1 := by simp
  rw [hl1] at hsy hown hle ⊢
  have Hl1 := Lib.hid hl1
  clear hl1
  obtain ⟨b, off, rfl, _, hokq, hc0, _⟩ := hsy.cell1 rfl (k := L.length) (by rw [Hl1.out]; omega) rfl
  obtain ⟨fp2, hs2⟩ := hsy.first (k := L.length) (by rw [Hl1.out]; omega)
  rw [List.take_append_of_le_length (Nat.le_refl _), List.take_length] at hs2
  clear hokq hown hc0
  go_wp2_with fail
  refine (implValidReport_any _ L fp2 _ hs2).mono ?_
  rintro e w' ⟨rfl, rfl⟩
  cases h0 : linesB L
  · have HB2 : Hid (rrB s = false) := by show _ = _; rw [hB.out, h0, Bool.and_false]
    have HF2 : Hid (rrF s = []) := by show _ = _; rw [hF.out, h0, Bool.and_false]; rfl
    go_wp2
    go_ret2
    exact ⟨_, by rw [HB2.out]; rfl, by rw [HF2.out]; exact New.nil hb1⟩
  · have hT2 := hT.out h0
    go_wp2_with fail
    refine (implReportText_any _ L fp2 _ hs2 (by omega)).mono ?_
    rintro e w2 ⟨rfl, hb2⟩
    have hB2 := hb1.trans (hb2.mono hb1.size)
    have hs3 := hs2.below' hb2
    cases he : rrE s
    · have hne : ¬ reportF L = s := fun e => by rw [hT2.1 e] at he; cases he
      have e1 : ((reportF L).toList == s.toList) = false := bytes_beq_false hne
      have HB2 : Hid (rrB s = false) := by show _ = _; rw [hB.out, he]; rfl
      have HF2 : Hid (rrF s = []) := by show _ = _; rw [hF.out, he]; rfl
      clear he hne hT2 hq3
      go_wp2
      go_ret2
      exact ⟨_, by rw [HB2.out]; rfl, by rw [HF2.out]; exact New.nil hB2⟩
    · have e1 : ((reportF L).toList == s.toList) = true := eqS_true.2 (hT2.2 he)
      have HB2 : Hid (rrB s = true) := by show _ = _; rw [hB.out, he, h0]; rfl
      have HF2 : Hid (rrF s = L) := by show _ = _; rw [hF.out, he, h0]; rfl
      clear he hT2 hq3
      go_wp2_with fail
      refine (cloneS_any _ L fp2 _ hs3 (by omega)).mono ?_
      rintro e w3 ⟨v3, rfl, hown3, hb3⟩
      have hfin := (hown3.new hb3 hokL).later hB2
      clear hown3
      go_wp2
      go_ret2
      exact ⟨_, by rw [HB2.out]; rfl, by rw [HF2.out]; exact hfin⟩

end Go.Proofs.YtcahafbikmknaaaDoor
