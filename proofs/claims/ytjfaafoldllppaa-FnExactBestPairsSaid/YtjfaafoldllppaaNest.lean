
/- Slices of slices: their rows laid open. No function of the program is named here. -/
import Derived.Test.YtjfaafoldllppaaMark
namespace Go.Proofs.Ytjfaafoldllppaa
open Go.RowKit
set_option linter.unusedVariables false

/-- The rows of a slice of slices, laid open. -/
structure NRows {α : Type} (E : Cod α) (w : World) (b off n : Nat) (V : Nat → Value) (cur : Nat → List α) (F : Nat → List Nat) : Prop where
  cell : ∀ i, i < n → w.cell? ⟨b, off + i, none⟩ = some (V i)
  frz : ∀ i, i < n → w.frozen? ⟨b, off + i, none⟩ = false
  rd : ∀ i, i < n → Sl E w (V i) (cur i) (F i)
section
variable {α : Type} {E : Cod α} {w w' : World} {b off n cap len : Nat} {A : Option Addr} {V : Nat → Value} {cur : Nat → List α} {F : Nat → List Nat} {xss : List (List α)} {fp : List Nat}
theorem Sl.rows (h : Sl E.slice w (.slice A len cap) xss fp) (h0 : 0 < xss.length) :
    ∃ b off V F, A = some ⟨b, off, none⟩ ∧ b < w.heap.size ∧ fp = b :: (List.range xss.length).flatMap F ∧ NRows E w b off xss.length V (fun i => xss.getD i []) F := by
  obtain ⟨A', cap', hv, hl, hc, hr⟩ := h
  injection hv with hA hn hcap
  subst hA
  rcases hr with ⟨h1, _⟩ | ⟨b, off, F, hA, hb, hfp, hi⟩
  · subst h1; simp at h0
  · have hex : ∀ i, ∃ u, ∀ h : i < xss.length, w.cell? ⟨b, off + i, none⟩ = some u ∧ w.frozen? ⟨b, off + i, none⟩ = false ∧ Sl E w u xss[i] (F i) := fun i => by
      by_cases hlt : i < xss.length
      · obtain ⟨cs, h1, h2, u, rfl, h3⟩ := hi i hlt
        refine ⟨u, fun _ => ⟨?_, ?_, h3⟩⟩
        · have := h1 0 (show 0 < 1 by omega); simpa [Cod.slice] using this
        · have := h2 0 (show 0 < 1 by omega); simpa [Cod.slice] using this
      · exact ⟨undef, fun h => absurd h hlt⟩
    refine ⟨b, off, fun i => Classical.choose (hex i), F, hA, hb, hfp, ⟨fun i h => ?_, fun i h => ?_, fun i h => ?_⟩⟩
    · exact (Classical.choose_spec (hex i) h).1
    · exact (Classical.choose_spec (hex i) h).2.1
    · have := (Classical.choose_spec (hex i) h).2.2
      simpa [List.getD_eq_getElem?_getD, h] using this
theorem NRows.sl (h : NRows E w b off n V cur F) (hb : b < w.heap.size) (hn : xss.length = n) (hx : ∀ i (hi : i < xss.length), xss[i] = cur i) (hc : n ≤ cap) (hm : cap ≤ maxLen) :
    Sl E.slice w (.slice (some ⟨b, off, none⟩) n cap) xss (b :: (List.range n).flatMap F) := by
  subst hn
  refine ⟨_, cap, rfl, hc, hm, .inr ⟨b, off, F, rfl, hb, rfl, fun i hi => ⟨[V i], fun j hj => ?_, fun j hj => ?_, V i, rfl, ?_⟩⟩⟩
  · have hj' : j = 0 := by have : j < 1 := hj; omega
    subst hj'
    have := h.cell i hi
    simpa [Cod.slice] using this
  · have hj' : j = 0 := by have : j < 1 := hj; omega
    subst hj'
    have := h.frz i hi
    simpa [Cod.slice] using this
  · rw [hx i hi]; exact h.rd i hi
theorem NRows.below (h : NRows E w b off n V cur F) (hb : b < w.heap.size) (hw : Below w.heap.size w w') : NRows E w' b off n V cur F :=
  ⟨fun i hi => (hw.cell (p := ⟨b, off + i, none⟩) hb).trans (h.cell i hi), fun i hi => (hw.frozen (p := ⟨b, off + i, none⟩) hb).trans (h.frz i hi), fun i hi => (h.rd i hi).below' hw⟩
theorem NRows.congr {cur' : Nat → List α} (h : NRows E w b off n V cur F) (hc : ∀ i, i < n → cur i = cur' i) : NRows E w b off n V cur' F :=
  ⟨h.cell, h.frz, fun i hi => by rw [← hc i hi]; exact h.rd i hi⟩
/-- No block twice. -/
theorem rows_apart (hnd : (b :: (List.range n).flatMap F).Nodup) : (∀ i, i < n → b ∉ F i) ∧ (∀ i j, i < n → j < n → i ≠ j → ∀ c ∈ F i, c ∉ F j) ∧ ∀ i, i < n → (F i).Nodup := by
  rw [List.nodup_cons] at hnd
  obtain ⟨h1, h2⟩ := hnd
  refine ⟨fun i hi hm => h1 (List.mem_flatMap.2 ⟨i, by simpa using hi, hm⟩), ?_, ?_⟩
  · have h3 : ∀ i j, i < j → j < n → ∀ c ∈ F i, c ∉ F j := by
      intro i j hij hj c hc hc'
      have e1 : List.range n = List.range j ++ (List.range (n - j)).map (j + ·) := by rw [← List.range_add]; congr 1; omega
      rw [e1, List.flatMap_append, List.nodup_append] at h2
      exact h2.2.2 c (List.mem_flatMap.2 ⟨i, by simpa using hij, hc⟩) c (List.mem_flatMap.2 ⟨j, by simp; omega, hc'⟩) rfl
    intro i j hi hj hne c hc hc'
    rcases Nat.lt_or_ge i j with h | h
    · exact h3 i j h hj c hc hc'
    · exact h3 j i (by omega) hi c hc' hc
  · intro i hi
    have e1 : List.range n = List.range i ++ (List.range (n - i)).map (i + ·) := by rw [← List.range_add]; congr 1; omega
    have e2 : List.range (n - i) = 0 :: (List.range (n - i - 1)).map Nat.succ := by
      rw [← List.range_succ_eq_map]; congr 1; omega
    rw [e1, e2, List.flatMap_append, List.nodup_append] at h2
    have h4 := h2.2.1
    rw [List.map_cons, List.flatMap_cons, List.nodup_append] at h4
    simpa using h4.1
/-- One row is written, through its own blocks alone. -/
theorem NRows.step {ys : List α} {k : Nat} (h : NRows E w b off n V cur F) (hnd : (b :: (List.range n).flatMap F).Nodup) (hb : b < w.heap.size) (hk : k < n) (hs : Sl E w' (V k) ys (F k)) (ho : Only (F k) w w') :
    NRows E w' b off n V (fun i => if i = k then ys else cur i) F := by
  obtain ⟨h1, h2, _⟩ := rows_apart hnd
  have hbk := ho.block b hb (h1 k hk)
  refine ⟨fun i hi => (World.cell?_of_block (a := ⟨b, off + i, none⟩) hbk).trans (h.cell i hi), fun i hi => (World.frozen?_of_block (a := ⟨b, off + i, none⟩) hbk).trans (h.frz i hi), fun i hi => ?_⟩
  by_cases e : i = k
  · subst e; rw [if_pos rfl]; exact hs
  · rw [if_neg e]; exact (h.rd i hi).only ho (h2 i k hi hk e)
theorem Only.sub {fp fp' : List Nat} (h : Only fp w w') (hs : ∀ c ∈ fp, c ∈ fp') : Only fp' w w' := ⟨h.os, h.tape, h.output, h.size, fun k hk hn => h.block k hk (fun hm => hn (hs k hm))⟩
theorem Sl.elem {k : Nat} (h : Sl E.slice w (.slice A len cap) xss fp) (hk : k < xss.length) :
    ∃ b off vk fk, A = some ⟨b, off, none⟩ ∧ w.cell? ⟨b, off + k, none⟩ = some vk ∧ Sl E w vk xss[k] fk ∧ b ∈ fp := by
  obtain ⟨b, off, V, F, hA, hb, hfp, hr⟩ := h.rows (by omega)
  have := hr.rd k hk
  simp [List.getD_eq_getElem?_getD, hk] at this
  exact ⟨b, off, V k, F k, hA, hr.cell k hk, this, by rw [hfp]; simp⟩
end
/-! ### A slice of slices that the call fills row by row -/
/-- The block g holds n slices, of which the first k are made: they read as the first k rows. -/
def SSt {α : Type} (E : Cod α) (w : World) (g : Nat) (T : TypeId) (xss : List (List α)) (k : Nat) : Prop :=
  ∃ (V : Nat → Value) (F : Nat → List Nat), Fill w g g T 1 xss.length ((List.range k).map V) ∧ (∀ i, i < k → w.cell? ⟨g, i, none⟩ = some (V i)) ∧ (∀ i, i < k → Sl E w (V i) (xss.getD i []) (F i)) ∧ ((List.range k).flatMap F).Nodup ∧ (∀ c ∈ (List.range k).flatMap F, g < c ∧ c < w.heap.size)
theorem SSt.start {α : Type} {E : Cod α} (w : World) (T : TypeId) (z : Value) (xss : List (List α)) (hn : xss.length ≤ 9223372036854775807) : SSt E (w.alloc (.cells (madeCells #[z] xss.length) T)) w.heap.size T xss 0 :=
  ⟨fun _ => undef, fun _ => [], by simpa using Fill.start1 w T xss.length #[z] hn, fun _ h => absurd h (Nat.not_lt_zero _), fun _ h => absurd h (Nat.not_lt_zero _), by simp, by simp⟩
section
variable {α : Type} {E : Cod α} {w w' : World} {g : Nat} {T : TypeId} {xss : List (List α)} {k : Nat}
theorem SSt.below (h : SSt E w g T xss k) (hb : Below w.heap.size w w') : SSt E w' g T xss k := by
  obtain ⟨V, F, h1, h2, h3, h4, h5⟩ := h
  exact ⟨V, F, h1.below hb h1.lt, fun i hi => (hb.cell (p := ⟨g, i, none⟩) h1.lt).trans (h2 i hi), fun i hi => (h3 i hi).below' hb, h4, fun c hc => ⟨(h5 c hc).1, Nat.lt_of_lt_of_le (h5 c hc).2 hb.size⟩⟩
theorem SSt.cell (h : SSt E w g T xss k) {j : Nat} (hj : j < xss.length) : ∃ u, w.cell? ⟨g, j, none⟩ = some u := by
  obtain ⟨V, F, h1, _⟩ := h
  exact h1.cell (by omega)
theorem SSt.frozen (h : SSt E w g T xss k) (j : Nat) : w.frozen? ⟨g, j, none⟩ = false := by
  obtain ⟨V, F, h1, _⟩ := h
  exact h1.frozen j
theorem SSt.lt (h : SSt E w g T xss k) : g < w.heap.size := by
  obtain ⟨V, F, h1, _⟩ := h
  exact h1.lt
/-- The next row is made and laid in. -/
theorem SSt.next (h : SSt E w g T xss k) (hk : k < xss.length) {y : Value} (hn : New E w y xss[k] w') : SSt E (w'.setCell ⟨g, k, none⟩ y) g T xss (k + 1) := by
  have hg := h.lt
  obtain ⟨V, F, h1, h2, h3, h4, h5⟩ := h
  obtain ⟨⟨f, hs, hlo, hnd⟩, hb⟩ := hn
  have ho : Only [g] w' (w'.setCell ⟨g, k, none⟩ y) := (Only.refl _ _).set k y
  have hne : ∀ c, g < c → c ∉ [g] := fun c hc hm => by rw [List.mem_singleton] at hm; omega
  have e1 : ∀ i, i < k → (fun i => if i = k then y else V i) i = V i := fun i hi => if_neg (by omega)
  have e2 : ∀ i, i < k → (fun i => if i = k then f else F i) i = F i := fun i hi => if_neg (by omega)
  have em : (List.range (k + 1)).map (fun i => if i = k then y else V i) = (List.range k).map V ++ [y] := by
    rw [List.range_succ, List.map_append, List.map_cons, List.map_nil, if_pos rfl]
    congr 1
    exact List.map_congr_left (fun i hi => e1 i (by simpa using hi))
  have ef : (List.range (k + 1)).flatMap (fun i => if i = k then f else F i) = (List.range k).flatMap F ++ f := by
    rw [List.range_succ, List.flatMap_append, List.flatMap_cons, List.flatMap_nil, if_pos rfl, List.append_nil]
    congr 1
    rw [List.flatMap_def, List.flatMap_def]
    congr 1
    exact List.map_congr_left (fun i hi => e2 i (by simpa using hi))
  have hf2 : Fill w' g g T 1 xss.length ((List.range k).map V) := h1.below hb hg
  refine ⟨fun i => if i = k then y else V i, fun i => if i = k then f else F i, ?_, ?_, ?_, ?_, ?_⟩
  · rw [em]
    exact hf2.put_at (by simp) (by omega) y
  · intro i hi
    dsimp only
    by_cases e : i = k
    · subst e
      rw [if_pos rfl]
      obtain ⟨u, hu⟩ := hf2.cell (j := i) (by omega)
      exact World.cell?_setCell_same w' _ y hu
    · rw [if_neg e, World.cell?_setCell_other _ _ _ _ (by intro h; injection h with _ h _; exact e h.symm)]
      exact (hb.cell (p := ⟨g, i, none⟩) hg).trans (h2 i (by omega))
  · intro i hi
    dsimp only
    by_cases e : i = k
    · subst e
      rw [if_pos rfl, if_pos rfl, show xss.getD i [] = xss[i] from by simp [List.getD_eq_getElem?_getD, hk]]
      exact hs.only ho (fun b hb' => hne b (by have := hlo b hb'; omega))
    · rw [if_neg e, if_neg e]
      exact ((h3 i (by omega)).below' hb).only ho (fun b hb' => hne b (h5 b (List.mem_flatMap.2 ⟨i, by simp; omega, hb'⟩)).1)
  · rw [ef, List.nodup_append]
    exact ⟨h4, hnd, fun a ha b hb' e => by have := (h5 a ha).2; have := hlo b hb'; omega⟩
  · rw [ef]
    intro c hc
    have hsz : (w'.setCell ⟨g, k, none⟩ y).heap.size = w'.heap.size := by simp
    rcases List.mem_append.1 hc with hc | hc
    · exact ⟨(h5 c hc).1, by rw [hsz]; exact Nat.lt_of_lt_of_le (h5 c hc).2 hb.size⟩
    · exact ⟨by have := hlo c hc; omega, by rw [hsz]; exact hs.lt c hc⟩
theorem SSt.done (h : SSt E w g T xss xss.length) (hm : xss.length ≤ maxLen) : ∃ fp, Sl E.slice w (.slice (some ⟨g, 0, none⟩) xss.length xss.length) xss fp ∧ (∀ b ∈ fp, g ≤ b) ∧ fp.Nodup := by
  have hg := h.lt
  obtain ⟨V, F, h1, h2, h3, h4, h5⟩ := h
  have hr : NRows E w g 0 xss.length V (fun i => xss.getD i []) F := ⟨fun i hi => by simpa using h2 i hi, fun i _ => by simpa using h1.frozen i, h3⟩
  refine ⟨_, hr.sl hg rfl (fun i hi => by simp [List.getD_eq_getElem?_getD, hi]) (Nat.le_refl _) hm, ?_, ?_⟩
  · intro b hb
    rcases List.mem_cons.1 hb with rfl | hb
    · exact Nat.le_refl _
    · exact Nat.le_of_lt (h5 b hb).1
  · rw [List.nodup_cons]
    exact ⟨fun hm' => Nat.lt_irrefl _ (h5 _ hm').1, h4⟩
end
def preS (ns : List Nat) (i : Nat) : Nat := (ns.take i).sum
theorem preS_succ {ns : List Nat} {i : Nat} (h : i < ns.length) : preS ns (i + 1) = preS ns i + ns[i] := by
  unfold preS; rw [List.take_succ_eq_append_getElem h, List.sum_append]; simp
theorem preS_full {ns : List Nat} {i : Nat} (h : ns.length ≤ i) : preS ns i = ns.sum := by unfold preS; rw [List.take_of_length_le h]
theorem preS_le (ns : List Nat) (i : Nat) : preS ns i ≤ ns.sum := by
  have h := List.sum_append (l₁ := ns.take i) (l₂ := ns.drop i)
  rw [List.take_append_drop] at h
  unfold preS; omega
end Go.Proofs.Ytjfaafoldllppaa
