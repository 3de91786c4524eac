/- Parts of the proof: Nest, Ra, Pg, Pgi, Ss, Bs, Sx, No, Be, Ci. -/
import Derived.Test.YtjfaafoldllppaaG01
import Derived.Test.YtjfaafoldllppaaG02
namespace Go.Proofs.Ytjfaafoldllppaa
open Go.RowKit
set_option linter.unusedVariables false

/-- The rows of a slice of slices, laid open. -/
structure NRows {α : Type} (E : Cod α) (w : World) (b off n : Nat) (V : Nat → Value) (cur : Nat → List α) (F : Nat → List Nat) : Prop where
  cell : ∀ i, i < n → w.cell? ⟨b, off + i, none⟩ = some (V i)
  frz : ∀ i, i < n → w.frozen? ⟨b, off + i, none⟩ = false
  rd : ∀ i, i < n → Sl E w (V i) (cur i) (F i)
section
variable {α : Type} {E : Cod α} {w w' : World} {b off n cap len : Nat} {A : Option Addr} {V : Nat → Value} {cur : Nat → List α} {F : Nat → List Nat} {xss : List (List α)} {fp : List Nat}
theorem Sl.rows (h : Sl E.slice w (.slice A len cap) xss fp) (h0 : 0 < xss.length) :
    ∃ b off V F, A = some ⟨b, off, none⟩ ∧ b < w.heap.size ∧ fp = b :: (List.range xss.length).flatMap F ∧ NRows E w b off xss.length V (fun i => xss.getD i []) F := by
  obtain ⟨A', cap', hv, hl, hc, hr⟩ := h
  injection hv with hA hn hcap
  subst hA
  rcases hr with ⟨h1, _⟩ | ⟨b, off, F, hA, hb, hfp, hi⟩
  · subst h1; simp at h0
  · have hex : ∀ i, ∃ u, ∀ h : i < xss.length, w.cell? ⟨b, off + i, none⟩ = some u ∧ w.frozen? ⟨b, off + i, none⟩ = false ∧ Sl E w u xss[i] (F i) := fun i => by
      by_cases hlt : i < xss.length
      · obtain ⟨cs, h1, h2, u, rfl, h3⟩ := hi i hlt
        refine ⟨u, fun _ => ⟨?_, ?_, h3⟩⟩
        · have := h1 0 (show 0 < 1 by omega); simpa [Cod.slice] using this
        · have := h2 0 (show 0 < 1 by omega); simpa [Cod.slice] using this
      · exact ⟨undef, fun h => absurd h hlt⟩
    refine ⟨b, off, fun i => Classical.choose (hex i), F, hA, hb, hfp, ⟨fun i h => ?_, fun i h => ?_, fun i h => ?_⟩⟩
    · exact (Classical.choose_spec (hex i) h).1
    · exact (Classical.choose_spec (hex i) h).2.1
    · have := (Classical.choose_spec (hex i) h).2.2
      simpa [List.getD_eq_getElem?_getD, h] using this
theorem NRows.sl (h : NRows E w b off n V cur F) (hb : b < w.heap.size) (hn : xss.length = n) (hx : ∀ i (hi : i < xss.length), xss[i] = cur i) (hc : n ≤ cap) (hm : cap ≤ maxLen) :
    Sl E.slice w (.slice (some ⟨b, off, none⟩) n cap) xss (b :: (List.range n).flatMap F) := by
  subst hn
  refine ⟨_, cap, rfl, hc, hm, .inr ⟨b, off, F, rfl, hb, rfl, fun i hi => ⟨[V i], fun j hj => ?_, fun j hj => ?_, V i, rfl, ?_⟩⟩⟩
  · have hj' : j = 0 := by have : j < 1 := hj; omega
    subst hj'
    have := h.cell i hi
    simpa [Cod.slice] using this
  · have hj' : j = 0 := by have : j < 1 := hj; omega
    subst hj'
    have := h.frz i hi
    simpa [Cod.slice] using this
  · rw [hx i hi]; exact h.rd i hi
theorem NRows.below (h : NRows E w b off n V cur F) (hb : b < w.heap.size) (hw : Below w.heap.size w w') : NRows E w' b off n V cur F :=
  ⟨fun i hi => (hw.cell (p := ⟨b, off + i, none⟩) hb).trans (h.cell i hi), fun i hi => (hw.frozen (p := ⟨b, off + i, none⟩) hb).trans (h.frz i hi), fun i hi => (h.rd i hi).below' hw⟩
theorem NRows.congr {cur' : Nat → List α} (h : NRows E w b off n V cur F) (hc : ∀ i, i < n → cur i = cur' i) : NRows E w b off n V cur' F :=
  ⟨h.cell, h.frz, fun i hi => by rw [← hc i hi]; exact h.rd i hi⟩
/-- No block twice. -/
theorem rows_apart (hnd : (b :: (List.range n).flatMap F).Nodup) : (∀ i, i < n → b ∉ F i) ∧ (∀ i j, i < n → j < n → i ≠ j → ∀ c ∈ F i, c ∉ F j) ∧ ∀ i, i < n → (F i).Nodup := by
  rw [List.nodup_cons] at hnd
  obtain ⟨h1, h2⟩ := hnd
  refine ⟨fun i hi hm => h1 (List.mem_flatMap.2 ⟨i, by simpa using hi, hm⟩), ?_, ?_⟩
  · have h3 : ∀ i j, i < j → j < n → ∀ c ∈ F i, c ∉ F j := by
      intro i j hij hj c hc hc'
      have e1 : List.range n = List.range j ++ (List.range (n - j)).map (j + ·) := by rw [← List.range_add]; congr 1; omega
      rw [e1, List.flatMap_append, List.nodup_append] at h2
      exact h2.2.2 c (List.mem_flatMap.2 ⟨i, by simpa using hij, hc⟩) c (List.mem_flatMap.2 ⟨j, by simp; omega, hc'⟩) rfl
    intro i j hi hj hne c hc hc'
    rcases Nat.lt_or_ge i j with h | h
    · exact h3 i j h hj c hc hc'
    · exact h3 j i (by omega) hi c hc' hc
  · intro i hi
    have e1 : List.range n = List.range i ++ (List.range (n - i)).map (i + ·) := by rw [← List.range_add]; congr 1; omega
    have e2 : List.range (n - i) = 0 :: (List.range (n - i - 1)).map Nat.succ := by
      rw [← List.range_succ_eq_map]; congr 1; omega
    rw [e1, e2, List.flatMap_append, List.nodup_append] at h2
    have h4 := h2.2.1
    rw [List.map_cons, List.flatMap_cons, List.nodup_append] at h4
    simpa using h4.1
/-- One row is written, through its own blocks alone. -/
theorem NRows.step {ys : List α} {k : Nat} (h : NRows E w b off n V cur F) (hnd : (b :: (List.range n).flatMap F).Nodup) (hb : b < w.heap.size) (hk : k < n) (hs : Sl E w' (V k) ys (F k)) (ho : Only (F k) w w') :
    NRows E w' b off n V (fun i => if i = k then ys else cur i) F := by
  obtain ⟨h1, h2, _⟩ := rows_apart hnd
  have hbk := ho.block b hb (h1 k hk)
  refine ⟨fun i hi => (World.cell?_of_block (a := ⟨b, off + i, none⟩) hbk).trans (h.cell i hi), fun i hi => (World.frozen?_of_block (a := ⟨b, off + i, none⟩) hbk).trans (h.frz i hi), fun i hi => ?_⟩
  by_cases e : i = k
  · subst e; rw [if_pos rfl]; exact hs
  · rw [if_neg e]; exact (h.rd i hi).only ho (h2 i k hi hk e)
theorem Only.sub {fp fp' : List Nat} (h : Only fp w w') (hs : ∀ c ∈ fp, c ∈ fp') : Only fp' w w' := ⟨h.os, h.tape, h.output, h.size, fun k hk hn => h.block k hk (fun hm => hn (hs k hm))⟩
theorem Sl.elem {k : Nat} (h : Sl E.slice w (.slice A len cap) xss fp) (hk : k < xss.length) :
    ∃ b off vk fk, A = some ⟨b, off, none⟩ ∧ w.cell? ⟨b, off + k, none⟩ = some vk ∧ Sl E w vk xss[k] fk ∧ b ∈ fp := by
  obtain ⟨b, off, V, F, hA, hb, hfp, hr⟩ := h.rows (by omega)
  have := hr.rd k hk
  simp [List.getD_eq_getElem?_getD, hk] at this
  exact ⟨b, off, V k, F k, hA, hr.cell k hk, this, by rw [hfp]; simp⟩
end
/-! ### A slice of slices that the call fills row by row -/
/-- The block g holds n slices, of which the first k are made: they read as the first k rows. -/
def SSt {α : Type} (E : Cod α) (w : World) (g : Nat) (T : TypeId) (xss : List (List α)) (k : Nat) : Prop :=
  ∃ (V : Nat → Value) (F : Nat → List Nat), Fill w g g T 1 xss.length ((List.range k).map V) ∧ (∀ i, i < k → w.cell? ⟨g, i, none⟩ = some (V i)) ∧ (∀ i, i < k → Sl E w (V i) (xss.getD i []) (F i)) ∧ ((List.range k).flatMap F).Nodup ∧ (∀ c ∈ (List.range k).flatMap F, g < c ∧ c < w.heap.size)
theorem SSt.start {α : Type} {E : Cod α} (w : World) (T : TypeId) (z : Value) (xss : List (List α)) (hn : xss.length ≤ 9223372036854775807) : SSt E (w.alloc (.cells (madeCells #[z] xss.length) T)) w.heap.size T xss 0 :=
  ⟨fun _ => undef, fun _ => [], by simpa using Fill.start1 w T xss.length #[z] hn, fun _ h => absurd h (Nat.not_lt_zero _), fun _ h => absurd h (Nat.not_lt_zero _), by simp, by simp⟩
section
variable {α : Type} {E : Cod α} {w w' : World} {g : Nat} {T : TypeId} {xss : List (List α)} {k : Nat}
theorem SSt.below (h : SSt E w g T xss k) (hb : Below w.heap.size w w') : SSt E w' g T xss k := by
  obtain ⟨V, F, h1, h2, h3, h4, h5⟩ := h
  exact ⟨V, F, h1.below hb h1.lt, fun i hi => (hb.cell (p := ⟨g, i, none⟩) h1.lt).trans (h2 i hi), fun i hi => (h3 i hi).below' hb, h4, fun c hc => ⟨(h5 c hc).1, Nat.lt_of_lt_of_le (h5 c hc).2 hb.size⟩⟩
theorem SSt.cell (h : SSt E w g T xss k) {j : Nat} (hj : j < xss.length) : ∃ u, w.cell? ⟨g, j, none⟩ = some u := by
  obtain ⟨V, F, h1, _⟩ := h
  exact h1.cell (by omega)
theorem SSt.frozen (h : SSt E w g T xss k) (j : Nat) : w.frozen? ⟨g, j, none⟩ = false := by
  obtain ⟨V, F, h1, _⟩ := h
  exact h1.frozen j
theorem SSt.lt (h : SSt E w g T xss k) : g < w.heap.size := by
  obtain ⟨V, F, h1, _⟩ := h
  exact h1.lt
/-- The next row is made and laid in. -/
theorem SSt.next (h : SSt E w g T xss k) (hk : k < xss.length) {y : Value} (hn : New E w y xss[k] w') : SSt E (w'.setCell ⟨g, k, none⟩ y) g T xss (k + 1) := by
  have hg := h.lt
  obtain ⟨V, F, h1, h2, h3, h4, h5⟩ := h
  obtain ⟨⟨f, hs, hlo, hnd⟩, hb⟩ := hn
  have ho : Only [g] w' (w'.setCell ⟨g, k, none⟩ y) := (Only.refl _ _).set k y
  have hne : ∀ c, g < c → c ∉ [g] := fun c hc hm => by rw [List.mem_singleton] at hm; omega
  have e1 : ∀ i, i < k → (fun i => if i = k then y else V i) i = V i := fun i hi => if_neg (by omega)
  have e2 : ∀ i, i < k → (fun i => if i = k then f else F i) i = F i := fun i hi => if_neg (by omega)
  have em : (List.range (k + 1)).map (fun i => if i = k then y else V i) = (List.range k).map V ++ [y] := by
    rw [List.range_succ, List.map_append, List.map_cons, List.map_nil, if_pos rfl]
    congr 1
    exact List.map_congr_left (fun i hi => e1 i (by simpa using hi))
  have ef : (List.range (k + 1)).flatMap (fun i => if i = k then f else F i) = (List.range k).flatMap F ++ f := by
    rw [List.range_succ, List.flatMap_append, List.flatMap_cons, List.flatMap_nil, if_pos rfl, List.append_nil]
    congr 1
    rw [List.flatMap_def, List.flatMap_def]
    congr 1
    exact List.map_congr_left (fun i hi => e2 i (by simpa using hi))
  have hf2 : Fill w' g g T 1 xss.length ((List.range k).map V) := h1.below hb hg
  refine ⟨fun i => if i = k then y else V i, fun i => if i = k then f else F i, ?_, ?_, ?_, ?_, ?_⟩
  · rw [em]
    exact hf2.put_at (by simp) (by omega) y
  · intro i hi
    dsimp only
    by_cases e : i = k
    · subst e
      rw [if_pos rfl]
      obtain ⟨u, hu⟩ := hf2.cell (j := i) (by omega)
      exact World.cell?_setCell_same w' _ y hu
    · rw [if_neg e, World.cell?_setCell_other _ _ _ _ (by intro h; injection h with _ h _; exact e h.symm)]
      exact (hb.cell (p := ⟨g, i, none⟩) hg).trans (h2 i (by omega))
  · intro i hi
    dsimp only
    by_cases e : i = k
    · subst e
      rw [if_pos rfl, if_pos rfl, show xss.getD i [] = xss[i] from by simp [List.getD_eq_getElem?_getD, hk]]
      exact hs.only ho (fun b hb' => hne b (by have := hlo b hb'; omega))
    · rw [if_neg e, if_neg e]
      exact ((h3 i (by omega)).below' hb).only ho (fun b hb' => hne b (h5 b (List.mem_flatMap.2 ⟨i, by simp; omega, hb'⟩)).1)
  · rw [ef, List.nodup_append]
    exact ⟨h4, hnd, fun a ha b hb' e => by have := (h5 a ha).2; have := hlo b hb'; omega⟩
  · rw [ef]
    intro c hc
    have hsz : (w'.setCell ⟨g, k, none⟩ y).heap.size = w'.heap.size := by simp
    rcases List.mem_append.1 hc with hc | hc
    · exact ⟨(h5 c hc).1, by rw [hsz]; exact Nat.lt_of_lt_of_le (h5 c hc).2 hb.size⟩
    · exact ⟨by have := hlo c hc; omega, by rw [hsz]; exact hs.lt c hc⟩
theorem SSt.done (h : SSt E w g T xss xss.length) (hm : xss.length ≤ maxLen) : ∃ fp, Sl E.slice w (.slice (some ⟨g, 0, none⟩) xss.length xss.length) xss fp ∧ (∀ b ∈ fp, g ≤ b) ∧ fp.Nodup := by
  have hg := h.lt
  obtain ⟨V, F, h1, h2, h3, h4, h5⟩ := h
  have hr : NRows E w g 0 xss.length V (fun i => xss.getD i []) F := ⟨fun i hi => by simpa using h2 i hi, fun i _ => by simpa using h1.frozen i, h3⟩
  refine ⟨_, hr.sl hg rfl (fun i hi => by simp [List.getD_eq_getElem?_getD, hi]) (Nat.le_refl _) hm, ?_, ?_⟩
  · intro b hb
    rcases List.mem_cons.1 hb with rfl | hb
    · exact Nat.le_refl _
    · exact Nat.le_of_lt (h5 b hb).1
  · rw [List.nodup_cons]
    exact ⟨fun hm' => Nat.lt_irrefl _ (h5 _ hm').1, h4⟩
end
def preS (ns : List Nat) (i : Nat) : Nat := (ns.take i).sum
theorem preS_succ {ns : List Nat} {i : Nat} (h : i < ns.length) : preS ns (i + 1) = preS ns i + ns[i] := by
  unfold preS; rw [List.take_succ_eq_append_getElem h, List.sum_append]; simp
theorem preS_full {ns : List Nat} {i : Nat} (h : ns.length ≤ i) : preS ns i = ns.sum := by unfold preS; rw [List.take_of_length_le h]
theorem preS_le (ns : List Nat) (i : Nat) : preS ns i ≤ ns.sum := by
  have h := List.sum_append (l₁ := ns.take i) (l₂ := ns.drop i)
  rw [List.take_append_drop] at h
  unfold preS; omega
end Go.Proofs.Ytjfaafoldllppaa

namespace Go.Proofs.Ytjfaafoldllppaa
open Go.RowKit
set_option linter.unusedVariables false

theorem infoSliceR : (Try.prog.info? 38).map (fun i => (i.zero, i.size, i.bytes)) = some (some (.slice none 0 0), 1, 24) := by kernel_rfl
structure RowsV (w : World) (B : Nat) (v : Value) (R : List (List ByteArray)) (V : Nat → Value) (F : Nat → List Nat) : Prop where
  own : w.ownsRow B 38 1 v R.length ((List.range R.length).map V)
  rd : ∀ i, i < R.length → Sl fStr.cod w (V i) (R.getD i []) (F i)
  ap : ∀ i, i < R.length → ∀ b ∈ F i, B ≤ b ∧ v.ownBlock ≠ some b
section
variable {w w' u : World} {B : Nat} {v v' : Value} {R : List (List ByteArray)} {V : Nat → Value} {F : Nat → List Nat}
theorem ownsRow_belowR {e : TypeId} {n size : Nat} {xs : List Value} (h : w.ownsRow B e size v n xs) (hb : Below w.heap.size w w') : w'.ownsRow B e size v n xs := by
  obtain ⟨h1, h2⟩ := h
  refine ⟨h1, ?_⟩
  rcases h2 with h2 | ⟨g, cap, cur, hv, hg, hh, r⟩
  · exact .inl h2
  · have hgl : g < w.heap.size := by
      rcases Nat.lt_or_ge g w.heap.size with hlt | hge
      · exact hlt
      · rw [Array.getElem?_eq_none hge] at hh; cases hh
    exact .inr ⟨g, cap, cur, hv, hg, by rw [hb.block _ hgl]; exact hh, r⟩
theorem RowsV.below (h : RowsV w B v R V F) (hb : Below w.heap.size w w') : RowsV w' B v R V F :=
  ⟨ownsRow_belowR h.own hb, fun i hi => (h.rd i hi).below' hb, h.ap⟩
theorem RowsV.lt (h : RowsV w B v R V F) : ∀ k, v.ownBlock = some k → k < w.heap.size := fun k hk => (h.own.lt k hk).2
/-- One more row. -/
theorem RowsV.push {r : List ByteArray} {y : Value} {f : List Nat} (h : RowsV w B v R V F) (hs : Sl fStr.cod w y r f) (hf : ∀ b ∈ f, B ≤ b ∧ v.ownBlock ≠ some b)
    (hown : u.ownsRow B 38 1 v' (R.length + 1) ((List.range R.length).map V ++ [y])) (hg : w.grownBy u v.ownBlock) (hl : v'.ownBlock = v.ownBlock ∨ v'.ownBlock = some w.heap.size) :
    RowsV u B v' (R ++ [r]) (fun i => if i = R.length then y else V i) (fun i => if i = R.length then f else F i) := by
  have hlen : (R ++ [r]).length = R.length + 1 := by simp
  have keep : ∀ {x : Value} {q : List ByteArray} {ff : List Nat}, Sl fStr.cod w x q ff → (∀ b ∈ ff, v.ownBlock ≠ some b) → Sl fStr.cod u x q ff := fun hx hne =>
    hx.keep (fun b hb => hg.block b (hx.lt b hb) (fun e => hne b hb e.symm)) hg.size
  have apart : ∀ {b : Nat}, b < w.heap.size → v.ownBlock ≠ some b → v'.ownBlock ≠ some b := fun hb hne => by
    rcases hl with e | e
    · rw [e]; exact hne
    · rw [e]; intro h2; injection h2 with h2; omega
  refine ⟨?_, ?_, ?_⟩
  · rw [hlen]
    have em : (List.range (R.length + 1)).map (fun i => if i = R.length then y else V i) = (List.range R.length).map V ++ [y] := by
      rw [List.range_succ, List.map_append, List.map_cons, List.map_nil, if_pos rfl]
      congr 1
      exact List.map_congr_left (fun i hi => if_neg (by have : i < R.length := by simpa using hi
                                                        omega))
    rw [em]
    exact hown
  · intro i hi
    rw [hlen] at hi
    by_cases e : i = R.length
    · subst e
      rw [if_pos rfl, if_pos rfl, show (R ++ [r]).getD R.length [] = r from by simp]
      exact keep hs (fun b hb => (hf b hb).2)
    · have hi2 : i < R.length := by omega
      rw [if_neg e, if_neg e, show (R ++ [r]).getD i [] = R.getD i [] from by simp [List.getD_eq_getElem?_getD, List.getElem?_append_left hi2]]
      exact keep (h.rd i hi2) (fun b hb => (h.ap i hi2 b hb).2)
  · intro i hi
    rw [hlen] at hi
    by_cases e : i = R.length
    · rw [if_pos e]
      exact fun b hb => ⟨(hf b hb).1, apart (hs.lt b hb) (hf b hb).2⟩
    · have hi2 : i < R.length := by omega
      rw [if_neg e]
      exact fun b hb => ⟨(h.ap i hi2 b hb).1, apart ((h.rd i hi2).lt b hb) (h.ap i hi2 b hb).2⟩
/-- It reads as a slice of slices. -/
theorem RowsV.sl (h : RowsV w B v R V F) (h0 : 0 < R.length) : ∃ fp, Sl fStr.cod.slice w v R fp := by
  obtain ⟨h1, h2⟩ := h.own
  rcases h2 with ⟨hv, hz⟩ | ⟨g, cap, cur, hv, hg, hh, hnc, hcm, hsz, hxs⟩
  · omega
  · have hgl : g < w.heap.size := by
      rcases Nat.lt_or_ge g w.heap.size with hlt | hge
      · exact hlt
      · rw [Array.getElem?_eq_none hge] at hh; cases hh
    have hown : w.ownsRow B 38 1 (.slice (some ⟨g, 0, none⟩) R.length cap) R.length ((List.range R.length).map V) := by rw [← hv]; exact h.own
    have hr : NRows fStr.cod w g 0 R.length V (fun i => R.getD i []) F := ⟨fun i hi => by
      rw [Nat.zero_add, hown.cellAt i (by omega), List.getElem?_map, List.getElem?_range hi]; rfl, fun i _ => by rw [Nat.zero_add]; exact hown.frozenAt i, h.rd⟩
    rw [hv]
    exact ⟨_, hr.sl hgl rfl (fun i hi => by simp [List.getD_eq_getElem?_getD, hi]) hnc hcm⟩
/-- The first row. -/
theorem RowsV.first {r : List ByteArray} {y : Value} {f : List Nat} {w : World} {B : Nat} (hB : B ≤ w.heap.size) (hs : Sl fStr.cod w y r f) (hf : ∀ b ∈ f, B ≤ b) :
    RowsV (w.alloc (.cells #[y] 38)) B (.slice (some ⟨w.heap.size, 0, none⟩) 1 1) [r] (fun _ => y) (fun _ => f) := by
  refine ⟨?_, ?_, ?_⟩
  · exact World.ownsRow_lit (e := 38) (size := 1) w #[y] 1 hB (by decide) rfl
  · intro i hi
    have hi0 : i = 0 := by simpa using hi
    subst hi0
    exact hs.below' ((Below.refl _ _).alloc (Nat.le_refl _) _)
  · intro i hi b hb
    refine ⟨hf b hb, ?_⟩
    have := hs.lt b hb
    show some w.heap.size ≠ some b
    intro e; injection e with e; omega
end
end Go.Proofs.Ytjfaafoldllppaa

namespace Go.Proofs.Ytjfaafoldllppaa
open Go.RowKit
set_option linter.unusedVariables false

/-- The j-th of the pieces of m elements. -/
def pgAt {α : Type} (m : Nat) (xs : List α) (j : Nat) : List α := (xs.drop (j * m)).take m
def pgN (m k : Nat) : Nat := (k + m - 1) / m
def pgAll (m : Nat) (hd : ByteArray) (xs : List ByteArray) : List (List ByteArray) := (List.range (pgN m xs.length)).map fun j => hd :: pgAt m xs j
theorem pgN_zero {m : Nat} (hm : 0 < m) : pgN m 0 = 0 := by unfold pgN; exact Nat.div_eq_of_lt (by omega)
theorem pgN_full {m k q : Nat} (hm : 0 < m) (hk : k = q * m) : pgN m k = q ∧ pgN m (k + 1) = q + 1 := by
  subst hk
  unfold pgN
  constructor
  · rw [show q * m + m - 1 = (m - 1) + m * q by rw [Nat.mul_comm]; omega, Nat.add_mul_div_left _ _ hm, Nat.div_eq_of_lt (by omega)]; omega
  · rw [show q * m + 1 + m - 1 = 0 + m * (q + 1) by rw [Nat.mul_succ, Nat.mul_comm]; omega, Nat.add_mul_div_left _ _ hm]; simp
theorem pgN_part {m k q r : Nat} (hm : 0 < m) (hk : k = q * m + r) (hr0 : 0 < r) (hr : r ≤ m) : pgN m k = q + 1 := by
  subst hk
  unfold pgN
  rw [show q * m + r + m - 1 = (r - 1) + m * (q + 1) by rw [Nat.mul_succ, Nat.mul_comm]; omega, Nat.add_mul_div_left _ _ hm, Nat.div_eq_of_lt (by omega)]; omega
theorem pgAt_take_old {α : Type} {m k k' j : Nat} {xs : List α} (h1 : (j + 1) * m ≤ k) (h2 : (j + 1) * m ≤ k') : pgAt m (xs.take k) j = pgAt m (xs.take k') j := by
  unfold pgAt
  rw [Nat.succ_mul] at h1 h2
  rw [List.drop_take, List.drop_take, List.take_take, List.take_take, Nat.min_eq_left (by omega), Nat.min_eq_left (by omega)]
theorem pgAt_last {α : Type} {m k j r : Nat} {xs : List α} (hk : k = j * m + r) (hr : r ≤ m) (hl : k ≤ xs.length) : pgAt m (xs.take k) j = (xs.drop (j * m)).take r := by
  unfold pgAt
  rw [List.drop_take, List.take_take, hk, Nat.add_sub_cancel_left, Nat.min_eq_right hr]
theorem pgAt_len {α : Type} {m k j r : Nat} {xs : List α} (hk : k = j * m + r) (hr : r ≤ m) (hl : k ≤ xs.length) : (pgAt m (xs.take k) j).length = r := by
  rw [pgAt_last hk hr hl, List.length_take, List.length_drop]; omega
theorem pgAt_snoc {α : Type} {m k j r : Nat} {xs : List α} (hk : k = j * m + r) (hr : r < m) (hl : k < xs.length) : pgAt m (xs.take (k + 1)) j = pgAt m (xs.take k) j ++ [xs[k]] := by
  rw [pgAt_last (r := r + 1) (by omega) (by omega) (by omega), pgAt_last (r := r) hk (by omega) (by omega), List.take_add_one, List.getElem?_drop, ← hk, List.getElem?_eq_getElem hl]; rfl
theorem pgAt_first {α : Type} {m k j : Nat} {xs : List α} (hk : k = j * m) (hm : 0 < m) (hl : k < xs.length) : pgAt m (xs.take (k + 1)) j = [xs[k]] := by
  rw [pgAt_snoc (r := 0) (by omega) hm hl]
  have h0 := pgAt_len (m := m) (k := k) (j := j) (r := 0) (xs := xs) (by omega) (by omega) (by omega)
  rw [List.eq_nil_of_length_eq_zero h0]; rfl

theorem own_stays {α : Type} {E : Flat α} {w w' : World} {B : Nat} {e : TypeId} {v : Value} {L : List α} (h : Own E w B e v L) (hk : ∀ k, v.ownBlock = some k → k < w.heap.size → w'.heap[k]? = w.heap[k]?) : Own E w' B e v L := by
  obtain ⟨h1, h2⟩ := h
  refine ⟨h1, ?_⟩
  rcases h2 with h2 | ⟨g, cap, cur, hv, hg, hh, r⟩
  · exact .inl h2
  · have hgl : g < w.heap.size := by
      rcases Nat.lt_or_ge g w.heap.size with hlt | hge
      · exact hlt
      · rw [Array.getElem?_eq_none hge] at hh; cases hh
    exact .inr ⟨g, cap, cur, hv, hg, by rw [hk g (by rw [hv]; rfl) hgl]; exact hh, r⟩
theorem own_at {α : Type} {E : Flat α} {w : World} {B : Nat} {e : TypeId} {v : Value} {L : List α} (h : Own E w B e v L) {g : Nat} (hg : v.ownBlock = some g) : B ≤ g ∧ g < w.heap.size := by
  rcases h.2 with ⟨hv, _⟩ | ⟨g', cap, cur, hv, hg', hh, _⟩
  · rw [hv] at hg; cases hg
  · rw [hv] at hg
    injection hg with hg
    have hg : g' = g := hg
    subst hg
    refine ⟨hg', ?_⟩
    rcases Nat.lt_or_ge g' w.heap.size with hlt | hge
    · exact hlt
    · rw [Array.getElem?_eq_none hge] at hh; cases hh
theorem own_fp {α : Type} {E : Flat α} {w : World} {base : Nat} {e : TypeId} {v : Value} {L : List α} (h : Own E w base e v L) (hok : ∀ x ∈ L, E.ok x) :
    ∃ fp, Sl E.cod w v L fp ∧ (∀ b ∈ fp, base ≤ b) ∧ fp.Nodup ∧ ∀ b ∈ fp, v.ownBlock = some b := by
  obtain ⟨fp, h1, h2, h3⟩ := Sl.of_own (n := L.length) rfl h hok
  rcases Nat.eq_zero_or_pos L.length with h0 | h0
  · obtain rfl := List.eq_nil_of_length_eq_zero h0
    refine ⟨[], ?_, by simp, by simp, by simp⟩
    obtain ⟨A, cap, hv, hl, hc, _⟩ := h1
    exact ⟨A, cap, hv, hl, hc, .inl ⟨rfl, rfl⟩⟩
  · refine ⟨fp, h1, h2, h3, fun b hb => ?_⟩
    obtain ⟨A, cap, rfl, _, _⟩ := h1.form
    obtain ⟨b', off, hA, hfp, _⟩ := h1.cells h0
    subst hA
    rw [hfp] at hb
    rw [List.mem_singleton] at hb
    subst hb
    rfl
structure PgV (w : World) (B : Nat) (v : Value) (n : Nat) (V : Nat → Value) (X : Nat → List ByteArray) (G : Nat → Nat) : Prop where
  own : w.ownsRow B 38 1 v n ((List.range n).map V)
  row : ∀ i, i < n → Own fStr w B 9 (V i) (X i)
  blk : ∀ i, i < n → (V i).ownBlock = some (G i)
  inj : ∀ i j, i < n → j < n → G i = G j → i = j
  ap : ∀ i, i < n → v.ownBlock ≠ some (G i)
section
variable {w w' u : World} {B n : Nat} {v v' : Value} {V : Nat → Value} {X : Nat → List ByteArray} {G : Nat → Nat}
theorem PgV.gl (h : PgV w B v n V X G) {i : Nat} (hi : i < n) : B ≤ G i ∧ G i < w.heap.size := own_at (h.row i hi) (h.blk i hi)
theorem PgV.below (h : PgV w B v n V X G) (hb : Below w.heap.size w w') : PgV w' B v n V X G :=
  ⟨ownsRow_belowR h.own hb, fun i hi => (h.row i hi).below hb, h.blk, h.inj, h.ap⟩
theorem PgV.nil {c : Nat} (hw : w.ownsRow B 38 1 v 0 []) : PgV w B v 0 (fun _ => undef) (fun _ => []) (fun _ => 0) :=
  ⟨hw, fun i hi => absurd hi (Nat.not_lt_zero i), fun i hi => absurd hi (Nat.not_lt_zero i), fun i j hi => absurd hi (Nat.not_lt_zero i), fun i hi => absurd hi (Nat.not_lt_zero i)⟩
theorem PgV.congr {X' : Nat → List ByteArray} (h : PgV w B v n V X G) (hx : ∀ i, i < n → X i = X' i) : PgV w B v n V X' G :=
  ⟨h.own, fun i hi => by rw [← hx i hi]; exact h.row i hi, h.blk, h.inj, h.ap⟩
theorem PgV.form (h : PgV w B v n V X G) : ∃ A cap, v = .slice A n cap := by
  rcases h.own.2 with ⟨hv, h0⟩ | ⟨g, cap, cur, hv, _⟩
  · exact ⟨none, 0, by rw [hv, h0]⟩
  · exact ⟨_, cap, hv⟩
theorem PgV.addr (h : PgV w B v n V X G) (h0 : 0 < n) : ∃ g cap, v = .slice (some ⟨g, 0, none⟩) n cap ∧ B ≤ g ∧ g < w.heap.size := by
  rcases h.own.2 with ⟨hv, h1⟩ | ⟨g, cap, cur, hv, hg, hh, _⟩
  · omega
  · refine ⟨g, cap, hv, hg, ?_⟩
    rcases Nat.lt_or_ge g w.heap.size with hlt | hge
    · exact hlt
    · rw [Array.getElem?_eq_none hge] at hh; cases hh
theorem PgV.last (h : PgV w B v n V X G) {i : Nat} (hi : i < n) (h0 : 0 < (X i).length) : ∃ c, V i = .slice (some ⟨G i, 0, none⟩) (X i).length c := by
  have hb := h.blk i hi
  rcases (h.row i hi).2 with ⟨hv, h1⟩ | ⟨g, cap, cur, hv, _⟩
  · omega
  · rw [hv] at hb
    injection hb with hb
    have hb : g = G i := hb
    subst hb
    exact ⟨cap, hv⟩
/-- One page more. -/
theorem PgV.push {r : List ByteArray} {y : Value} {gy : Nat} (h : PgV w B v n V X G) (hy : Own fStr w B 9 y r) (hgy : y.ownBlock = some gy) (hne : ∀ i, i < n → G i ≠ gy) (hvy : v.ownBlock ≠ some gy)
    (hown : u.ownsRow B 38 1 v' (n + 1) ((List.range n).map V ++ [y])) (hg : w.grownBy u v.ownBlock) (hl : v'.ownBlock = v.ownBlock ∨ v'.ownBlock = some w.heap.size) :
    PgV u B v' (n + 1) (fun i => if i = n then y else V i) (fun i => if i = n then r else X i) (fun i => if i = n then gy else G i) := by
  have keep : ∀ {z : Value} {q : List ByteArray} {b : Nat}, Own fStr w B 9 z q → z.ownBlock = some b → v.ownBlock ≠ some b → Own fStr u B 9 z q := fun hz hb hne => own_stays hz fun k hk hkl => hg.block k hkl (fun e => hne (by rw [← e]; rw [hb] at hk; exact hk.symm))
  have apart : ∀ {b : Nat}, b < w.heap.size → v.ownBlock ≠ some b → v'.ownBlock ≠ some b := fun hb hne => by
    rcases hl with e | e
    · rw [e]; exact hne
    · rw [e]; intro h2; injection h2 with h2; omega
  have hyl := own_at hy hgy
  refine ⟨?_, fun i hi => ?_, fun i hi => ?_, fun i j hi hj e => ?_, fun i hi => ?_⟩
  · have em : (List.range (n + 1)).map (fun i => if i = n then y else V i) = (List.range n).map V ++ [y] := by
      rw [List.range_succ, List.map_append, List.map_cons, List.map_nil, if_pos rfl]
      congr 1
      exact List.map_congr_left (fun i hi => if_neg (by have : i < n := by simpa using hi
                                                        omega))
    rw [em]
    exact hown
  · by_cases e : i = n
    · rw [if_pos e, if_pos e]; exact keep hy hgy hvy
    · rw [if_neg e, if_neg e]; exact keep (h.row i (by omega)) (h.blk i (by omega)) (h.ap i (by omega))
  · by_cases e : i = n
    · rw [if_pos e, if_pos e]; exact hgy
    · rw [if_neg e, if_neg e]; exact h.blk i (by omega)
  · by_cases e1 : i = n <;> by_cases e2 : j = n
    · omega
    · rw [if_pos e1, if_neg e2] at e; exact absurd e.symm (hne j (by omega))
    · rw [if_neg e1, if_pos e2] at e; exact absurd e (hne i (by omega))
    · rw [if_neg e1, if_neg e2] at e; exact h.inj i j (by omega) (by omega) e
  · by_cases e : i = n
    · rw [if_pos e]; exact apart hyl.2 hvy
    · rw [if_neg e]; exact apart (h.gl (by omega)).2 (h.ap i (by omega))
/-- The last page grows: its row went to y, in the world u; its place is stored. -/
theorem PgV.grow {g cap : Nat} {r : List ByteArray} {y : Value} {gy : Nat} (h : PgV w B (.slice (some ⟨g, 0, none⟩) (n + 1) cap) (n + 1) V X G) (hy : Own fStr u B 9 y r) (hgy : y.ownBlock = some gy)
    (hg : w.grownBy u (V n).ownBlock) (hl : y.ownBlock = (V n).ownBlock ∨ y.ownBlock = some w.heap.size) :
    PgV (u.setCell ⟨g, n, none⟩ y) B (.slice (some ⟨g, 0, none⟩) (n + 1) cap) (n + 1) (fun i => if i = n then y else V i) (fun i => if i = n then r else X i) (fun i => if i = n then gy else G i) := by
  obtain ⟨g', cap', hv, hgB, hgl⟩ := h.addr (by omega)
  injection hv with hv1 _ hv2
  injection hv1 with hv1
  injection hv1 with hv1
  subst hv1 hv2
  have hbn := h.blk n (by omega)
  have hgn : g ≠ G n := fun e => h.ap n (by omega) (by rw [← e]; rfl)
  have hgu : u.heap[g]? = w.heap[g]? := hg.block g hgl (by rw [hbn]; intro e; injection e with e; exact hgn e)
  have hgGi : ∀ i, i < n + 1 → g ≠ G i := fun i hi e => h.ap i hi (by rw [← e]; rfl)
  have hgy' : gy = G n ∨ gy = w.heap.size := by
    rcases hl with e | e
    · rw [hgy, hbn] at e; injection e with e; exact .inl e
    · rw [hgy] at e; injection e with e; exact .inr e
  have hne : g ≠ gy := by
    rcases hgy' with e | e
    · rw [e]; exact hgn
    · omega
  have hset : ∀ k, k < u.heap.size → k ≠ g → (u.setCell ⟨g, n, none⟩ y).heap[k]? = u.heap[k]? := fun k hkl hk => ((Only.refl [g] u).set n y).block k hkl (by rw [List.mem_singleton]; exact hk)
  refine ⟨?_, fun i hi => ?_, fun i hi => ?_, fun i j hi hj e => ?_, fun i hi => ?_⟩
  · have hu : u.ownsRow B 38 1 (.slice (some ⟨g, 0, none⟩) (n + 1) cap) (n + 1) ((List.range (n + 1)).map V) := by
      obtain ⟨h1, h2⟩ := h.own
      refine ⟨h1, ?_⟩
      rcases h2 with ⟨hv, _⟩ | ⟨g2, c2, cur, hv, q1, q2, q3⟩
      · cases hv
      · injection hv with e1 _ e2
        injection e1 with e1
        injection e1 with e1
        subst e1 e2
        exact .inr ⟨g, cap, cur, rfl, q1, by rw [hgu]; exact q2, q3⟩
    have h2 := (hu.stored n y).1
    have em : ((List.range (n + 1)).map V).set n y = (List.range (n + 1)).map (fun i => if i = n then y else V i) := by
      refine List.ext_getElem (by simp) (fun i h1 h2 => ?_)
      rw [List.getElem_set]
      simp only [List.length_map, List.length_range] at h2
      by_cases e : n = i
      · subst e; simp
      · rw [if_neg e]; simp [Ne.symm e]
    rw [em] at h2
    exact h2
  · by_cases e : i = n
    · rw [if_pos e, if_pos e]
      exact own_stays hy (fun k hk hkl => hset k hkl (fun e2 => by rw [hgy] at hk; injection hk with hk; exact hne (by rw [← e2, ← hk])))
    · rw [if_neg e, if_neg e]
      have hGi : G i ≠ G n := fun e2 => e (h.inj i n (by omega) (by omega) e2)
      have h1 : Own fStr u B 9 (V i) (X i) := own_stays (h.row i (by omega)) (fun k hk hkl => hg.block k hkl (by
        rw [h.blk i (by omega)] at hk; injection hk with hk
        rw [hbn, ← hk]; intro e2; injection e2 with e2; exact hGi e2))
      exact own_stays h1 (fun k hk hkl => hset k hkl (fun e2 => by
        rw [h.blk i (by omega)] at hk; injection hk with hk
        exact hgGi i (by omega) (by rw [← e2, ← hk])))
  · by_cases e : i = n
    · rw [if_pos e, if_pos e]; exact hgy
    · rw [if_neg e, if_neg e]; exact h.blk i (by omega)
  · have hlt : ∀ k, k < n → G k ≠ gy := fun k hk e => by
      rcases hgy' with e2 | e2
      · have := h.inj k n (by omega) (by omega) (e.trans e2); omega
      · have := (h.gl (i := k) (by omega)).2; omega
    by_cases e1 : i = n <;> by_cases e2 : j = n
    · omega
    · rw [if_pos e1, if_neg e2] at e; exact absurd e.symm (hlt j (by omega))
    · rw [if_neg e1, if_pos e2] at e; exact absurd e (hlt i (by omega))
    · rw [if_neg e1, if_neg e2] at e; exact h.inj i j (by omega) (by omega) e
  · show some g ≠ _
    by_cases e : i = n
    · rw [if_pos e]; intro e3; injection e3 with e3; exact hne e3
    · rw [if_neg e]; intro e3; injection e3 with e3; exact hgGi i (by omega) e3
/-- It reads as a slice of slices. -/
theorem PgV.sl {xss : List (List ByteArray)} (h : PgV w B v n V X G) (hx : xss = (List.range n).map X) (hok : ∀ i, i < n → ∀ x ∈ X i, fStr.ok x) : ∃ fp, Sl fStr.cod.slice w v xss fp ∧ (∀ b ∈ fp, B ≤ b) ∧ fp.Nodup := by
  have hxl : xss.length = n := by rw [hx]; simp
  rcases Nat.eq_zero_or_pos n with h0 | h0
  · subst h0
    obtain ⟨A, cap, rfl⟩ := h.form
    have : xss = [] := List.eq_nil_of_length_eq_zero hxl
    subst this
    have hc : 0 ≤ cap ∧ cap ≤ maxLen := by
      rcases h.own.2 with ⟨hv, _⟩ | ⟨g, c, cur, hv, _, _, _, hcm, _⟩
      · injection hv with _ _ e; subst e; simp [maxLen]
      · injection hv with _ _ e; subst e; exact ⟨Nat.zero_le _, hcm⟩
    exact ⟨[], ⟨A, cap, rfl, hc.1, hc.2, .inl ⟨rfl, rfl⟩⟩, by simp, by simp⟩
  · obtain ⟨g, cap, rfl, hgB, hgl⟩ := h.addr h0
    have hex : ∀ i, ∃ f : List Nat, i < n → Sl fStr.cod w (V i) (X i) f ∧ (∀ b ∈ f, B ≤ b) ∧ f.Nodup ∧ ∀ b ∈ f, (V i).ownBlock = some b := fun i => by
      by_cases hi : i < n
      · obtain ⟨f, hf⟩ := own_fp (h.row i hi) (hok i hi)
        exact ⟨f, fun _ => hf⟩
      · exact ⟨[], fun h => absurd h hi⟩
    obtain ⟨F, hF⟩ := Classical.axiomOfChoice hex
    have hFG : ∀ i, i < n → ∀ b ∈ F i, b = G i := fun i hi b hb => by
      have h1 := (hF i hi).2.2.2 b hb
      rw [h.blk i hi] at h1
      injection h1 with h1; exact h1.symm
    obtain ⟨hcn, hcm⟩ : n ≤ cap ∧ cap ≤ maxLen := by
      rcases h.own.2 with ⟨hv, _⟩ | ⟨g', c, cur, hv, _, _, hnc, hcm, _⟩
      · cases hv
      · injection hv with _ _ e; subst e; exact ⟨hnc, hcm⟩
    have hr : NRows fStr.cod w g 0 n V X F := ⟨fun i hi => by
      rw [Nat.zero_add, h.own.cellAt i (by omega), List.getElem?_map, List.getElem?_range hi]; rfl, fun i _ => by rw [Nat.zero_add]; exact h.own.frozenAt i, fun i hi => (hF i hi).1⟩
    refine ⟨g :: (List.range n).flatMap F, hr.sl hgl hxl (fun i hi => by rw [List.getElem_of_eq hx]; simp) hcn hcm, ?_, ?_⟩
    · intro b hb
      rcases List.mem_cons.1 hb with rfl | hb
      · exact hgB
      · obtain ⟨i, hi, hb⟩ := List.mem_flatMap.1 hb
        exact (hF i (by simpa using hi)).2.1 b hb
    · rw [List.nodup_cons]
      constructor
      · intro hb
        obtain ⟨i, hi, hb⟩ := List.mem_flatMap.1 hb
        have hi : i < n := by simpa using hi
        have := hFG i hi g hb
        exact h.ap i hi (by rw [← this]; rfl)
      · unfold List.Nodup
        rw [List.pairwise_flatMap]
        refine ⟨fun i hi => (hF i (by simpa using hi)).2.2.1, ?_⟩
        refine (List.pairwise_lt_range).imp_of_mem ?_
        intro i j hi hj hij b hb c hc e
        have hi : i < n := by simpa using hi
        have hj : j < n := by simpa using hj
        have e1 := hFG i hi b hb
        have e2 := hFG j hj c hc
        have := h.inj i j hi hj (by rw [← e1, ← e2, e])
        omega
end
end Go.Proofs.Ytjfaafoldllppaa

namespace Go.Proofs.Ytjfaafoldllppaa
open Go.RowKit
set_option linter.unusedVariables false

structure PgW (w : World) (B : Nat) (v : Value) (n : Nat) (V : Nat → Value) (X : Nat → List Int) (G : Nat → Nat) : Prop where
  own : w.ownsRow B 50 1 v n ((List.range n).map V)
  row : ∀ i, i < n → Own fInt w B 2 (V i) (X i)
  blk : ∀ i, i < n → (V i).ownBlock = some (G i)
  inj : ∀ i j, i < n → j < n → G i = G j → i = j
  ap : ∀ i, i < n → v.ownBlock ≠ some (G i)
section
variable {w w' u : World} {B n : Nat} {v v' : Value} {V : Nat → Value} {X : Nat → List Int} {G : Nat → Nat}
theorem PgW.gl (h : PgW w B v n V X G) {i : Nat} (hi : i < n) : B ≤ G i ∧ G i < w.heap.size := own_at (h.row i hi) (h.blk i hi)
theorem PgW.below (h : PgW w B v n V X G) (hb : Below w.heap.size w w') : PgW w' B v n V X G :=
  ⟨ownsRow_belowR h.own hb, fun i hi => (h.row i hi).below hb, h.blk, h.inj, h.ap⟩
theorem PgW.nil {c : Nat} (hw : w.ownsRow B 50 1 v 0 []) : PgW w B v 0 (fun _ => undef) (fun _ => []) (fun _ => 0) :=
  ⟨hw, fun i hi => absurd hi (Nat.not_lt_zero i), fun i hi => absurd hi (Nat.not_lt_zero i), fun i j hi => absurd hi (Nat.not_lt_zero i), fun i hi => absurd hi (Nat.not_lt_zero i)⟩
theorem PgW.congr {X' : Nat → List Int} (h : PgW w B v n V X G) (hx : ∀ i, i < n → X i = X' i) : PgW w B v n V X' G :=
  ⟨h.own, fun i hi => by rw [← hx i hi]; exact h.row i hi, h.blk, h.inj, h.ap⟩
theorem PgW.form (h : PgW w B v n V X G) : ∃ A cap, v = .slice A n cap := by
  rcases h.own.2 with ⟨hv, h0⟩ | ⟨g, cap, cur, hv, _⟩
  · exact ⟨none, 0, by rw [hv, h0]⟩
  · exact ⟨_, cap, hv⟩
theorem PgW.addr (h : PgW w B v n V X G) (h0 : 0 < n) : ∃ g cap, v = .slice (some ⟨g, 0, none⟩) n cap ∧ B ≤ g ∧ g < w.heap.size := by
  rcases h.own.2 with ⟨hv, h1⟩ | ⟨g, cap, cur, hv, hg, hh, _⟩
  · omega
  · refine ⟨g, cap, hv, hg, ?_⟩
    rcases Nat.lt_or_ge g w.heap.size with hlt | hge
    · exact hlt
    · rw [Array.getElem?_eq_none hge] at hh; cases hh
theorem PgW.last (h : PgW w B v n V X G) {i : Nat} (hi : i < n) (h0 : 0 < (X i).length) : ∃ c, V i = .slice (some ⟨G i, 0, none⟩) (X i).length c := by
  have hb := h.blk i hi
  rcases (h.row i hi).2 with ⟨hv, h1⟩ | ⟨g, cap, cur, hv, _⟩
  · omega
  · rw [hv] at hb
    injection hb with hb
    have hb : g = G i := hb
    subst hb
    exact ⟨cap, hv⟩
/-- One page more. -/
theorem PgW.push {r : List Int} {y : Value} {gy : Nat} (h : PgW w B v n V X G) (hy : Own fInt w B 2 y r) (hgy : y.ownBlock = some gy) (hne : ∀ i, i < n → G i ≠ gy) (hvy : v.ownBlock ≠ some gy)
    (hown : u.ownsRow B 50 1 v' (n + 1) ((List.range n).map V ++ [y])) (hg : w.grownBy u v.ownBlock) (hl : v'.ownBlock = v.ownBlock ∨ v'.ownBlock = some w.heap.size) :
    PgW u B v' (n + 1) (fun i => if i = n then y else V i) (fun i => if i = n then r else X i) (fun i => if i = n then gy else G i) := by
  have keep : ∀ {z : Value} {q : List Int} {b : Nat}, Own fInt w B 2 z q → z.ownBlock = some b → v.ownBlock ≠ some b → Own fInt u B 2 z q := fun hz hb hne => own_stays hz fun k hk hkl => hg.block k hkl (fun e => hne (by rw [← e]; rw [hb] at hk; exact hk.symm))
  have apart : ∀ {b : Nat}, b < w.heap.size → v.ownBlock ≠ some b → v'.ownBlock ≠ some b := fun hb hne => by
    rcases hl with e | e
    · rw [e]; exact hne
    · rw [e]; intro h2; injection h2 with h2; omega
  have hyl := own_at hy hgy
  refine ⟨?_, fun i hi => ?_, fun i hi => ?_, fun i j hi hj e => ?_, fun i hi => ?_⟩
  · have em : (List.range (n + 1)).map (fun i => if i = n then y else V i) = (List.range n).map V ++ [y] := by
      rw [List.range_succ, List.map_append, List.map_cons, List.map_nil, if_pos rfl]
      congr 1
      exact List.map_congr_left (fun i hi => if_neg (by have : i < n := by simpa using hi
                                                        omega))
    rw [em]
    exact hown
  · by_cases e : i = n
    · rw [if_pos e, if_pos e]; exact keep hy hgy hvy
    · rw [if_neg e, if_neg e]; exact keep (h.row i (by omega)) (h.blk i (by omega)) (h.ap i (by omega))
  · by_cases e : i = n
    · rw [if_pos e, if_pos e]; exact hgy
    · rw [if_neg e, if_neg e]; exact h.blk i (by omega)
  · by_cases e1 : i = n <;> by_cases e2 : j = n
    · omega
    · rw [if_pos e1, if_neg e2] at e; exact absurd e.symm (hne j (by omega))
    · rw [if_neg e1, if_pos e2] at e; exact absurd e (hne i (by omega))
    · rw [if_neg e1, if_neg e2] at e; exact h.inj i j (by omega) (by omega) e
  · by_cases e : i = n
    · rw [if_pos e]; exact apart hyl.2 hvy
    · rw [if_neg e]; exact apart (h.gl (by omega)).2 (h.ap i (by omega))
/-- The last page grows: its row went to y, in the world u; its place is stored. -/
theorem PgW.grow {g cap : Nat} {r : List Int} {y : Value} {gy : Nat} (h : PgW w B (.slice (some ⟨g, 0, none⟩) (n + 1) cap) (n + 1) V X G) (hy : Own fInt u B 2 y r) (hgy : y.ownBlock = some gy)
    (hg : w.grownBy u (V n).ownBlock) (hl : y.ownBlock = (V n).ownBlock ∨ y.ownBlock = some w.heap.size) :
    PgW (u.setCell ⟨g, n, none⟩ y) B (.slice (some ⟨g, 0, none⟩) (n + 1) cap) (n + 1) (fun i => if i = n then y else V i) (fun i => if i = n then r else X i) (fun i => if i = n then gy else G i) := by
  obtain ⟨g', cap', hv, hgB, hgl⟩ := h.addr (by omega)
  injection hv with hv1 _ hv2
  injection hv1 with hv1
  injection hv1 with hv1
  subst hv1 hv2
  have hbn := h.blk n (by omega)
  have hgn : g ≠ G n := fun e => h.ap n (by omega) (by rw [← e]; rfl)
  have hgu : u.heap[g]? = w.heap[g]? := hg.block g hgl (by rw [hbn]; intro e; injection e with e; exact hgn e)
  have hgGi : ∀ i, i < n + 1 → g ≠ G i := fun i hi e => h.ap i hi (by rw [← e]; rfl)
  have hgy' : gy = G n ∨ gy = w.heap.size := by
    rcases hl with e | e
    · rw [hgy, hbn] at e; injection e with e; exact .inl e
    · rw [hgy] at e; injection e with e; exact .inr e
  have hne : g ≠ gy := by
    rcases hgy' with e | e
    · rw [e]; exact hgn
    · omega
  have hset : ∀ k, k < u.heap.size → k ≠ g → (u.setCell ⟨g, n, none⟩ y).heap[k]? = u.heap[k]? := fun k hkl hk => ((Only.refl [g] u).set n y).block k hkl (by rw [List.mem_singleton]; exact hk)
  refine ⟨?_, fun i hi => ?_, fun i hi => ?_, fun i j hi hj e => ?_, fun i hi => ?_⟩
  · have hu : u.ownsRow B 50 1 (.slice (some ⟨g, 0, none⟩) (n + 1) cap) (n + 1) ((List.range (n + 1)).map V) := by
      obtain ⟨h1, h2⟩ := h.own
      refine ⟨h1, ?_⟩
      rcases h2 with ⟨hv, _⟩ | ⟨g2, c2, cur, hv, q1, q2, q3⟩
      · cases hv
      · injection hv with e1 _ e2
        injection e1 with e1
        injection e1 with e1
        subst e1 e2
        exact .inr ⟨g, cap, cur, rfl, q1, by rw [hgu]; exact q2, q3⟩
    have h2 := (hu.stored n y).1
    have em : ((List.range (n + 1)).map V).set n y = (List.range (n + 1)).map (fun i => if i = n then y else V i) := by
      refine List.ext_getElem (by simp) (fun i h1 h2 => ?_)
      rw [List.getElem_set]
      simp only [List.length_map, List.length_range] at h2
      by_cases e : n = i
      · subst e; simp
      · rw [if_neg e]; simp [Ne.symm e]
    rw [em] at h2
    exact h2
  · by_cases e : i = n
    · rw [if_pos e, if_pos e]
      exact own_stays hy (fun k hk hkl => hset k hkl (fun e2 => by rw [hgy] at hk; injection hk with hk; exact hne (by rw [← e2, ← hk])))
    · rw [if_neg e, if_neg e]
      have hGi : G i ≠ G n := fun e2 => e (h.inj i n (by omega) (by omega) e2)
      have h1 : Own fInt u B 2 (V i) (X i) := own_stays (h.row i (by omega)) (fun k hk hkl => hg.block k hkl (by
        rw [h.blk i (by omega)] at hk; injection hk with hk
        rw [hbn, ← hk]; intro e2; injection e2 with e2; exact hGi e2))
      exact own_stays h1 (fun k hk hkl => hset k hkl (fun e2 => by
        rw [h.blk i (by omega)] at hk; injection hk with hk
        exact hgGi i (by omega) (by rw [← e2, ← hk])))
  · by_cases e : i = n
    · rw [if_pos e, if_pos e]; exact hgy
    · rw [if_neg e, if_neg e]; exact h.blk i (by omega)
  · have hlt : ∀ k, k < n → G k ≠ gy := fun k hk e => by
      rcases hgy' with e2 | e2
      · have := h.inj k n (by omega) (by omega) (e.trans e2); omega
      · have := (h.gl (i := k) (by omega)).2; omega
    by_cases e1 : i = n <;> by_cases e2 : j = n
    · omega
    · rw [if_pos e1, if_neg e2] at e; exact absurd e.symm (hlt j (by omega))
    · rw [if_neg e1, if_pos e2] at e; exact absurd e (hlt i (by omega))
    · rw [if_neg e1, if_neg e2] at e; exact h.inj i j (by omega) (by omega) e
  · show some g ≠ _
    by_cases e : i = n
    · rw [if_pos e]; intro e3; injection e3 with e3; exact hne e3
    · rw [if_neg e]; intro e3; injection e3 with e3; exact hgGi i (by omega) e3
/-- It reads as a slice of slices. -/
theorem PgW.sl {xss : List (List Int)} (h : PgW w B v n V X G) (hx : xss = (List.range n).map X) (hok : ∀ i, i < n → ∀ x ∈ X i, fInt.ok x) : ∃ fp, Sl fInt.cod.slice w v xss fp ∧ (∀ b ∈ fp, B ≤ b) ∧ fp.Nodup := by
  have hxl : xss.length = n := by rw [hx]; simp
  rcases Nat.eq_zero_or_pos n with h0 | h0
  · subst h0
    obtain ⟨A, cap, rfl⟩ := h.form
    have : xss = [] := List.eq_nil_of_length_eq_zero hxl
    subst this
    have hc : 0 ≤ cap ∧ cap ≤ maxLen := by
      rcases h.own.2 with ⟨hv, _⟩ | ⟨g, c, cur, hv, _, _, _, hcm, _⟩
      · injection hv with _ _ e; subst e; simp [maxLen]
      · injection hv with _ _ e; subst e; exact ⟨Nat.zero_le _, hcm⟩
    exact ⟨[], ⟨A, cap, rfl, hc.1, hc.2, .inl ⟨rfl, rfl⟩⟩, by simp, by simp⟩
  · obtain ⟨g, cap, rfl, hgB, hgl⟩ := h.addr h0
    have hex : ∀ i, ∃ f : List Nat, i < n → Sl fInt.cod w (V i) (X i) f ∧ (∀ b ∈ f, B ≤ b) ∧ f.Nodup ∧ ∀ b ∈ f, (V i).ownBlock = some b := fun i => by
      by_cases hi : i < n
      · obtain ⟨f, hf⟩ := own_fp (h.row i hi) (hok i hi)
        exact ⟨f, fun _ => hf⟩
      · exact ⟨[], fun h => absurd h hi⟩
    obtain ⟨F, hF⟩ := Classical.axiomOfChoice hex
    have hFG : ∀ i, i < n → ∀ b ∈ F i, b = G i := fun i hi b hb => by
      have h1 := (hF i hi).2.2.2 b hb
      rw [h.blk i hi] at h1
      injection h1 with h1; exact h1.symm
    obtain ⟨hcn, hcm⟩ : n ≤ cap ∧ cap ≤ maxLen := by
      rcases h.own.2 with ⟨hv, _⟩ | ⟨g', c, cur, hv, _, _, hnc, hcm, _⟩
      · cases hv
      · injection hv with _ _ e; subst e; exact ⟨hnc, hcm⟩
    have hr : NRows fInt.cod w g 0 n V X F := ⟨fun i hi => by
      rw [Nat.zero_add, h.own.cellAt i (by omega), List.getElem?_map, List.getElem?_range hi]; rfl, fun i _ => by rw [Nat.zero_add]; exact h.own.frozenAt i, fun i hi => (hF i hi).1⟩
    refine ⟨g :: (List.range n).flatMap F, hr.sl hgl hxl (fun i hi => by rw [List.getElem_of_eq hx]; simp) hcn hcm, ?_, ?_⟩
    · intro b hb
      rcases List.mem_cons.1 hb with rfl | hb
      · exact hgB
      · obtain ⟨i, hi, hb⟩ := List.mem_flatMap.1 hb
        exact (hF i (by simpa using hi)).2.1 b hb
    · rw [List.nodup_cons]
      constructor
      · intro hb
        obtain ⟨i, hi, hb⟩ := List.mem_flatMap.1 hb
        have hi : i < n := by simpa using hi
        have := hFG i hi g hb
        exact h.ap i hi (by rw [← this]; rfl)
      · unfold List.Nodup
        rw [List.pairwise_flatMap]
        refine ⟨fun i hi => (hF i (by simpa using hi)).2.2.1, ?_⟩
        refine (List.pairwise_lt_range).imp_of_mem ?_
        intro i j hi hj hij b hb c hc e
        have hi : i < n := by simpa using hi
        have hj : j < n := by simpa using hj
        have e1 := hFG i hi b hb
        have e2 := hFG j hj c hc
        have := h.inj i j hi hj (by rw [← e1, ← e2, e])
        omega
end
end Go.Proofs.Ytjfaafoldllppaa

namespace Go.Proofs.Ytjfaafoldllppaa
open Go.RowKit
set_option linter.unusedVariables false

/-- The block g holds these values, from its first cell on; none is frozen. -/
structure BoxL (w : World) (g : Nat) (vs : List Value) : Prop where
  cell : ∀ j v, vs[j]? = some v → w.cell? ⟨g, j, none⟩ = some v
  frz : ∀ j, j < vs.length → w.frozen? ⟨g, j, none⟩ = false
  lt : g < w.heap.size
theorem BoxL.keep {w w' : World} {g : Nat} {vs : List Value} (h : BoxL w g vs) (hk : w'.heap[g]? = w.heap[g]?) (hs : w.heap.size ≤ w'.heap.size) : BoxL w' g vs :=
  ⟨fun j v hv => (World.cell?_of_block (a := ⟨g, j, none⟩) hk).trans (h.cell j v hv), fun j hj => (World.frozen?_of_block (a := ⟨g, j, none⟩) hk).trans (h.frz j hj), Nat.lt_of_lt_of_le h.lt hs⟩
theorem BoxL.below {w w' : World} {g : Nat} {vs : List Value} (h : BoxL w g vs) (hb : Below w.heap.size w w') : BoxL w' g vs := h.keep (hb.block g h.lt) hb.size
theorem BoxL.set {w : World} {g : Nat} {vs : List Value} (h : BoxL w g vs) (j : Nat) (v : Value) : BoxL (w.setCell ⟨g, j, none⟩ v) g (vs.set j v) := by
  have hsz : (w.setCell ⟨g, j, none⟩ v).heap.size = w.heap.size := World.size_setCell ..
  refine ⟨fun i u hu => ?_, fun i hi => ?_, by rw [hsz]; exact h.lt⟩
  · rw [List.getElem?_set] at hu
    by_cases e : j = i
    · subst e
      rw [if_pos rfl] at hu
      split at hu
      · rename_i hl
        injection hu with hu
        subst hu
        exact World.cell?_setCell_same _ _ _ (h.cell j _ (List.getElem?_eq_getElem hl))
      · cases hu
    · rw [if_neg e] at hu
      rw [World.cell?_setCell_other _ _ _ _ (by simp)]
      exact h.cell i u hu
  · rw [frozen?_setCell]
    exact h.frz i (by simpa using hi)
theorem BoxL.setOther {w : World} {g : Nat} {vs : List Value} (h : BoxL w g vs) {g' : Nat} (hne : g' ≠ g) (j : Nat) (v : Value) : BoxL (w.setCell ⟨g', j, none⟩ v) g vs :=
  h.keep (((Only.refl [g'] w).set j v).block g h.lt (by simp; exact fun e => hne e.symm)) (by rw [World.size_setCell]; exact Nat.le_refl _)
theorem BoxL.new (w : World) (vs : List Value) (T : TypeId) (cs : Array Value) (hc : cs = vs.toArray) : BoxL (w.alloc (.cells cs T)) w.heap.size vs := by
  subst hc
  refine ⟨fun j v hv => ?_, fun j _ => World.frozen?_alloc_at _ _ _ _ rfl, by simp⟩
  rw [World.cell?_alloc_at _ _ _ _ rfl]
  simpa using hv
/-- The blocks of a row of rows. -/
def inPg (v : Value) (n : Nat) (G : Nat → Nat) (b : Nat) : Prop := v.ownBlock = some b ∨ ∃ i, i < n ∧ G i = b
section
variable {w w' u : World} {B n : Nat} {v v' : Value} {V : Nat → Value} {X : Nat → List Int} {G : Nat → Nat}
theorem PgW.keep (h : PgW w B v n V X G) (hk : ∀ b, inPg v n G b → w'.heap[b]? = w.heap[b]?) : PgW w' B v n V X G := by
  refine ⟨?_, fun i hi => own_stays (h.row i hi) (fun k hk' hkl => ?_), h.blk, h.inj, h.ap⟩
  · obtain ⟨h1, h2⟩ := h.own
    refine ⟨h1, ?_⟩
    rcases h2 with h2 | ⟨g, cap, cur, hv, hg, hh, r⟩
    · exact .inl h2
    · exact .inr ⟨g, cap, cur, hv, hg, by rw [hk g (.inl (by rw [hv]; rfl))]; exact hh, r⟩
  · rw [h.blk i hi] at hk'
    injection hk' with hk'
    exact hk k (.inr ⟨i, hi, hk'⟩)
theorem PgW.lt (h : PgW w B v n V X G) {b : Nat} (hb : inPg v n G b) : B ≤ b ∧ b < w.heap.size := by
  rcases hb with hb | ⟨i, hi, rfl⟩
  · rcases h.own.2 with ⟨hv, _⟩ | ⟨g, cap, cur, hv, hg, hh, _⟩
    · rw [hv] at hb; cases hb
    · rw [hv] at hb
      have e : g = b := by injection hb
      subst e
      refine ⟨hg, ?_⟩
      rcases Nat.lt_or_ge g w.heap.size with hlt | hge
      · exact hlt
      · rw [Array.getElem?_eq_none hge] at hh; cases hh
  · exact h.gl hi
theorem PgW.setFar (h : PgW w B v n V X G) {g : Nat} (hg : ¬ inPg v n G g) (j : Nat) (x : Value) : PgW (w.setCell ⟨g, j, none⟩ x) B v n V X G :=
  h.keep (fun b hb => ((Only.refl [g] w).set j x).block b (h.lt hb).2 (by simp; exact fun e => hg (e ▸ hb)))
/-- The last element is cut off. -/
theorem PgW.cut {g cap : Nat} (h : PgW w B (.slice (some ⟨g, 0, none⟩) (n + 1) cap) (n + 1) V X G) : PgW w B (.slice (some ⟨g, 0, none⟩) n cap) n V X G := by
  refine ⟨?_, fun i hi => h.row i (by omega), fun i hi => h.blk i (by omega), fun i j hi hj => h.inj i j (by omega) (by omega), fun i hi => h.ap i (by omega)⟩
  obtain ⟨h1, h2⟩ := h.own
  refine ⟨by simp, ?_⟩
  rcases h2 with ⟨hv, _⟩ | ⟨g', cap', cur, hv, hg, hh, hn, hc, hcs, ht⟩
  · cases hv
  · injection hv with e1 e2 e3
    injection e1 with e1
    injection e1 with e1
    subst e1 e3
    refine .inr ⟨g, cap, cur, rfl, hg, hh, by omega, hc, hcs, ?_⟩
    rw [List.range_succ, List.map_append] at ht
    have hl : ((List.range n).map V).length = n * 1 := by simp
    have := congrArg (List.take (n * 1)) ht
    rw [List.take_take, Nat.min_eq_left (by omega)] at this
    rw [this, List.take_append_of_le_length (by rw [hl]; exact Nat.le_refl _), List.take_of_length_le (by rw [hl]; exact Nat.le_refl _)]
/-- An element's cells. -/
theorem PgW.at_ (h : PgW w B v n V X G) {i : Nat} (hi : i < n) (hok : ∀ x ∈ X i, fInt.ok x) : ∃ fp, Sl fInt.cod w (V i) (X i) fp ∧ ∀ b ∈ fp, (V i).ownBlock = some b := by
  obtain ⟨fp, h1, _, _, h4⟩ := own_fp (h.row i hi) hok
  exact ⟨fp, h1, h4⟩
theorem PgW.cell (h : PgW w B v n V X G) {i : Nat} (hi : i < n) : ∃ g cap, v = .slice (some ⟨g, 0, none⟩) n cap ∧ w.cell? ⟨g, i, none⟩ = some (V i) := by
  obtain ⟨g, cap, rfl, hg, hl⟩ := h.addr (by omega)
  refine ⟨g, cap, rfl, ?_⟩
  rw [h.own.cellAt i (by omega), List.getElem?_map, List.getElem?_range hi]; rfl
end
end Go.Proofs.Ytjfaafoldllppaa

namespace Go.Proofs.Ytjfaafoldllppaa
open Go.RowKit
set_option linter.unusedVariables false

/-- Pairs in order of their first members, then of their second ones; a list that ends comes first. -/
def ltP : List (Nat × Nat) → List (Nat × Nat) → Bool
  | [], [] => false
  | [], _ :: _ => true
  | _ :: _, [] => false
  | a :: p, b :: q => if a.1 = b.1 then (if a.2 = b.2 then ltP p q else decide (a.2 < b.2)) else decide (a.1 < b.1)
theorem ltP_eq {p q : List (Nat × Nat)} {i : Nat} (hp : i ≤ p.length) (hq : i ≤ q.length) (h : ∀ j (h1 : j < p.length) (h2 : j < q.length), j < i → p[j] = q[j]) : ltP p q = ltP (p.drop i) (q.drop i) := by
  induction i generalizing p q with
  | zero => rfl
  | succ i ih =>
    match p, q, hp, hq with
    | a :: p, b :: q, hp, hq =>
      have h0 : a = b := h 0 (by simp) (by simp) (by omega)
      subst h0
      rw [List.drop_succ_cons, List.drop_succ_cons, ← ih (by simpa using hp) (by simpa using hq) (fun j h1 h2 hj => by
        have := h (j + 1) (by simpa using h1) (by simpa using h2) (by omega)
        simpa using this)]
      simp [ltP]
theorem ltP_first {p q : List (Nat × Nat)} {i : Nat} (hp : i < p.length) (hq : i < q.length) (h : ∀ j (h1 : j < p.length) (h2 : j < q.length), j < i → p[j] = q[j]) (hne : p[i].1 ≠ q[i].1) : ltP p q = decide (p[i].1 < q[i].1) := by
  rw [ltP_eq (Nat.le_of_lt hp) (Nat.le_of_lt hq) h, List.drop_eq_getElem_cons hp, List.drop_eq_getElem_cons hq, ltP, if_neg hne]
theorem ltP_second {p q : List (Nat × Nat)} {i : Nat} (hp : i < p.length) (hq : i < q.length) (h : ∀ j (h1 : j < p.length) (h2 : j < q.length), j < i → p[j] = q[j]) (he : p[i].1 = q[i].1) (hne : p[i].2 ≠ q[i].2) : ltP p q = decide (p[i].2 < q[i].2) := by
  rw [ltP_eq (Nat.le_of_lt hp) (Nat.le_of_lt hq) h, List.drop_eq_getElem_cons hp, List.drop_eq_getElem_cons hq, ltP, if_pos he, if_neg hne]
theorem ltP_end {p q : List (Nat × Nat)} {i : Nat} (hp : i ≤ p.length) (hq : i ≤ q.length) (hi : i = p.length ∨ i = q.length) (h : ∀ j (h1 : j < p.length) (h2 : j < q.length), j < i → p[j] = q[j]) : ltP p q = decide (p.length < q.length) := by
  rw [ltP_eq hp hq h]
  have hlp : (p.drop i).length = p.length - i := List.length_drop
  have hlq : (q.drop i).length = q.length - i := List.length_drop
  generalize p.drop i = p' at *
  generalize q.drop i = q' at *
  match p', q' with
  | [], [] => simp at hlp hlq; simp [ltP]; omega
  | [], b :: q' => simp at hlp hlq; simp [ltP]; omega
  | a :: p', [] => simp at hlp hlq; simp [ltP]; omega
  | a :: p', b :: q' => simp at hlp hlq; omega

/-- The state of the search: the best pairs, how many people may go then, the nodes that are left (-1: they ran out). -/
structure Sr where
  best : List (Nat × Nat)
  most : Int
  c : Int
def leafF (pairs : List (Nat × Nat)) (people : Int) (S : Sr) : Sr := if S.most < people ∨ (people = S.most ∧ ltP pairs S.best = true) then ⟨pairs, people, S.c⟩ else S
def childF (g : Int → Sr → Sr) (p : Int) (S : Sr) : Sr := if S.c ≤ 0 then ⟨S.best, S.most, -1⟩ else g p ⟨S.best, S.most, S.c - 1⟩
section
variable (w1 : Nat → Int) (w2 : Nat → Nat → Int) (n : Nat)
/-- The children of the vertex i, in which it goes with k: one after the other. -/
def stepF (g : List Bool → List (Nat × Nat) → Int → Sr → Sr) (used : List Bool) (pairs : List (Nat × Nat)) (i : Nat) (people : Int) (S : Sr) (k : Nat) : Sr :=
  if i < k ∧ used.getD k false = false then childF (g (used.set k true) (pairs ++ [(i, k)])) (people + w2 i k) S else S
/-- The search from n - m on. -/
def visitF : Nat → List Bool → List (Nat × Nat) → Int → Sr → Sr
  | 0, _, pairs, people, S => leafF pairs people S
  | m + 1, used, pairs, people, S =>
    if used.getD (n - (m + 1)) false then visitF m used pairs people S
    else childF (visitF m used pairs) (people + w1 (n - (m + 1))) ((List.range n).foldl (stepF w2 (visitF m) used pairs (n - (m + 1)) people) S)
def foldK (g : List Bool → List (Nat × Nat) → Int → Sr → Sr) (used : List Bool) (pairs : List (Nat × Nat)) (i : Nat) (people : Int) (S : Sr) (k : Nat) : Sr := (List.range k).foldl (stepF w2 g used pairs i people) S
variable {w1 w2 n}
theorem visitF_zero {used : List Bool} {pairs : List (Nat × Nat)} {people : Int} {S : Sr} : visitF w1 w2 n 0 used pairs people S = leafF pairs people S := rfl
theorem visitF_skip {m : Nat} {used : List Bool} {pairs : List (Nat × Nat)} {people : Int} {S : Sr} (h : used.getD (n - (m + 1)) false = true) : visitF w1 w2 n (m + 1) used pairs people S = visitF w1 w2 n m used pairs people S := by
  rw [visitF, if_pos h]
theorem visitF_node {m : Nat} {used : List Bool} {pairs : List (Nat × Nat)} {people : Int} {S : Sr} (h : used.getD (n - (m + 1)) false = false) :
    visitF w1 w2 n (m + 1) used pairs people S = childF (visitF w1 w2 n m used pairs) (people + w1 (n - (m + 1))) (foldK w2 (visitF w1 w2 n m) used pairs (n - (m + 1)) people S n) := by
  rw [visitF, if_neg (by rw [h]; decide)]
  rfl
variable {g : List Bool → List (Nat × Nat) → Int → Sr → Sr} {used : List Bool} {pairs : List (Nat × Nat)} {i : Nat} {people : Int} {S : Sr}
theorem foldK_succ (k : Nat) : foldK w2 g used pairs i people S (k + 1) = stepF w2 g used pairs i people (foldK w2 g used pairs i people S k) k := by
  unfold foldK; rw [List.range_succ, List.foldl_append]; rfl
theorem foldK_low {k : Nat} (h : k ≤ i + 1) : foldK w2 g used pairs i people S k = S := by
  induction k with
  | zero => rfl
  | succ k ih => rw [foldK_succ, ih (by omega), stepF, if_neg (fun e => by have := e.1; omega)]
theorem foldK_skip {k : Nat} (h : used.getD k false = true) : foldK w2 g used pairs i people S (k + 1) = foldK w2 g used pairs i people S k := by
  rw [foldK_succ, stepF, if_neg (fun e => by rw [h] at e; exact absurd e.2 (by decide))]
theorem foldK_child {k : Nat} (hk : i < k) (h : used.getD k false = false) : foldK w2 g used pairs i people S (k + 1) = childF (g (used.set k true) (pairs ++ [(i, k)])) (people + w2 i k) (foldK w2 g used pairs i people S k) := by
  rw [foldK_succ, stepF, if_pos ⟨hk, h⟩]
theorem childF_dead {f : Int → Sr → Sr} {p : Int} {S : Sr} (h : S.c ≤ 0) : childF f p S = ⟨S.best, S.most, -1⟩ := by unfold childF; rw [if_pos h]
theorem childF_live {f : Int → Sr → Sr} {p : Int} {S : Sr} (h : 0 < S.c) : childF f p S = f p ⟨S.best, S.most, S.c - 1⟩ := by unfold childF; rw [if_neg (by omega)]
theorem childF_stays {f : Int → Sr → Sr} {p : Int} {S : Sr} (h : S.c = -1) : childF f p S = S := by rw [childF_dead (by omega)]; cases S; simp only at h; subst h; rfl
theorem foldK_stays {a b : Nat} (hab : a ≤ b) (h : (foldK w2 g used pairs i people S a).c = -1) : foldK w2 g used pairs i people S b = foldK w2 g used pairs i people S a := by
  induction b with
  | zero => obtain rfl : a = 0 := by omega
            rfl
  | succ b ih =>
    rcases Nat.lt_or_ge a (b + 1) with h1 | h1
    · have e := ih (by omega)
      rw [foldK_succ, e, stepF]
      split
      · exact childF_stays h
      · rfl
    · obtain rfl : a = b + 1 := by omega
      rfl
/-- When the nodes run out at k, the search ends with what it has. -/
theorem visitF_out {m k : Nat} (hn : used.getD (n - (m + 1)) false = false) (hk : n - (m + 1) < k) (hkn : k < n) (hu : used.getD k false = false) (hc : (foldK w2 (visitF w1 w2 n m) used pairs (n - (m + 1)) people S k).c ≤ 0) :
    visitF w1 w2 n (m + 1) used pairs people S = ⟨(foldK w2 (visitF w1 w2 n m) used pairs (n - (m + 1)) people S k).best, (foldK w2 (visitF w1 w2 n m) used pairs (n - (m + 1)) people S k).most, -1⟩ := by
  have h1 := foldK_child (w2 := w2) (g := visitF w1 w2 n m) (pairs := pairs) (people := people) (S := S) hk hu
  rw [childF_dead hc] at h1
  have h2 := foldK_stays (w2 := w2) (g := visitF w1 w2 n m) (used := used) (pairs := pairs) (i := n - (m + 1)) (people := people) (S := S) (a := k + 1) (b := n) hkn (by rw [h1])
  rw [visitF_node hn, h2, h1, childF_stays rfl]
theorem leafF_c {S : Sr} : (leafF pairs people S).c = S.c := by unfold leafF; split <;> rfl
theorem visitF_c {m : Nat} {used : List Bool} {pairs : List (Nat × Nat)} {people : Int} {S : Sr} (h : -1 ≤ S.c) : -1 ≤ (visitF w1 w2 n m used pairs people S).c ∧ (visitF w1 w2 n m used pairs people S).c ≤ S.c := by
  induction m generalizing used pairs people S with
  | zero => rw [visitF_zero, leafF_c]; omega
  | succ m ih =>
    have hch : ∀ (u : List Bool) (q : List (Nat × Nat)) (p : Int) (T : Sr), -1 ≤ T.c → -1 ≤ (childF (visitF w1 w2 n m u q) p T).c ∧ (childF (visitF w1 w2 n m u q) p T).c ≤ T.c := fun u q p T hT => by
      by_cases h0 : T.c ≤ 0
      · rw [childF_dead h0]; simp only; omega
      · rw [childF_live (by omega)]
        have := ih (used := u) (pairs := q) (people := p) (S := ⟨T.best, T.most, T.c - 1⟩) (by simp only; omega)
        simp only at this; omega
    cases hu : used.getD (n - (m + 1)) false
    · rw [visitF_node hu]
      have hf : ∀ k, -1 ≤ (foldK w2 (visitF w1 w2 n m) used pairs (n - (m + 1)) people S k).c ∧ (foldK w2 (visitF w1 w2 n m) used pairs (n - (m + 1)) people S k).c ≤ S.c := fun k => by
        induction k with
        | zero => exact ⟨h, Int.le_refl _⟩
        | succ k ih2 =>
          rw [foldK_succ, stepF]
          split
          · have := hch (used.set k true) (pairs ++ [(n - (m + 1), k)]) (people + w2 (n - (m + 1)) k) _ ih2.1
            omega
          · exact ih2
      have h2 := hf n
      have h3 := hch used pairs (people + w1 (n - (m + 1))) _ h2.1
      omega
    · rw [visitF_skip hu]; exact ih h
theorem visitF_pos {m : Nat} {used : List Bool} {pairs : List (Nat × Nat)} {people : Int} {S : Sr} (h : -1 ≤ S.c) : (visitF w1 w2 n m used pairs people S).c = -1 ∨ 0 ≤ (visitF w1 w2 n m used pairs people S).c := by
  have := (visitF_c (w1 := w1) (w2 := w2) (n := n) (m := m) (used := used) (pairs := pairs) (people := people) h).1
  omega
end
end Go.Proofs.Ytjfaafoldllppaa

namespace Go.Proofs.Ytjfaafoldllppaa
open Go.RowKit
set_option linter.unusedVariables false

def rowX (P : List (Nat × Nat)) (i : Nat) : List Int := [((P.getD i (0, 0)).1 : Int), ((P.getD i (0, 0)).2 : Int)]
theorem rowX_ok {P : List (Nat × Nat)} (h : ∀ q ∈ P, q.1 ≤ 1000 ∧ q.2 ≤ 1000) (i : Nat) : ∀ x ∈ rowX P i, fInt.ok x := by
  have hq : (P.getD i (0, 0)).1 ≤ 1000 ∧ (P.getD i (0, 0)).2 ≤ 1000 := by
    rw [List.getD_eq_getElem?_getD]
    rcases Nat.lt_or_ge i P.length with hi | hi
    · rw [List.getElem?_eq_getElem hi]; exact h _ (List.getElem_mem hi)
    · rw [List.getElem?_eq_none hi]; exact ⟨Nat.zero_le _, Nat.zero_le _⟩
  intro x hx
  unfold rowX at hx
  simp only [List.mem_cons, List.not_mem_nil, or_false] at hx
  rcases hx with rfl | rfl <;> (show _ ∧ _; omega)
theorem rowX_push (P : List (Nat × Nat)) (a b i : Nat) : (if i = P.length then [(a : Int), (b : Int)] else rowX P i) = rowX (P ++ [(a, b)]) i ∨ P.length < i := by
  rcases Nat.lt_trichotomy i P.length with h | h | h
  · left
    rw [if_neg (by omega)]
    unfold rowX
    simp [List.getD_eq_getElem?_getD, List.getElem?_append_left h]
  · left
    rw [if_pos h]
    subst h
    unfold rowX
    simp
  · exact .inr h
/-- The searcher's box at g (its fields by the two rows' values), the marks at gu, the pairs, the best ones. -/
structure SMem (w : World) (B g gu : Nat) (box : Value → Value → List Value) (U : List Bool) (P Q : List (Nat × Nat)) (vp vb : Value) (Vp : Nat → Value) (Gp : Nat → Nat) (Vb : Nat → Value) (Gb : Nat → Nat) : Prop where
  bx : BoxL w g (box vp vb)
  us : BoxL w gu (U.map Value.bool)
  pr : PgW w B vp P.length Vp (rowX P) Gp
  bs : PgW w B vb Q.length Vb (rowX Q) Gb
  gB : B ≤ g
  guB : B ≤ gu
  ne : g ≠ gu
  np : ∀ b, inPg vp P.length Gp b → b ≠ g ∧ b ≠ gu ∧ ¬ inPg vb Q.length Gb b
  nb : ∀ b, inPg vb Q.length Gb b → b ≠ g ∧ b ≠ gu
section
variable {w w' : World} {B g gu : Nat} {box box' : Value → Value → List Value} {U : List Bool} {P Q : List (Nat × Nat)} {vp vb : Value} {Vp : Nat → Value} {Gp : Nat → Nat} {Vb : Nat → Value} {Gb : Nat → Nat}
theorem SMem.below (h : SMem w B g gu box U P Q vp vb Vp Gp Vb Gb) (hb : Below w.heap.size w w') : SMem w' B g gu box U P Q vp vb Vp Gp Vb Gb :=
  ⟨h.bx.below hb, h.us.below hb, h.pr.below hb, h.bs.below hb, h.gB, h.guB, h.ne, h.np, h.nb⟩
/-- A field of the box that is no row is stored. -/
theorem SMem.field (h : SMem w B g gu box U P Q vp vb Vp Gp Vb Gb) (j : Nat) (x : Value) (hb : (box vp vb).set j x = box' vp vb) : SMem (w.setCell ⟨g, j, none⟩ x) B g gu box' U P Q vp vb Vp Gp Vb Gb :=
  ⟨hb ▸ h.bx.set j x, h.us.setOther h.ne j x, h.pr.setFar (fun e => (h.np g e).1 rfl) j x, h.bs.setFar (fun e => (h.nb g e).1 rfl) j x, h.gB, h.guB, h.ne, h.np, h.nb⟩
theorem SMem.mark (h : SMem w B g gu box U P Q vp vb Vp Gp Vb Gb) (k : Nat) (b : Bool) : SMem (w.setCell ⟨gu, k, none⟩ (.bool b)) B g gu box (U.set k b) P Q vp vb Vp Gp Vb Gb :=
  ⟨h.bx.setOther (fun e => h.ne e.symm) k _, by rw [List.map_set]; exact h.us.set k _, h.pr.setFar (fun e => (h.np gu e).2.1 rfl) k _, h.bs.setFar (fun e => (h.nb gu e).2 rfl) k _, h.gB, h.guB, h.ne, h.np, h.nb⟩
/-- The last pair is cut off: the row's value is stored anew. -/
theorem SMem.cut {gp cap a b : Nat} (h : SMem w B g gu box U (P ++ [(a, b)]) Q (.slice (some ⟨gp, 0, none⟩) (P.length + 1) cap) vb Vp Gp Vb Gb) (j : Nat) (hb : (box (.slice (some ⟨gp, 0, none⟩) (P.length + 1) cap) vb).set j (.slice (some ⟨gp, 0, none⟩) P.length cap) = box (.slice (some ⟨gp, 0, none⟩) P.length cap) vb) :
    SMem (w.setCell ⟨g, j, none⟩ (.slice (some ⟨gp, 0, none⟩) P.length cap)) B g gu box U P Q (.slice (some ⟨gp, 0, none⟩) P.length cap) vb Vp Gp Vb Gb := by
  have hl : (P ++ [(a, b)]).length = P.length + 1 := by simp
  have hpr := h.pr
  have hnp := h.np
  rw [hl] at hpr hnp
  have hin : ∀ c, inPg (.slice (some ⟨gp, 0, none⟩) P.length cap) P.length Gp c → inPg (.slice (some ⟨gp, 0, none⟩) (P.length + 1) cap) (P.length + 1) Gp c := fun c hc => by
    rcases hc with hc | ⟨i, hi, hc⟩
    · exact .inl hc
    · exact .inr ⟨i, by omega, hc⟩
  have hcut := (hpr.cut).congr (X' := rowX P) (fun i hi => by
    unfold rowX
    simp [List.getD_eq_getElem?_getD, List.getElem?_append_left hi])
  exact ⟨hb ▸ h.bx.set j _, h.us.setOther h.ne j _, hcut.setFar (fun e => (hnp g (hin g e)).1 rfl) j _, h.bs.setFar (fun e => (h.nb g e).1 rfl) j _, h.gB, h.guB, h.ne, fun c hc => hnp c (hin c hc), h.nb⟩
/-- One pair more: its row lies at a, the row of pairs went to v', which is stored. -/
theorem SMem.push {u : World} {v' : Value} {a m k : Nat} (j : Nat) (h : SMem w B g gu box U P Q vp vb Vp Gp Vb Gb) (hy : Own fInt w B 2 (.slice (some ⟨a, 0, none⟩) 2 2) [(m : Int), (k : Int)])
    (hag : a ≠ g) (hau : a ≠ gu) (hap : ¬ inPg vp P.length Gp a) (hab : ¬ inPg vb Q.length Gb a)
    (hown : u.ownsRow B 50 1 v' (P.length + 1) ((List.range P.length).map Vp ++ [.slice (some ⟨a, 0, none⟩) 2 2])) (hg : w.grownBy u vp.ownBlock) (hl : v'.ownBlock = vp.ownBlock ∨ v'.ownBlock = some w.heap.size)
    (hbox : (box vp vb).set j v' = box v' vb) :
    SMem (u.setCell ⟨g, j, none⟩ v') B g gu box U (P ++ [(m, k)]) Q v' vb (fun i => if i = P.length then .slice (some ⟨a, 0, none⟩) 2 2 else Vp i) (fun i => if i = P.length then a else Gp i) Vb Gb := by
  have hl1 : (P ++ [(m, k)]).length = P.length + 1 := by simp
  have hlt : ∀ b, inPg vp P.length Gp b → b < w.heap.size := fun b hb => (h.pr.lt hb).2
  have hltb : ∀ b, inPg vb Q.length Gb b → b < w.heap.size := fun b hb => (h.bs.lt hb).2
  have hnew : ∀ b, inPg v' (P.length + 1) (fun i => if i = P.length then a else Gp i) b → inPg vp P.length Gp b ∨ b = a ∨ b = w.heap.size := fun b hb => by
    rcases hb with hb | ⟨i, hi, hb⟩
    · rcases hl with e | e
      · rw [e] at hb; exact .inl (.inl hb)
      · rw [e] at hb; injection hb with hb; exact .inr (.inr hb.symm)
    · by_cases e : i = P.length
      · simp only [e, if_true] at hb; exact .inr (.inl hb.symm)
      · simp only [e, if_false] at hb; exact .inl (.inr ⟨i, by omega, hb⟩)
  have hpr := (h.pr.push (r := [(m : Int), (k : Int)]) (y := .slice (some ⟨a, 0, none⟩) 2 2) (gy := a) hy rfl (fun i hi e => hap (.inr ⟨i, hi, e⟩)) (fun e => hap (.inl e)) hown hg hl).congr (X' := rowX (P ++ [(m, k)])) (fun i hi => by
    rcases rowX_push P m k i with e | e
    · exact e
    · omega)
  have hgb : ∀ b, b < w.heap.size → vp.ownBlock ≠ some b → u.heap[b]? = w.heap[b]? := fun b hb hne => hg.block b hb (fun e => hne e.symm)
  have hgg : vp.ownBlock ≠ some g := fun e => (h.np g (.inl e)).1 rfl
  have hggu : vp.ownBlock ≠ some gu := fun e => (h.np gu (.inl e)).2.1 rfl
  have hbx := h.bx.keep (hgb g h.bx.lt hgg) hg.size
  have hus := h.us.keep (hgb gu h.us.lt hggu) hg.size
  have hbs := h.bs.keep (w' := u) (fun b hb => hgb b (hltb b hb) (fun e => (h.np b (.inl e)).2.2 hb))
  have hnp : ∀ b, inPg v' (P.length + 1) (fun i => if i = P.length then a else Gp i) b → b ≠ g ∧ b ≠ gu ∧ ¬ inPg vb Q.length Gb b := fun b hb => by
    rcases hnew b hb with h1 | rfl | rfl
    · exact h.np b h1
    · exact ⟨hag, hau, hab⟩
    · exact ⟨fun e => by have := h.bx.lt; omega, fun e => by have := h.us.lt; omega, fun e => by have := hltb _ e; omega⟩
  refine ⟨hbox ▸ hbx.set j _, hus.setOther h.ne j _, ?_, hbs.setFar (fun e => (h.nb g e).1 rfl) j _, h.gB, h.guB, h.ne, ?_, h.nb⟩
  · rw [hl1]; exact hpr.setFar (fun e => (hnp g e).1 rfl) j _
  · rw [hl1]; exact hnp
/-- The best pairs are begun anew: an empty row. -/
theorem SMem.clear {v' : Value} (j : Nat) (h : SMem w B g gu box U P Q vp vb Vp Gp Vb Gb) (hv : w.ownsRow B 50 1 v' 0 []) (hf : ∀ b, v'.ownBlock = some b → b ≠ g ∧ b ≠ gu ∧ ¬ inPg vp P.length Gp b) (hbox : (box vp vb).set j v' = box vp v') :
    SMem (w.setCell ⟨g, j, none⟩ v') B g gu box U P [] vp v' Vp Gp (fun _ => undef) (fun _ => 0) := by
  have hin : ∀ b, inPg v' 0 (fun _ => 0) b → v'.ownBlock = some b := fun b hb => by
    rcases hb with hb | ⟨i, hi, _⟩
    · exact hb
    · omega
  have hn : PgW w B v' 0 (fun _ => undef) (rowX []) (fun _ => 0) := (PgW.nil (c := 0) hv).congr (fun i hi => absurd hi (Nat.not_lt_zero i))
  exact ⟨hbox ▸ h.bx.set j _, h.us.setOther h.ne j _, h.pr.setFar (fun e => (h.np g e).1 rfl) j _, hn.setFar (fun e => (hf g (hin g e)).1 rfl) j _, h.gB, h.guB, h.ne, fun b hb => ⟨(h.np b hb).1, (h.np b hb).2.1, fun e => (hf b (hin b e)).2.2 hb⟩, fun b hb => ⟨(hf b (hin b hb)).1, (hf b (hin b hb)).2.1⟩⟩
/-- One of the best pairs more. -/
theorem SMem.pushB {u : World} {v' : Value} {a m k : Nat} (j : Nat) (h : SMem w B g gu box U P Q vp vb Vp Gp Vb Gb) {y : Value} (hy : Own fInt w B 2 y [(m : Int), (k : Int)]) (hya : y.ownBlock = some a)
    (hag : a ≠ g) (hau : a ≠ gu) (hap : ¬ inPg vp P.length Gp a) (hab : ¬ inPg vb Q.length Gb a)
    (hown : u.ownsRow B 50 1 v' (Q.length + 1) ((List.range Q.length).map Vb ++ [y])) (hg : w.grownBy u vb.ownBlock) (hl : v'.ownBlock = vb.ownBlock ∨ v'.ownBlock = some w.heap.size)
    (hbox : (box vp vb).set j v' = box vp v') :
    SMem (u.setCell ⟨g, j, none⟩ v') B g gu box U P (Q ++ [(m, k)]) vp v' Vp Gp (fun i => if i = Q.length then y else Vb i) (fun i => if i = Q.length then a else Gb i) := by
  have hl1 : (Q ++ [(m, k)]).length = Q.length + 1 := by simp
  have hlt : ∀ b, inPg vp P.length Gp b → b < w.heap.size := fun b hb => (h.pr.lt hb).2
  have hltb : ∀ b, inPg vb Q.length Gb b → b < w.heap.size := fun b hb => (h.bs.lt hb).2
  have hnew : ∀ b, inPg v' (Q.length + 1) (fun i => if i = Q.length then a else Gb i) b → inPg vb Q.length Gb b ∨ b = a ∨ b = w.heap.size := fun b hb => by
    rcases hb with hb | ⟨i, hi, hb⟩
    · rcases hl with e | e
      · rw [e] at hb; exact .inl (.inl hb)
      · rw [e] at hb; injection hb with hb; exact .inr (.inr hb.symm)
    · by_cases e : i = Q.length
      · simp only [e, if_true] at hb; exact .inr (.inl hb.symm)
      · simp only [e, if_false] at hb; exact .inl (.inr ⟨i, by omega, hb⟩)
  have hbs := (h.bs.push (r := [(m : Int), (k : Int)]) (y := y) (gy := a) hy hya (fun i hi e => hab (.inr ⟨i, hi, e⟩)) (fun e => hab (.inl e)) hown hg hl).congr (X' := rowX (Q ++ [(m, k)])) (fun i hi => by
    rcases rowX_push Q m k i with e | e
    · exact e
    · omega)
  have hgb : ∀ b, b < w.heap.size → vb.ownBlock ≠ some b → u.heap[b]? = w.heap[b]? := fun b hb hne => hg.block b hb (fun e => hne e.symm)
  have hgg : vb.ownBlock ≠ some g := fun e => (h.nb g (.inl e)).1 rfl
  have hggu : vb.ownBlock ≠ some gu := fun e => (h.nb gu (.inl e)).2 rfl
  have hbx := h.bx.keep (hgb g h.bx.lt hgg) hg.size
  have hus := h.us.keep (hgb gu h.us.lt hggu) hg.size
  have hpr := h.pr.keep (w' := u) (fun b hb => hgb b (hlt b hb) (fun e => (h.np b hb).2.2 (.inl e)))
  have hnb : ∀ b, inPg v' (Q.length + 1) (fun i => if i = Q.length then a else Gb i) b → b ≠ g ∧ b ≠ gu ∧ ¬ inPg vp P.length Gp b := fun b hb => by
    rcases hnew b hb with h1 | rfl | rfl
    · exact ⟨(h.nb b h1).1, (h.nb b h1).2, fun e => (h.np b e).2.2 h1⟩
    · exact ⟨hag, hau, hap⟩
    · exact ⟨fun e => by have := h.bx.lt; omega, fun e => by have := h.us.lt; omega, fun e => by have := hlt _ e; omega⟩
  refine ⟨hbox ▸ hbx.set j _, hus.setOther h.ne j _, hpr.setFar (fun e => (h.np g e).1 rfl) j _, ?_, h.gB, h.guB, h.ne, ?_, ?_⟩
  · rw [hl1]; exact hbs.setFar (fun e => (hnb g e).1 rfl) j _
  · rw [hl1]; exact fun b hb => ⟨(h.np b hb).1, (h.np b hb).2.1, fun e => (hnb b e).2.2 hb⟩
  · rw [hl1]; exact fun b hb => ⟨(hnb b hb).1, (hnb b hb).2.1⟩
end
end Go.Proofs.Ytjfaafoldllppaa

namespace Go.Proofs.Ytjfaafoldllppaa
open Go.RowKit
set_option linter.unusedVariables false

/-- The searcher of the reference: c nodes are left (-1: they ran out). -/
def boxS (lv : Value) (lvl : Int) (gu n : Nat) (bud c most : Int) (vp vb : Value) : List Value :=
  [lv, .int .i64 lvl, .slice (some ⟨gu, 0, none⟩) n n, vp, vb, .int .i64 most, .int .i64 (if c < 0 then bud else bud - c), .int .i64 bud, .bool (decide (c < 0))]
def nodeC (c : Int) : Int := if c ≤ 0 then -1 else c - 1
set_option maxRecDepth 100000 in
set_option maxHeartbeats 2000000 in
theorem specNode_any {B g gu n : Nat} {lv : Value} {lvl bud c most : Int} {U : List Bool} {P Q : List (Nat × Nat)} {vp vb : Value} {Vp : Nat → Value} {Gp : Nat → Nat} {Vb : Nat → Value} {Gb : Nat → Nat} (w : World)
    (h : SMem w B g gu (boxS lv lvl gu n bud c most) U P Q vp vb Vp Gp Vb Gb) (hc : -1 ≤ c) (hcb : c ≤ bud) (hb : 0 ≤ bud ∧ bud ≤ 1000000000000) :
    Calls Try.prog 55 #[.pointer (some ⟨g, 0, none⟩)] w fun e w' => e = .returned (.bool (decide (0 < c))) ∧ SMem w' B g gu (boxS lv lvl gu n bud (nodeC c) most) U P Q vp vb Vp Gp Vb Gb ∧ Below B w w' := by
  have c6 : w.cell? ⟨g, 6, none⟩ = some (.int .i64 (if c < 0 then bud else bud - c)) := h.bx.cell 6 _ rfl
  have c7 : w.cell? ⟨g, 7, none⟩ = some (.int .i64 bud) := h.bx.cell 7 _ rfl
  have c8 : w.cell? ⟨g, 8, none⟩ = some (.bool (decide (c < 0))) := h.bx.cell 8 _ rfl
  have z6 := h.bx.frz 6 (by show 6 < 9; decide)
  have z8 := h.bx.frz 8 (by show 8 < 9; decide)
  by_cases h0 : c ≤ 0
  · have e1 : (if c < 0 then bud else bud - c) = bud := by split <;> omega
    have e2 : decide (0 < c) = false := by rw [decide_eq_false]; omega
    have HD := fun q : Nat => (h.below (below_drewN (Below.refl _ _) q)).field (box' := boxS lv lvl gu n bud (nodeC c) most) 8 (.bool true) (by
      unfold boxS nodeC
      rw [if_pos h0, e1]
      rfl)
    have hbd := fun q : Nat => (below_drewN (Below.refl B w) q)
    have hBB := fun q : Nat => (hbd q).setCell (p := ⟨g, 8, none⟩) h.gB (.bool true)
    rw [e1] at c6
    rw [e2]
    clear e1 e2 h0 hbd h
    go_enter Try.func55, Try.ntmps55
    go_wp2
    go_quiet (fail)
    go_wp2
    go_ret
    exact ⟨rfl, HD _, hBB _⟩
  · have e1 : (if c < 0 then bud else bud - c) = bud - c := by split <;> omega
    have e2 : decide (0 < c) = true := by rw [decide_eq_true]; omega
    have e3 : decide (c < 0) = false := by rw [decide_eq_false]; omega
    have e4 : ((bud - c) == bud) = false := by rw [beq_eq_false_iff_ne]; omega
    have e5 : wrap64 (bud - c + 1) = bud - c + 1 := by unfold wrap64; omega
    have HD := fun q : Nat => (h.below (below_drewN (Below.refl _ _) q)).field (box' := boxS lv lvl gu n bud (nodeC c) most) 6 (.int .i64 (bud - c + 1)) (by
      unfold boxS nodeC
      rw [if_neg h0, e3, if_neg (by omega : ¬ c - 1 < 0)]
      have e6 : bud - (c - 1) = bud - c + 1 := by omega
      have e7 : decide (c - 1 < 0) = false := by rw [decide_eq_false]; omega
      rw [e6, e7]
      rfl)
    have hbd := fun q : Nat => (below_drewN (Below.refl B w) q)
    have hBB := fun q : Nat => (hbd q).setCell (p := ⟨g, 6, none⟩) h.gB (.int .i64 (bud - c + 1))
    rw [e1] at c6
    rw [e3] at c8
    rw [e2]
    have hlo : -9223372036854775808 ≤ bud - c + 1 ∧ bud - c + 1 ≤ 9223372036854775807 := by omega
    generalize bud - c = nd at *
    clear e1 e2 e3 h0 hbd h
    go_enter Try.func55, Try.ntmps55
    go_wp2
    go_quiet (fail)
    go_wp2
    go_ret
    exact ⟨rfl, HD _, hBB _⟩
end Go.Proofs.Ytjfaafoldllppaa

namespace Go.Proofs.Ytjfaafoldllppaa
open Go.RowKit
set_option linter.unusedVariables false

def Small (P : List (Nat × Nat)) : Prop := P.length ≤ 1000 ∧ ∀ q ∈ P, q.1 ≤ 1000 ∧ q.2 ≤ 1000
theorem PgW.pair {w : World} {B : Nat} {v : Value} {V : Nat → Value} {G : Nat → Nat} {P : List (Nat × Nat)} (h : PgW w B v P.length V (rowX P) G) (hs : Small P) {i : Nat} (hi : i < P.length) :
    ∃ gp cap c, v = .slice (some ⟨gp, 0, none⟩) P.length cap ∧ w.cell? ⟨gp, i, none⟩ = some (.slice (some ⟨G i, 0, none⟩) 2 c) ∧ V i = .slice (some ⟨G i, 0, none⟩) 2 c ∧ w.cell? ⟨G i, 0, none⟩ = some (.int .i64 (P[i].1 : Int)) ∧ w.cell? ⟨G i, 1, none⟩ = some (.int .i64 (P[i].2 : Int)) := by
  obtain ⟨gp, cap, hv, hc⟩ := h.cell hi
  obtain ⟨c, hV⟩ := h.last hi (by unfold rowX; simp)
  have hl : (rowX P i).length = 2 := by unfold rowX; simp
  rw [hl] at hV
  obtain ⟨fp, hsl, _⟩ := PgW.at_ h hi (rowX_ok hs.2 i)
  rw [hV] at hsl
  have h0 := hsl.cell1 rfl (k := 0) (by rw [hl]; decide) rfl
  have h1 := hsl.cell1 rfl (k := 1) (by rw [hl]; decide) rfl
  obtain ⟨b0, o0, hA0, _, _, hc0, _⟩ := h0
  obtain ⟨b1, o1, hA1, _, _, hc1, _⟩ := h1
  injection hA0 with hA0
  injection hA0 with hb0 ho0 _
  injection hA1 with hA1
  injection hA1 with hb1 ho1 _
  subst hb0 ho0 hb1 ho1
  refine ⟨gp, cap, c, hv, by rw [hc, hV], hV, ?_, ?_⟩
  · have : (rowX P i)[0]'(by rw [hl]; decide) = (P[i].1 : Int) := by unfold rowX; simp [hi]
    rw [this] at hc0
    simpa using hc0
  · have : (rowX P i)[1]'(by rw [hl]; decide) = (P[i].2 : Int) := by unfold rowX; simp [hi]
    rw [this] at hc1
    simpa using hc1
def EqTo (P Q : List (Nat × Nat)) (k : Nat) : Prop := ∀ j (h1 : j < P.length) (h2 : j < Q.length), j < k → P[j] = Q[j]
theorem EqTo.step {P Q : List (Nat × Nat)} {k : Nat} (h : EqTo P Q k) (h1 : k < P.length) (h2 : k < Q.length) (e1 : P[k].1 = Q[k].1) (e2 : P[k].2 = Q[k].2) : EqTo P Q (k + 1) := fun j hj1 hj2 hj => by
  rcases Nat.lt_or_ge j k with h3 | h3
  · exact h j hj1 hj2 h3
  · obtain rfl : j = k := by omega
    exact Prod.ext e1 e2
set_option maxRecDepth 100000 in
set_option maxHeartbeats 4000000 in
theorem specBetter_any {B g gu n : Nat} {lv : Value} {lvl bud c most : Int} {U : List Bool} {P Q : List (Nat × Nat)} {vp vb : Value} {Vp : Nat → Value} {Gp : Nat → Nat} {Vb : Nat → Value} {Gb : Nat → Nat} (w : World)
    (h : SMem w B g gu (boxS lv lvl gu n bud c most) U P Q vp vb Vp Gp Vb Gb) (hsP : Small P) (hsQ : Small Q) :
    Calls Try.prog 53 #[.pointer (some ⟨g, 0, none⟩)] w fun e w' => e = .returned (.bool (ltP P Q)) ∧ Below w.heap.size w w' := by
  have hlP := hsP.1
  have hlQ := hsQ.1
  obtain ⟨A3, k3, rfl⟩ := h.pr.form
  obtain ⟨A4, k4, rfl⟩ := h.bs.form
  go_enter Try.func53, Try.ntmps53
  go_wp2
  go_loopw [3] (fun i wr => ∃ k : Nat, k ≤ P.length ∧ k ≤ Q.length ∧ i = .int .i64 k ∧ Hid (EqTo P Q k) ∧ Below w.heap.size w wr) (fun i _ => P.length - (intOf i).toNat)
  case atStart => exact ⟨0, Nat.zero_le _, Nat.zero_le _, rfl, (fun j _ _ hj => absurd hj (Nat.not_lt_zero _)), Below.refl _ _⟩
  case round =>
    obtain ⟨k, hkP, hkQ, rfl, HE, hb⟩ := hrel
    have hm := h.below hb
    have c3 : wr.cell? ⟨g, 3, none⟩ = some (.slice A3 P.length k3) := hm.bx.cell 3 _ rfl
    have c4 : wr.cell? ⟨g, 4, none⟩ = some (.slice A4 Q.length k4) := hm.bx.cell 4 _ rfl
    by_cases hP : k < P.length
    · by_cases hQ : k < Q.length
      · obtain ⟨gp, cap, cc, hv, p0, _, p1, p2⟩ := PgW.pair hm.pr hsP hP
        obtain ⟨gq, cap', cc', hv', q0, _, q1, q2⟩ := PgW.pair hm.bs hsQ hQ
        injection hv with hv _ _
        injection hv' with hv' _ _
        subst hv hv'
        by_cases e1 : P[k].1 = Q[k].1
        · have hn1 : ((P[k].1 : Int) != (Q[k].1 : Int)) = false := by rw [e1]; simp
          by_cases e2 : P[k].2 = Q[k].2
          · have hn2 : ((P[k].2 : Int) != (Q[k].2 : Int)) = false := by rw [e2]; simp
            have HS := Lib.hid (EqTo.step HE.out hP hQ e1 e2)
            clear e1 e2
            go_wp2
            go_quiet (fail)
            go_wp2
            go_quiet (fail)
            go_wp2
            go_roundw
            case rel => exact ⟨k + 1, by omega, by omega, by go_num, HS, hb.trans (by repeat (first | exact Below.refl _ _ | assumption | refine Below.alloc ?_ (by first | omega | (simp <;> omega)) _ | refine Below.setCell ?_ (by first | (show _ ≤ _; omega) | (simp <;> omega)) _ | refine Below.drew ?_ | refine below_drewN ?_ _))⟩
            case measure => simp [intOf]; omega
          · have hn2 : ((P[k].2 : Int) != (Q[k].2 : Int)) = true := by simp; omega
            have HF := Lib.hid (ltP_second hP hQ HE.out e1 e2)
            clear e1 e2
            go_wp2
            go_quiet (fail)
            go_wp2
            go_quiet (fail)
            go_wp2
            go_quiet (fail)
            go_wp2
            go_ret
            refine ⟨ret_bool ?_, hb.trans (by repeat (first | exact Below.refl _ _ | assumption | refine Below.alloc ?_ (by first | omega | (simp <;> omega)) _ | refine Below.setCell ?_ (by first | (show _ ≤ _; omega) | (simp <;> omega)) _ | refine Below.drew ?_ | refine below_drewN ?_ _))⟩
            rw [HF.out]
        · have hn1 : ((P[k].1 : Int) != (Q[k].1 : Int)) = true := by simp; omega
          have HF := Lib.hid (ltP_first hP hQ HE.out e1)
          clear e1
          go_wp2
          go_quiet (fail)
          go_wp2
          go_quiet (fail)
          go_wp2
          go_ret
          refine ⟨ret_bool ?_, hb.trans (by repeat (first | exact Below.refl _ _ | assumption | refine Below.alloc ?_ (by first | omega | (simp <;> omega)) _ | refine Below.setCell ?_ (by first | (show _ ≤ _; omega) | (simp <;> omega)) _ | refine Below.drew ?_ | refine below_drewN ?_ _))⟩
          rw [HF.out]
      · have HF := Lib.hid (ltP_end (i := k) hkP hkQ (by omega) HE.out)
        go_wp2
        go_quiet (fail)
        go_wp2
        go_ret
        refine ⟨ret_bool ?_, hb.trans (by repeat (first | exact Below.refl _ _ | assumption | refine Below.alloc ?_ (by first | omega | (simp <;> omega)) _ | refine Below.setCell ?_ (by first | (show _ ≤ _; omega) | (simp <;> omega)) _ | refine Below.drew ?_ | refine below_drewN ?_ _))⟩
        rw [HF.out]
    · have HF := Lib.hid (ltP_end (i := k) hkP hkQ (by omega) HE.out)
      go_wp2
      go_quiet (fail)
      go_wp2
      go_ret
      refine ⟨ret_bool ?_, hb.trans (by repeat (first | exact Below.refl _ _ | assumption | refine Below.alloc ?_ (by first | omega | (simp <;> omega)) _ | refine Below.setCell ?_ (by first | (show _ ≤ _; omega) | (simp <;> omega)) _ | refine Below.drew ?_ | refine below_drewN ?_ _))⟩
      rw [HF.out]
end Go.Proofs.Ytjfaafoldllppaa

namespace Go.Proofs.Ytjfaafoldllppaa
open Go.RowKit
set_option linter.unusedVariables false

theorem infoIntC : (Try.prog.info? 2).map (fun i => (i.zero, i.size, i.bytes)) = some (some (.int .i64 0), 1, 8) := by kernel_rfl
/-- A row of the call's own that holds the list. -/
def OwnI (w : World) (xs : List Int) (e : Ending) (w' : World) : Prop := ∃ v, e = .returned v ∧ Own fInt w' w.heap.size 2 v xs ∧ Below w.heap.size w w'
set_option maxRecDepth 100000 in
set_option maxHeartbeats 1000000 in
theorem l00Own_any (v : Value) (xs : List Int) (fp : List Nat) (w : World) (hx : Sl fInt.cod w v xs fp) (hl : xs.length ≤ 1000000) :
    Calls Try.prog 54 #[v] w fun e w' => OwnI w xs e w' := by
  obtain ⟨A, cap, rfl, hlen, hcap⟩ := hx.form
  obtain ⟨i0, hi, hz0, hz1, hz2⟩ := info_parts infoIntC
  have hsrc := (hx.below' ((Below.refl _ _).alloc (Nat.le_refl _) (.cells #[] 2))).src
  have ho := Own.lit0 fInt w 2
  have hb0 : Below w.heap.size w (w.alloc (.cells #[] 2)) := (Below.refl _ _).alloc (Nat.le_refl _) _
  have hs2 := hb0.size
  go_enter Try.func54, Try.ntmps54
  go_wp2_with (at_builtin; refine wpList_append_src (E := fInt) rfl _ _ 50 rfl w.heap.size 2 i0 (.int .i64 0) 8 Try.underlying50 hi hz0 hz1 hz2 rfl (.slice (some ⟨w.heap.size, 0, none⟩) 0 0) [] rfl ho _ xs rfl hsrc (by simp; omega) (by decide) hs2 ?_)
  intro v' u hown hbu
  try rw [List.nil_append] at hown
  go_wp2
  go_ret
  exact ⟨_, rfl, hown, hb0.trans hbu⟩
set_option maxRecDepth 100000 in
set_option maxHeartbeats 1000000 in
theorem cloneI_any (v : Value) (xs : List Int) (fp : List Nat) (w : World) (hx : Sl fInt.cod w v xs fp) (hl : xs.length ≤ 1000000) :
    Calls Try.prog 58 #[v] w fun e w' => OwnI w xs e w' := by
  obtain ⟨A, cap, rfl, hlen, hcap⟩ := hx.form
  obtain ⟨i0, hi, hz0, hz1, hz2⟩ := info_parts infoIntC
  have hsrc := (hx.below' ((Below.refl _ _).alloc (Nat.le_refl _) (.cells #[] 2))).src
  have ho := Own.lit0 fInt w 2
  have hb0 : Below w.heap.size w (w.alloc (.cells #[] 2)) := (Below.refl _ _).alloc (Nat.le_refl _) _
  have hs2 := hb0.size
  have q22 : ∀ (w : World) (a : Option Addr) (n c n' c' : Nat), (binOp .eql 50 (.slice a n c) (.slice none n' c')).run Try.prog w = .ok (.bool a.isNone) w := fun w a n c n' c' => Lib.run_eql_slice_nil w _ _ a n c n' c' Try.underlying50
  cases A with
  | none =>
    have hnil : xs = [] := by
      rcases Nat.eq_zero_or_pos xs.length with h0 | h0
      · exact List.eq_nil_of_length_eq_zero h0
      · obtain ⟨b, off, hA, _⟩ := hx.cells h0
        cases hA
    subst hnil
    go_enter Try.func58, Try.ntmps58
    go_wp2
    go_ret
    exact ⟨_, rfl, Own.nil _ _ _ _, Below.refl _ _⟩
  | some ad =>
    go_enter Try.func58, Try.ntmps58
    go_wp2_with (at_builtin; refine wpList_append_src (E := fInt) rfl _ _ 50 rfl w.heap.size 2 i0 (.int .i64 0) 8 Try.underlying50 hi hz0 hz1 hz2 rfl (.slice (some ⟨w.heap.size, 0, none⟩) 0 0) [] rfl ho _ xs rfl hsrc (by simp; omega) (by decide) hs2 ?_)
    intro v' u hown hbu
    try rw [List.nil_append] at hown
    go_wp2
    go_ret
    exact ⟨_, rfl, hown, hb0.trans hbu⟩
end Go.Proofs.Ytjfaafoldllppaa
