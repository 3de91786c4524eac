
/- Memory of a search: boxes by their list of values; rows of numbers that are kept, cut. By hand. -/
import Derived.Test.YtjfaafoldllppaaPgi
namespace Go.Proofs.Ytjfaafoldllppaa
open Go.RowKit
set_option linter.unusedVariables false

/-- The block g holds these values, from its first cell on; none is frozen. -/
structure BoxL (w : World) (g : Nat) (vs : List Value) : Prop where
  cell : ∀ j v, vs[j]? = some v → w.cell? ⟨g, j, none⟩ = some v
  frz : ∀ j, j < vs.length → w.frozen? ⟨g, j, none⟩ = false
  lt : g < w.heap.size
theorem BoxL.keep {w w' : World} {g : Nat} {vs : List Value} (h : BoxL w g vs) (hk : w'.heap[g]? = w.heap[g]?) (hs : w.heap.size ≤ w'.heap.size) : BoxL w' g vs :=
  ⟨fun j v hv => (World.cell?_of_block (a := ⟨g, j, none⟩) hk).trans (h.cell j v hv), fun j hj => (World.frozen?_of_block (a := ⟨g, j, none⟩) hk).trans (h.frz j hj), Nat.lt_of_lt_of_le h.lt hs⟩
theorem BoxL.below {w w' : World} {g : Nat} {vs : List Value} (h : BoxL w g vs) (hb : Below w.heap.size w w') : BoxL w' g vs := h.keep (hb.block g h.lt) hb.size
theorem BoxL.set {w : World} {g : Nat} {vs : List Value} (h : BoxL w g vs) (j : Nat) (v : Value) : BoxL (w.setCell ⟨g, j, none⟩ v) g (vs.set j v) := by
  have hsz : (w.setCell ⟨g, j, none⟩ v).heap.size = w.heap.size := World.size_setCell ..
  refine ⟨fun i u hu => ?_, fun i hi => ?_, by rw [hsz]; exact h.lt⟩
  · rw [List.getElem?_set] at hu
    by_cases e : j = i
    · subst e
      rw [if_pos rfl] at hu
      split at hu
      · rename_i hl
        injection hu with hu
        subst hu
        exact World.cell?_setCell_same _ _ _ (h.cell j _ (List.getElem?_eq_getElem hl))
      · cases hu
    · rw [if_neg e] at hu
      rw [World.cell?_setCell_other _ _ _ _ (by simp)]
      exact h.cell i u hu
  · rw [frozen?_setCell]
    exact h.frz i (by simpa using hi)
theorem BoxL.setOther {w : World} {g : Nat} {vs : List Value} (h : BoxL w g vs) {g' : Nat} (hne : g' ≠ g) (j : Nat) (v : Value) : BoxL (w.setCell ⟨g', j, none⟩ v) g vs :=
  h.keep (((Only.refl [g'] w).set j v).block g h.lt (by simp; exact fun e => hne e.symm)) (by rw [World.size_setCell]; exact Nat.le_refl _)
theorem BoxL.new (w : World) (vs : List Value) (T : TypeId) (cs : Array Value) (hc : cs = vs.toArray) : BoxL (w.alloc (.cells cs T)) w.heap.size vs := by
  subst hc
  refine ⟨fun j v hv => ?_, fun j _ => World.frozen?_alloc_at _ _ _ _ rfl, by simp⟩
  rw [World.cell?_alloc_at _ _ _ _ rfl]
  simpa using hv
/-- The blocks of a row of rows. -/
def inPg (v : Value) (n : Nat) (G : Nat → Nat) (b : Nat) : Prop := v.ownBlock = some b ∨ ∃ i, i < n ∧ G i = b
section
variable {w w' u : World} {B n : Nat} {v v' : Value} {V : Nat → Value} {X : Nat → List Int} {G : Nat → Nat}
theorem PgW.keep (h : PgW w B v n V X G) (hk : ∀ b, inPg v n G b → w'.heap[b]? = w.heap[b]?) : PgW w' B v n V X G := by
  refine ⟨?_, fun i hi => own_stays (h.row i hi) (fun k hk' hkl => ?_), h.blk, h.inj, h.ap⟩
  · obtain ⟨h1, h2⟩ := h.own
    refine ⟨h1, ?_⟩
    rcases h2 with h2 | ⟨g, cap, cur, hv, hg, hh, r⟩
    · exact .inl h2
    · exact .inr ⟨g, cap, cur, hv, hg, by rw [hk g (.inl (by rw [hv]; rfl))]; exact hh, r⟩
  · rw [h.blk i hi] at hk'
    injection hk' with hk'
    exact hk k (.inr ⟨i, hi, hk'⟩)
theorem PgW.lt (h : PgW w B v n V X G) {b : Nat} (hb : inPg v n G b) : B ≤ b ∧ b < w.heap.size := by
  rcases hb with hb | ⟨i, hi, rfl⟩
  · rcases h.own.2 with ⟨hv, _⟩ | ⟨g, cap, cur, hv, hg, hh, _⟩
    · rw [hv] at hb; cases hb
    · rw [hv] at hb
      have e : g = b := by injection hb
      subst e
      refine ⟨hg, ?_⟩
      rcases Nat.lt_or_ge g w.heap.size with hlt | hge
      · exact hlt
      · rw [Array.getElem?_eq_none hge] at hh; cases hh
  · exact h.gl hi
theorem PgW.setFar (h : PgW w B v n V X G) {g : Nat} (hg : ¬ inPg v n G g) (j : Nat) (x : Value) : PgW (w.setCell ⟨g, j, none⟩ x) B v n V X G :=
  h.keep (fun b hb => ((Only.refl [g] w).set j x).block b (h.lt hb).2 (by simp; exact fun e => hg (e ▸ hb)))
/-- The last element is cut off. -/
theorem PgW.cut {g cap : Nat} (h : PgW w B (.slice (some ⟨g, 0, none⟩) (n + 1) cap) (n + 1) V X G) : PgW w B (.slice (some ⟨g, 0, none⟩) n cap) n V X G := by
  refine ⟨?_, fun i hi => h.row i (by omega), fun i hi => h.blk i (by omega), fun i j hi hj => h.inj i j (by omega) (by omega), fun i hi => h.ap i (by omega)⟩
  obtain ⟨h1, h2⟩ := h.own
  refine ⟨by simp, ?_⟩
  rcases h2 with ⟨hv, _⟩ | ⟨g', cap', cur, hv, hg, hh, hn, hc, hcs, ht⟩
  · cases hv
  · injection hv with e1 e2 e3
    injection e1 with e1
    injection e1 with e1
    subst e1 e3
    refine .inr ⟨g, cap, cur, rfl, hg, hh, by omega, hc, hcs, ?_⟩
    rw [List.range_succ, List.map_append] at ht
    have hl : ((List.range n).map V).length = n * 1 := by simp
    have := congrArg (List.take (n * 1)) ht
    rw [List.take_take, Nat.min_eq_left (by omega)] at this
    rw [this, List.take_append_of_le_length (by rw [hl]; exact Nat.le_refl _), List.take_of_length_le (by rw [hl]; exact Nat.le_refl _)]
/-- An element's cells. -/
theorem PgW.at_ (h : PgW w B v n V X G) {i : Nat} (hi : i < n) (hok : ∀ x ∈ X i, fInt.ok x) : ∃ fp, Sl fInt.cod w (V i) (X i) fp ∧ ∀ b ∈ fp, (V i).ownBlock = some b := by
  obtain ⟨fp, h1, _, _, h4⟩ := own_fp (h.row i hi) hok
  exact ⟨fp, h1, h4⟩
theorem PgW.cell (h : PgW w B v n V X G) {i : Nat} (hi : i < n) : ∃ g cap, v = .slice (some ⟨g, 0, none⟩) n cap ∧ w.cell? ⟨g, i, none⟩ = some (V i) := by
  obtain ⟨g, cap, rfl, hg, hl⟩ := h.addr (by omega)
  refine ⟨g, cap, rfl, ?_⟩
  rw [h.own.cellAt i (by omega), List.getElem?_map, List.getElem?_range hi]; rfl
end
end Go.Proofs.Ytjfaafoldllppaa
