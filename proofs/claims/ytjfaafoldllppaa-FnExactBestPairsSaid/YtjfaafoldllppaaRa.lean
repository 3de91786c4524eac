
/- A row of the call's own whose elements are slices of strings: it is read as a slice of slices. -/
import Derived.Test.YtjfaafoldllppaaNest
import Derived.Test.YtjfaafoldllppaaAp
import Derived.Test.YtjfaafoldllppaaColl
namespace Go.Proofs.Ytjfaafoldllppaa
open Go.RowKit
set_option linter.unusedVariables false

theorem infoSliceR : (Try.prog.info? 38).map (fun i => (i.zero, i.size, i.bytes)) = some (some (.slice none 0 0), 1, 24) := by kernel_rfl
structure RowsV (w : World) (B : Nat) (v : Value) (R : List (List ByteArray)) (V : Nat → Value) (F : Nat → List Nat) : Prop where
  own : w.ownsRow B 38 1 v R.length ((List.range R.length).map V)
  rd : ∀ i, i < R.length → Sl fStr.cod w (V i) (R.getD i []) (F i)
  ap : ∀ i, i < R.length → ∀ b ∈ F i, B ≤ b ∧ v.ownBlock ≠ some b
section
variable {w w' u : World} {B : Nat} {v v' : Value} {R : List (List ByteArray)} {V : Nat → Value} {F : Nat → List Nat}
theorem ownsRow_belowR {e : TypeId} {n size : Nat} {xs : List Value} (h : w.ownsRow B e size v n xs) (hb : Below w.heap.size w w') : w'.ownsRow B e size v n xs := by
  obtain ⟨h1, h2⟩ := h
  refine ⟨h1, ?_⟩
  rcases h2 with h2 | ⟨g, cap, cur, hv, hg, hh, r⟩
  · exact .inl h2
  · have hgl : g < w.heap.size := by
      rcases Nat.lt_or_ge g w.heap.size with hlt | hge
      · exact hlt
      · rw [Array.getElem?_eq_none hge] at hh; cases hh
    exact .inr ⟨g, cap, cur, hv, hg, by rw [hb.block _ hgl]; exact hh, r⟩
theorem RowsV.below (h : RowsV w B v R V F) (hb : Below w.heap.size w w') : RowsV w' B v R V F :=
  ⟨ownsRow_belowR h.own hb, fun i hi => (h.rd i hi).below' hb, h.ap⟩
theorem RowsV.lt (h : RowsV w B v R V F) : ∀ k, v.ownBlock = some k → k < w.heap.size := fun k hk => (h.own.lt k hk).2
/-- One more row. -/
theorem RowsV.push {r : List ByteArray} {y : Value} {f : List Nat} (h : RowsV w B v R V F) (hs : Sl fStr.cod w y r f) (hf : ∀ b ∈ f, B ≤ b ∧ v.ownBlock ≠ some b)
    (hown : u.ownsRow B 38 1 v' (R.length + 1) ((List.range R.length).map V ++ [y])) (hg : w.grownBy u v.ownBlock) (hl : v'.ownBlock = v.ownBlock ∨ v'.ownBlock = some w.heap.size) :
    RowsV u B v' (R ++ [r]) (fun i => if i = R.length then y else V i) (fun i => if i = R.length then f else F i) := by
  have hlen : (R ++ [r]).length = R.length + 1 := by simp
  have keep : ∀ {x : Value} {q : List ByteArray} {ff : List Nat}, Sl fStr.cod w x q ff → (∀ b ∈ ff, v.ownBlock ≠ some b) → Sl fStr.cod u x q ff := fun hx hne =>
    hx.keep (fun b hb => hg.block b (hx.lt b hb) (fun e => hne b hb e.symm)) hg.size
  have apart : ∀ {b : Nat}, b < w.heap.size → v.ownBlock ≠ some b → v'.ownBlock ≠ some b := fun hb hne => by
    rcases hl with e | e
    · rw [e]; exact hne
    · rw [e]; intro h2; injection h2 with h2; omega
  refine ⟨?_, ?_, ?_⟩
  · rw [hlen]
    have em : (List.range (R.length + 1)).map (fun i => if i = R.length then y else V i) = (List.range R.length).map V ++ [y] := by
      rw [List.range_succ, List.map_append, List.map_cons, List.map_nil, if_pos rfl]
      congr 1
      exact List.map_congr_left (fun i hi => if_neg (by have : i < R.length := by simpa using hi
                                                        omega))
    rw [em]
    exact hown
  · intro i hi
    rw [hlen] at hi
    by_cases e : i = R.length
    · subst e
      rw [if_pos rfl, if_pos rfl, show (R ++ [r]).getD R.length [] = r from by simp]
      exact keep hs (fun b hb => (hf b hb).2)
    · have hi2 : i < R.length := by omega
      rw [if_neg e, if_neg e, show (R ++ [r]).getD i [] = R.getD i [] from by simp [List.getD_eq_getElem?_getD, List.getElem?_append_left hi2]]
      exact keep (h.rd i hi2) (fun b hb => (h.ap i hi2 b hb).2)
  · intro i hi
    rw [hlen] at hi
    by_cases e : i = R.length
    · rw [if_pos e]
      exact fun b hb => ⟨(hf b hb).1, apart (hs.lt b hb) (hf b hb).2⟩
    · have hi2 : i < R.length := by omega
      rw [if_neg e]
      exact fun b hb => ⟨(h.ap i hi2 b hb).1, apart ((h.rd i hi2).lt b hb) (h.ap i hi2 b hb).2⟩
/-- It reads as a slice of slices. -/
theorem RowsV.sl (h : RowsV w B v R V F) (h0 : 0 < R.length) : ∃ fp, Sl fStr.cod.slice w v R fp := by
  obtain ⟨h1, h2⟩ := h.own
  rcases h2 with ⟨hv, hz⟩ | ⟨g, cap, cur, hv, hg, hh, hnc, hcm, hsz, hxs⟩
  · omega
  · have hgl : g < w.heap.size := by
      rcases Nat.lt_or_ge g w.heap.size with hlt | hge
      · exact hlt
      · rw [Array.getElem?_eq_none hge] at hh; cases hh
    have hown : w.ownsRow B 38 1 (.slice (some ⟨g, 0, none⟩) R.length cap) R.length ((List.range R.length).map V) := by rw [← hv]; exact h.own
    have hr : NRows fStr.cod w g 0 R.length V (fun i => R.getD i []) F := ⟨fun i hi => by
      rw [Nat.zero_add, hown.cellAt i (by omega), List.getElem?_map, List.getElem?_range hi]; rfl, fun i _ => by rw [Nat.zero_add]; exact hown.frozenAt i, h.rd⟩
    rw [hv]
    exact ⟨_, hr.sl hgl rfl (fun i hi => by simp [List.getD_eq_getElem?_getD, hi]) hnc hcm⟩
/-- The first row. -/
theorem RowsV.first {r : List ByteArray} {y : Value} {f : List Nat} {w : World} {B : Nat} (hB : B ≤ w.heap.size) (hs : Sl fStr.cod w y r f) (hf : ∀ b ∈ f, B ≤ b) :
    RowsV (w.alloc (.cells #[y] 38)) B (.slice (some ⟨w.heap.size, 0, none⟩) 1 1) [r] (fun _ => y) (fun _ => f) := by
  refine ⟨?_, ?_, ?_⟩
  · exact World.ownsRow_lit (e := 38) (size := 1) w #[y] 1 hB (by decide) rfl
  · intro i hi
    have hi0 : i = 0 := by simpa using hi
    subst hi0
    exact hs.below' ((Below.refl _ _).alloc (Nat.le_refl _) _)
  · intro i hi b hb
    refine ⟨hf b hb, ?_⟩
    have := hs.lt b hb
    show some w.heap.size ≠ some b
    intro e; injection e with e; omega
end
end Go.Proofs.Ytjfaafoldllppaa
