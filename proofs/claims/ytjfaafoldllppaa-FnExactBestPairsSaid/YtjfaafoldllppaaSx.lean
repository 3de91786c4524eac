
/- The memory of the search for the best pairs. By hand. -/
import Derived.Test.YtjfaafoldllppaaSs
import Derived.Test.YtjfaafoldllppaaBs
namespace Go.Proofs.Ytjfaafoldllppaa
open Go.RowKit
set_option linter.unusedVariables false

def rowX (P : List (Nat × Nat)) (i : Nat) : List Int := [((P.getD i (0, 0)).1 : Int), ((P.getD i (0, 0)).2 : Int)]
theorem rowX_ok {P : List (Nat × Nat)} (h : ∀ q ∈ P, q.1 ≤ 1000 ∧ q.2 ≤ 1000) (i : Nat) : ∀ x ∈ rowX P i, fInt.ok x := by
  have hq : (P.getD i (0, 0)).1 ≤ 1000 ∧ (P.getD i (0, 0)).2 ≤ 1000 := by
    rw [List.getD_eq_getElem?_getD]
    rcases Nat.lt_or_ge i P.length with hi | hi
    · rw [List.getElem?_eq_getElem hi]; exact h _ (List.getElem_mem hi)
    · rw [List.getElem?_eq_none hi]; exact ⟨Nat.zero_le _, Nat.zero_le _⟩
  intro x hx
  unfold rowX at hx
  simp only [List.mem_cons, List.not_mem_nil, or_false] at hx
  rcases hx with rfl | rfl <;> (show _ ∧ _; omega)
theorem rowX_push (P : List (Nat × Nat)) (a b i : Nat) : (if i = P.length then [(a : Int), (b : Int)] else rowX P i) = rowX (P ++ [(a, b)]) i ∨ P.length < i := by
  rcases Nat.lt_trichotomy i P.length with h | h | h
  · left
    rw [if_neg (by omega)]
    unfold rowX
    simp [List.getD_eq_getElem?_getD, List.getElem?_append_left h]
  · left
    rw [if_pos h]
    subst h
    unfold rowX
    simp
  · exact .inr h
/-- The searcher's box at g (its fields by the two rows' values), the marks at gu, the pairs, the best ones. -/
structure SMem (w : World) (B g gu : Nat) (box : Value → Value → List Value) (U : List Bool) (P Q : List (Nat × Nat)) (vp vb : Value) (Vp : Nat → Value) (Gp : Nat → Nat) (Vb : Nat → Value) (Gb : Nat → Nat) : Prop where
  bx : BoxL w g (box vp vb)
  us : BoxL w gu (U.map Value.bool)
  pr : PgW w B vp P.length Vp (rowX P) Gp
  bs : PgW w B vb Q.length Vb (rowX Q) Gb
  gB : B ≤ g
  guB : B ≤ gu
  ne : g ≠ gu
  np : ∀ b, inPg vp P.length Gp b → b ≠ g ∧ b ≠ gu ∧ ¬ inPg vb Q.length Gb b
  nb : ∀ b, inPg vb Q.length Gb b → b ≠ g ∧ b ≠ gu
section
variable {w w' : World} {B g gu : Nat} {box box' : Value → Value → List Value} {U : List Bool} {P Q : List (Nat × Nat)} {vp vb : Value} {Vp : Nat → Value} {Gp : Nat → Nat} {Vb : Nat → Value} {Gb : Nat → Nat}
theorem SMem.below (h : SMem w B g gu box U P Q vp vb Vp Gp Vb Gb) (hb : Below w.heap.size w w') : SMem w' B g gu box U P Q vp vb Vp Gp Vb Gb :=
  ⟨h.bx.below hb, h.us.below hb, h.pr.below hb, h.bs.below hb, h.gB, h.guB, h.ne, h.np, h.nb⟩
/-- A field of the box that is no row is stored. -/
theorem SMem.field (h : SMem w B g gu box U P Q vp vb Vp Gp Vb Gb) (j : Nat) (x : Value) (hb : (box vp vb).set j x = box' vp vb) : SMem (w.setCell ⟨g, j, none⟩ x) B g gu box' U P Q vp vb Vp Gp Vb Gb :=
  ⟨hb ▸ h.bx.set j x, h.us.setOther h.ne j x, h.pr.setFar (fun e => (h.np g e).1 rfl) j x, h.bs.setFar (fun e => (h.nb g e).1 rfl) j x, h.gB, h.guB, h.ne, h.np, h.nb⟩
theorem SMem.mark (h : SMem w B g gu box U P Q vp vb Vp Gp Vb Gb) (k : Nat) (b : Bool) : SMem (w.setCell ⟨gu, k, none⟩ (.bool b)) B g gu box (U.set k b) P Q vp vb Vp Gp Vb Gb :=
  ⟨h.bx.setOther (fun e => h.ne e.symm) k _, by rw [List.map_set]; exact h.us.set k _, h.pr.setFar (fun e => (h.np gu e).2.1 rfl) k _, h.bs.setFar (fun e => (h.nb gu e).2 rfl) k _, h.gB, h.guB, h.ne, h.np, h.nb⟩
/-- The last pair is cut off: the row's value is stored anew. -/
theorem SMem.cut {gp cap a b : Nat} (h : SMem w B g gu box U (P ++ [(a, b)]) Q (.slice (some ⟨gp, 0, none⟩) (P.length + 1) cap) vb Vp Gp Vb Gb) (j : Nat) (hb : (box (.slice (some ⟨gp, 0, none⟩) (P.length + 1) cap) vb).set j (.slice (some ⟨gp, 0, none⟩) P.length cap) = box (.slice (some ⟨gp, 0, none⟩) P.length cap) vb) :
    SMem (w.setCell ⟨g, j, none⟩ (.slice (some ⟨gp, 0, none⟩) P.length cap)) B g gu box U P Q (.slice (some ⟨gp, 0, none⟩) P.length cap) vb Vp Gp Vb Gb := by
  have hl : (P ++ [(a, b)]).length = P.length + 1 := by simp
  have hpr := h.pr
  have hnp := h.np
  rw [hl] at hpr hnp
  have hin : ∀ c, inPg (.slice (some ⟨gp, 0, none⟩) P.length cap) P.length Gp c → inPg (.slice (some ⟨gp, 0, none⟩) (P.length + 1) cap) (P.length + 1) Gp c := fun c hc => by
    rcases hc with hc | ⟨i, hi, hc⟩
    · exact .inl hc
    · exact .inr ⟨i, by omega, hc⟩
  have hcut := (hpr.cut).congr (X' := rowX P) (fun i hi => by
    unfold rowX
    simp [List.getD_eq_getElem?_getD, List.getElem?_append_left hi])
  exact ⟨hb ▸ h.bx.set j _, h.us.setOther h.ne j _, hcut.setFar (fun e => (hnp g (hin g e)).1 rfl) j _, h.bs.setFar (fun e => (h.nb g e).1 rfl) j _, h.gB, h.guB, h.ne, fun c hc => hnp c (hin c hc), h.nb⟩
/-- One pair more: its row lies at a, the row of pairs went to v', which is stored. -/
theorem SMem.push {u : World} {v' : Value} {a m k : Nat} (j : Nat) (h : SMem w B g gu box U P Q vp vb Vp Gp Vb Gb) (hy : Own fInt w B 2 (.slice (some ⟨a, 0, none⟩) 2 2) [(m : Int), (k : Int)])
    (hag : a ≠ g) (hau : a ≠ gu) (hap : ¬ inPg vp P.length Gp a) (hab : ¬ inPg vb Q.length Gb a)
    (hown : u.ownsRow B 50 1 v' (P.length + 1) ((List.range P.length).map Vp ++ [.slice (some ⟨a, 0, none⟩) 2 2])) (hg : w.grownBy u vp.ownBlock) (hl : v'.ownBlock = vp.ownBlock ∨ v'.ownBlock = some w.heap.size)
    (hbox : (box vp vb).set j v' = box v' vb) :
    SMem (u.setCell ⟨g, j, none⟩ v') B g gu box U (P ++ [(m, k)]) Q v' vb (fun i => if i = P.length then .slice (some ⟨a, 0, none⟩) 2 2 else Vp i) (fun i => if i = P.length then a else Gp i) Vb Gb := by
  have hl1 : (P ++ [(m, k)]).length = P.length + 1 := by simp
  have hlt : ∀ b, inPg vp P.length Gp b → b < w.heap.size := fun b hb => (h.pr.lt hb).2
  have hltb : ∀ b, inPg vb Q.length Gb b → b < w.heap.size := fun b hb => (h.bs.lt hb).2
  have hnew : ∀ b, inPg v' (P.length + 1) (fun i => if i = P.length then a else Gp i) b → inPg vp P.length Gp b ∨ b = a ∨ b = w.heap.size := fun b hb => by
    rcases hb with hb | ⟨i, hi, hb⟩
    · rcases hl with e | e
      · rw [e] at hb; exact .inl (.inl hb)
      · rw [e] at hb; injection hb with hb; exact .inr (.inr hb.symm)
    · by_cases e : i = P.length
      · simp only [e, if_true] at hb; exact .inr (.inl hb.symm)
      · simp only [e, if_false] at hb; exact .inl (.inr ⟨i, by omega, hb⟩)
  have hpr := (h.pr.push (r := [(m : Int), (k : Int)]) (y := .slice (some ⟨a, 0, none⟩) 2 2) (gy := a) hy rfl (fun i hi e => hap (.inr ⟨i, hi, e⟩)) (fun e => hap (.inl e)) hown hg hl).congr (X' := rowX (P ++ [(m, k)])) (fun i hi => by
    rcases rowX_push P m k i with e | e
    · exact e
    · omega)
  have hgb : ∀ b, b < w.heap.size → vp.ownBlock ≠ some b → u.heap[b]? = w.heap[b]? := fun b hb hne => hg.block b hb (fun e => hne e.symm)
  have hgg : vp.ownBlock ≠ some g := fun e => (h.np g (.inl e)).1 rfl
  have hggu : vp.ownBlock ≠ some gu := fun e => (h.np gu (.inl e)).2.1 rfl
  have hbx := h.bx.keep (hgb g h.bx.lt hgg) hg.size
  have hus := h.us.keep (hgb gu h.us.lt hggu) hg.size
  have hbs := h.bs.keep (w' := u) (fun b hb => hgb b (hltb b hb) (fun e => (h.np b (.inl e)).2.2 hb))
  have hnp : ∀ b, inPg v' (P.length + 1) (fun i => if i = P.length then a else Gp i) b → b ≠ g ∧ b ≠ gu ∧ ¬ inPg vb Q.length Gb b := fun b hb => by
    rcases hnew b hb with h1 | rfl | rfl
    · exact h.np b h1
    · exact ⟨hag, hau, hab⟩
    · exact ⟨fun e => by have := h.bx.lt; omega, fun e => by have := h.us.lt; omega, fun e => by have := hltb _ e; omega⟩
  refine ⟨hbox ▸ hbx.set j _, hus.setOther h.ne j _, ?_, hbs.setFar (fun e => (h.nb g e).1 rfl) j _, h.gB, h.guB, h.ne, ?_, h.nb⟩
  · rw [hl1]; exact hpr.setFar (fun e => (hnp g e).1 rfl) j _
  · rw [hl1]; exact hnp
/-- The best pairs are begun anew: an empty row. -/
theorem SMem.clear {v' : Value} (j : Nat) (h : SMem w B g gu box U P Q vp vb Vp Gp Vb Gb) (hv : w.ownsRow B 50 1 v' 0 []) (hf : ∀ b, v'.ownBlock = some b → b ≠ g ∧ b ≠ gu ∧ ¬ inPg vp P.length Gp b) (hbox : (box vp vb).set j v' = box vp v') :
    SMem (w.setCell ⟨g, j, none⟩ v') B g gu box U P [] vp v' Vp Gp (fun _ => undef) (fun _ => 0) := by
  have hin : ∀ b, inPg v' 0 (fun _ => 0) b → v'.ownBlock = some b := fun b hb => by
    rcases hb with hb | ⟨i, hi, _⟩
    · exact hb
    · omega
  have hn : PgW w B v' 0 (fun _ => undef) (rowX []) (fun _ => 0) := (PgW.nil (c := 0) hv).congr (fun i hi => absurd hi (Nat.not_lt_zero i))
  exact ⟨hbox ▸ h.bx.set j _, h.us.setOther h.ne j _, h.pr.setFar (fun e => (h.np g e).1 rfl) j _, hn.setFar (fun e => (hf g (hin g e)).1 rfl) j _, h.gB, h.guB, h.ne, fun b hb => ⟨(h.np b hb).1, (h.np b hb).2.1, fun e => (hf b (hin b e)).2.2 hb⟩, fun b hb => ⟨(hf b (hin b hb)).1, (hf b (hin b hb)).2.1⟩⟩
/-- One of the best pairs more. -/
theorem SMem.pushB {u : World} {v' : Value} {a m k : Nat} (j : Nat) (h : SMem w B g gu box U P Q vp vb Vp Gp Vb Gb) {y : Value} (hy : Own fInt w B 2 y [(m : Int), (k : Int)]) (hya : y.ownBlock = some a)
    (hag : a ≠ g) (hau : a ≠ gu) (hap : ¬ inPg vp P.length Gp a) (hab : ¬ inPg vb Q.length Gb a)
    (hown : u.ownsRow B 50 1 v' (Q.length + 1) ((List.range Q.length).map Vb ++ [y])) (hg : w.grownBy u vb.ownBlock) (hl : v'.ownBlock = vb.ownBlock ∨ v'.ownBlock = some w.heap.size)
    (hbox : (box vp vb).set j v' = box vp v') :
    SMem (u.setCell ⟨g, j, none⟩ v') B g gu box U P (Q ++ [(m, k)]) vp v' Vp Gp (fun i => if i = Q.length then y else Vb i) (fun i => if i = Q.length then a else Gb i) := by
  have hl1 : (Q ++ [(m, k)]).length = Q.length + 1 := by simp
  have hlt : ∀ b, inPg vp P.length Gp b → b < w.heap.size := fun b hb => (h.pr.lt hb).2
  have hltb : ∀ b, inPg vb Q.length Gb b → b < w.heap.size := fun b hb => (h.bs.lt hb).2
  have hnew : ∀ b, inPg v' (Q.length + 1) (fun i => if i = Q.length then a else Gb i) b → inPg vb Q.length Gb b ∨ b = a ∨ b = w.heap.size := fun b hb => by
    rcases hb with hb | ⟨i, hi, hb⟩
    · rcases hl with e | e
      · rw [e] at hb; exact .inl (.inl hb)
      · rw [e] at hb; injection hb with hb; exact .inr (.inr hb.symm)
    · by_cases e : i = Q.length
      · simp only [e, if_true] at hb; exact .inr (.inl hb.symm)
      · simp only [e, if_false] at hb; exact .inl (.inr ⟨i, by omega, hb⟩)
  have hbs := (h.bs.push (r := [(m : Int), (k : Int)]) (y := y) (gy := a) hy hya (fun i hi e => hab (.inr ⟨i, hi, e⟩)) (fun e => hab (.inl e)) hown hg hl).congr (X' := rowX (Q ++ [(m, k)])) (fun i hi => by
    rcases rowX_push Q m k i with e | e
    · exact e
    · omega)
  have hgb : ∀ b, b < w.heap.size → vb.ownBlock ≠ some b → u.heap[b]? = w.heap[b]? := fun b hb hne => hg.block b hb (fun e => hne e.symm)
  have hgg : vb.ownBlock ≠ some g := fun e => (h.nb g (.inl e)).1 rfl
  have hggu : vb.ownBlock ≠ some gu := fun e => (h.nb gu (.inl e)).2 rfl
  have hbx := h.bx.keep (hgb g h.bx.lt hgg) hg.size
  have hus := h.us.keep (hgb gu h.us.lt hggu) hg.size
  have hpr := h.pr.keep (w' := u) (fun b hb => hgb b (hlt b hb) (fun e => (h.np b hb).2.2 (.inl e)))
  have hnb : ∀ b, inPg v' (Q.length + 1) (fun i => if i = Q.length then a else Gb i) b → b ≠ g ∧ b ≠ gu ∧ ¬ inPg vp P.length Gp b := fun b hb => by
    rcases hnew b hb with h1 | rfl | rfl
    · exact ⟨(h.nb b h1).1, (h.nb b h1).2, fun e => (h.np b e).2.2 h1⟩
    · exact ⟨hag, hau, hap⟩
    · exact ⟨fun e => by have := h.bx.lt; omega, fun e => by have := h.us.lt; omega, fun e => by have := hlt _ e; omega⟩
  refine ⟨hbox ▸ hbx.set j _, hus.setOther h.ne j _, hpr.setFar (fun e => (h.np g e).1 rfl) j _, ?_, h.gB, h.guB, h.ne, ?_, ?_⟩
  · rw [hl1]; exact hbs.setFar (fun e => (hnb g e).1 rfl) j _
  · rw [hl1]; exact fun b hb => ⟨(h.np b hb).1, (h.np b hb).2.1, fun e => (hnb b e).2.2 hb⟩
  · rw [hl1]; exact fun b hb => ⟨(hnb b hb).1, (hnb b hb).2.1⟩
end
end Go.Proofs.Ytjfaafoldllppaa
