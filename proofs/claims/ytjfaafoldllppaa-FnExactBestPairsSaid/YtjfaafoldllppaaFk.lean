
/- A region that draws its order, in which two acting operations may come up in either order: walked both ways. No function of the program is named here. -/
import Derived.Test.YtjfaafoldllppaaSeg
namespace Go.Proofs.Ytjfaafoldllppaa
open Go.RowKit
section
variable {P : Program} {ops : Array Oper} {Q : Exit → Act → World → Prop} {md : Region.Mode} {C : World → Prop}

def mixF (md : Region.Mode) (ops : Array Oper) (i : Nat) (is1 : List Nat) (ks1 : List Bool) (j : Nat) (is2 : List Nat) (ks2 : List Bool) : List Nat → Array Bool → Bool
  | [], listed => (Region.ready md ops listed == [i, j]) && mixB md ops is1 ks1 (listed.setIfInBounds i true) && mixB md ops is2 ks2 (listed.setIfInBounds j true)
  | p :: ps, listed => (Region.ready md ops listed).contains p && Region.free md ops listed p && ((ops[p]?).map valueOnly).getD false && mixF md ops i is1 ks1 j is2 ks2 ps (listed.setIfInBounds p true)
def wpFork (P : Program) (ops : Array Oper) (Q : Exit → Act → World → Prop) (C : World → Prop) (ks1 : List Bool) (l1 : List Oper) (ks2 : List Bool) (l2 : List Oper) : List Oper → Act → World → Prop
  | [], a, w => wpMix P ops Q C (false :: ks1) l1 a w ∧ wpMix P ops Q C (false :: ks2) l2 a w
  | o :: lp, a, w => if Region.wanted o (yielded ops a.tmps) then o.quiet P a C (fun a' => wpFork P ops Q C ks1 l1 ks2 l2 lp a' w) else wpFork P ops Q C ks1 l1 ks2 l2 lp (a.put o.dst undef) w

theorem wpOp_of_mix (hs : Region.noSelect ops = true) (hQ : ∀ (c : _) (a : Act) (d : Option Tmp) (v : Value) (w : World), Q (.panic c) (a.put d v) w → Q (.panic c) a w)
    {i : Nat} {is : List Nat} {ks : List Bool} {listed : Array Bool} {a : Act} {w : World} (hi : i < ops.size) (his : ∀ x ∈ is, x < ops.size) (hB : mixB md ops is ks (listed.setIfInBounds i true) = true) (hC : C w)
    (h : wpMix P ops Q C (false :: ks) ((i :: is).map fun i => ops.getD i default) a w) :
    wpOp P ops Q i (fun a' w' => C w' ∧ wpAnyH P md ops Q C is.length (listed.setIfInBounds i true) a' w') a w := by
  have ho : ops[i]? = some (ops.getD i default) := by simp [hi]
  have hl : ∀ j : Nat, (is.map fun i => ops.getD i default)[j]? = (is[j]?).bind (fun i => ops[i]?) := fun j => by
    rw [List.getElem?_map]
    cases hj : is[j]? with
    | none => rfl
    | some x => have := his x (List.mem_of_getElem? hj); simp [this]
  rw [List.map_cons] at h
  simp only [wpMix] at h
  unfold wpOp
  simp only [ho]
  by_cases hw : Region.wanted (ops.getD i default) (yielded ops a.tmps) = true
  · rw [if_pos hw] at h ⊢
    exact .inl (Oper.wp_mono (fun a' w' hh => ⟨hh.1, wpAnyH_of_mix hs hQ is ks _ _ a' w' hl (by simp) hB hh.1 hh.2⟩) h)
  · rw [if_neg hw] at h ⊢
    exact ⟨hC, wpAnyH_of_mix hs hQ is ks _ _ _ w hl (by simp) hB hC h⟩

theorem wpAnyH_of_fork (hs : Region.noSelect ops = true) (hQ : ∀ (c : _) (a : Act) (d : Option Tmp) (v : Value) (w : World), Q (.panic c) (a.put d v) w → Q (.panic c) a w)
    {i : Nat} {is1 : List Nat} {ks1 : List Bool} {j : Nat} {is2 : List Nat} {ks2 : List Bool} (hi : i < ops.size) (hj : j < ops.size) (h1 : ∀ x ∈ is1, x < ops.size) (h2 : ∀ x ∈ is2, x < ops.size) (hlen : is1.length = is2.length) :
    ∀ (ps : List Nat) (listed : Array Bool) (a : Act) (w : World), (∀ x ∈ ps, x < ops.size) → mixF md ops i is1 ks1 j is2 ks2 ps listed = true → C w →
      wpFork P ops Q C ks1 ((i :: is1).map fun i => ops.getD i default) ks2 ((j :: is2).map fun i => ops.getD i default) (ps.map fun i => ops.getD i default) a w → wpAnyH P md ops Q C (ps.length + (is1.length + 1)) listed a w := by
  intro ps
  induction ps with
  | nil =>
    intro listed a w _ hB hC h
    simp only [mixF, Bool.and_eq_true, beq_iff_eq] at hB
    obtain ⟨⟨hr, hb1⟩, hb2⟩ := hB
    simp only [List.map_nil, wpFork] at h
    rw [List.length_nil, Nat.zero_add]
    refine wpAnyH_all hr (by simp) (fun x hx => ?_)
    rcases List.mem_cons.1 hx with rfl | hx
    · exact wpOp_of_mix hs hQ hi h1 hb1 hC h.1
    · rw [List.mem_singleton] at hx; subst hx
      rw [hlen]
      exact wpOp_of_mix hs hQ hj h2 hb2 hC h.2
  | cons p ps ih =>
    intro listed a w hps hB hC h
    have hp : p < ops.size := hps p (by simp)
    have ho : ops[p]? = some (ops.getD p default) := by simp [hp]
    simp only [mixF, Bool.and_eq_true, ho, Option.map_some, Option.getD_some] at hB
    obtain ⟨⟨⟨hr, hf⟩, hv⟩, hB'⟩ := hB
    rw [show ((p :: ps).map fun i => ops.getD i default) = ops.getD p default :: ps.map (fun i => ops.getD i default) from rfl] at h
    simp only [wpFork] at h
    rw [List.length_cons, show ps.length + 1 + (is1.length + 1) = (ps.length + (is1.length + 1)) + 1 by omega]
    by_cases hw : Region.wanted (ops.getD p default) (yielded ops a.tmps) = true
    · rw [if_pos hw] at h
      obtain ⟨v, q1, q2⟩ := yieldsIf_of_quiet hv h
      exact wpAnyH_take ho hs hf hr (fun c a w => hQ c a _ _ w) (.inl ⟨hw, q1⟩) hC (ih _ _ w (fun x hx => hps x (by simp [hx])) hB' hC q2)
    · rw [if_neg hw] at h
      exact wpAnyH_take ho hs hf hr (fun c a w => hQ c a _ _ w) (.inr ⟨by simpa using hw, rfl⟩) hC (ih _ _ w (fun x hx => hps x (by simp [hx])) hB' hC h)

structure Fork (P : Program) (ops : Array Oper) (Q : Exit → Act → World → Prop) (C : World → Prop) (ks1 : List Bool) (l1 : List Oper) (ks2 : List Bool) (l2 : List Oper) (lp : List Oper) (a : Act) (w : World) : Prop where
  out : wpFork P ops Q C ks1 l1 ks2 l2 lp a w
theorem wp_region_fork {id : Nat} {l : List Oper} {a : Act} {w : World} (ps : List Nat) (i : Nat) (is1 : List Nat) (ks1 : List Bool) (j : Nat) (is2 : List Nat) (ks2 : List Bool) (hm : P.follows .mixedOrders = true) (hs : Region.noSelect l.toArray = true)
    (hB : (((i :: j :: (ps ++ is1 ++ is2)).all (fun x => decide (x < l.length))) && decide (is1.length = is2.length) && decide (ps.length + (is1.length + 1) = l.length) && mixF .any l.toArray i is1 ks1 j is2 ks2 ps (Array.replicate l.length false)) = true)
    (hQ : ∀ (c : _) (a : Act) (d : Option Tmp) (v : Value) (w : World), Q (.panic c) (a.put d v) w → Q (.panic c) a w) (hC : C w.drew)
    (h : Fork P l.toArray Q C ks1 ((i :: is1).map fun i => l.getD i default) ks2 ((j :: is2).map fun i => l.getD i default) (ps.map fun i => l.getD i default) a w.drew) : (Code.region id l.toArray true).wp P Q a w := by
  simp only [Bool.and_eq_true, decide_eq_true_eq, List.all_eq_true] at hB
  obtain ⟨⟨⟨h1, h2⟩, h3⟩, h4⟩ := hB
  refine wp_region_held (S := C) hm ?_
  have hg : (fun i => l.toArray.getD i default) = (fun i => l.getD i default) := by funext x; simp [Array.getD_eq_getD_getElem?, List.getD_eq_getElem?_getD]
  have := wpAnyH_of_fork (md := .any) (ops := l.toArray) hs hQ (i := i) (is1 := is1) (ks1 := ks1) (j := j) (is2 := is2) (ks2 := ks2) (by simpa using h1 i (by simp)) (by simpa using h1 j (by simp))
    (fun x hx => by simpa using h1 x (by simp [hx])) (fun x hx => by simpa using h1 x (by simp [hx])) h2 ps (Array.replicate l.length false) a w.drew (fun x hx => by simpa using h1 x (by simp [hx])) h4 hC (by rw [hg]; exact h.out)
  rw [h3] at this
  simpa using this
theorem wpFork_pure {ks1 ks2 : List Bool} {l1 l2 : List Oper} {o : Oper} {l : List Oper} {a : Act} {w : World} (hw : Region.wanted o (yielded ops a.tmps) = true)
    (h : ∀ K : Act → Prop, (∀ a', Fork P ops Q C ks1 l1 ks2 l2 l a' w → K a') → o.quiet P a C K) : Fork P ops Q C ks1 l1 ks2 l2 (o :: l) a w := by
  refine ⟨?_⟩
  simp only [wpFork]; rw [if_pos hw]; exact h _ fun _ h => h.out
theorem wpFork_split {ks1 ks2 : List Bool} {l1 l2 : List Oper} {a : Act} {w : World} (h1 : Mix P ops Q C (false :: ks1) l1 a w) (h2 : Mix P ops Q C (false :: ks2) l2 a w) : Fork P ops Q C ks1 l1 ks2 l2 [] a w := ⟨⟨h1.out, h2.out⟩⟩
end
end Go.Proofs.Ytjfaafoldllppaa
