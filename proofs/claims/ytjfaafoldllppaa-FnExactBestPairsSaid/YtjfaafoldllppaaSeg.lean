
/- A region that draws its order, walked once in an order of our own: what only looks is looked at under a class of worlds, what acts (a call, a new block) comes up alone. No function of the program is named here. -/
import Derived.Test.YtjfaafoldllppaaBase
import Derived.OrdersHeld
import Derived.Deep.RegionHeld
namespace Go.Proofs.Ytjfaafoldllppaa
open Go.RowKit

/-- Operations that yield a value and do nothing else. -/
def valueOnly (o : Oper) : Bool :=
  match o.op with
  | .move _ | .assign _ | .pick .. | .load .. | .binOp .. | .unOp .. | .convert .. | .slice .. | .fieldAddr .. | .field .. | .indexAddr .. | .index .. | .lookup .. | .build .. | .extract .. | .typeAssert .. | .sliceToArrayPointer .. | .makeInterface .. => true
  | .nilCheck _ => true
  | .call { callee := .builtin b, .. } => match b with | .len | .cap | .max | .min => true | _ => false
  | _ => false

theorem value_of_map {P : Program} {s : Sem Value} {w w' : World} {n : Next} (h : ((do pure (.value (← s)) : Sem Next)).run P w = .ok n w') : ∃ v, n = .value v := by
  rw [Sem.run_bind] at h
  generalize s.run P w = r at h
  cases r with
  | ok v w1 => exact ⟨v, by injection h with h1 _; exact h1.symm⟩
  | halt x w1 => cases h

theorem value_of_valueOnly {P : Program} {ρ : Operand → Value} {o : Oper} {w w' : World} {n : Next} (hv : valueOnly o = true) (h : (execOp ρ o).run P w = .ok n w') : ∃ v, n = .value v := by
  obtain ⟨dst, op, ty, pos, after, guard⟩ := o
  unfold valueOnly at hv
  cases op <;> simp only [Bool.false_eq_true] at hv <;> try contradiction
  case move x => exact ⟨_, by injection h with h1 _; exact h1.symm⟩
  case assign x => exact ⟨_, by injection h with h1 _; exact h1.symm⟩
  case nilCheck x =>
    simp only [execOp] at h
    split at h
    all_goals first
      | (simp [runtimePanic] at h; done)
      | (exact ⟨_, by injection h with h1 _; exact h1.symm⟩)
      | skip
    all_goals
      split at h
      all_goals first
        | (simp [runtimePanic] at h; done)
        | (exact ⟨_, by injection h with h1 _; exact h1.symm⟩)
        | skip
    rename_i t1 w1 _
    rw [Sem.run_bind] at h
    generalize program.run P w = r1 at h
    cases r1 with
    | halt x w1 => cases h
    | ok p w1 =>
      rw [Result.andThen_ok, Sem.run_bind] at h
      generalize Sem.run P (nilAhead _ _ _ _) w1 = r2 at h
      cases r2 with
      | halt x w1 => cases h
      | ok b w2 =>
        rw [Result.andThen_ok] at h
        split at h
        · simp [unsupported] at h
        · exact ⟨_, by injection h with h1 _; exact h1.symm⟩
  case call c =>
    obtain ⟨callee, args, ats⟩ := c
    cases callee <;> simp only [Bool.false_eq_true] at hv <;> try contradiction
    rename_i b
    cases b
    all_goals first
      | exact absurd hv (by decide)
      | exact value_of_map h
  case pick c a b =>
    simp only [execOp] at h
    rw [Sem.run_bind] at h
    generalize (asBool (ρ c)).run P w = r at h
    cases r with
    | ok v w1 => exact ⟨_, by injection h with h1 _; exact h1.symm⟩
    | halt x w1 => cases h
  all_goals exact value_of_map h

section
variable {P : Program} {ops : Array Oper} {Q : Exit → Act → World → Prop} {md : Region.Mode} {C : World → Prop}

/-- The walk: 'true': the operation only looks, and yields one value in every world of the class; 'false': it acts, in the world at hand, and leaves one of the class. -/
def wpMix (P : Program) (ops : Array Oper) (Q : Exit → Act → World → Prop) (C : World → Prop) : List Bool → List Oper → Act → World → Prop
  | _, [], a, w => Q .normal a w
  | [], _ :: _, _, _ => False
  | true :: ks, o :: l, a, w => if Region.wanted o (yielded ops a.tmps) then o.quiet P a C (fun a' => wpMix P ops Q C ks l a' w) else wpMix P ops Q C ks l (a.put o.dst undef) w
  | false :: ks, o :: l, a, w => if Region.wanted o (yielded ops a.tmps) then o.wp P a w (fun a' w' => C w' ∧ wpMix P ops Q C ks l a' w') Q else wpMix P ops Q C ks l (a.put o.dst undef) w

/-- Is this order of the walk one that serves for all? -/
def mixB (md : Region.Mode) (ops : Array Oper) : List Nat → List Bool → Array Bool → Bool
  | [], _, listed => (Region.ready md ops listed).isEmpty
  | i :: is, true :: ks, listed => (Region.ready md ops listed).contains i && Region.free md ops listed i && ((ops[i]?).map valueOnly).getD false && mixB md ops is ks (listed.setIfInBounds i true)
  | i :: is, false :: ks, listed => (Region.ready md ops listed == [i]) && mixB md ops is ks (listed.setIfInBounds i true)
  | _ :: _, [], _ => false

theorem yieldsIf_of_quiet {o : Oper} {a : Act} {K : Act → Prop} (hv : valueOnly o = true) (h : o.quiet P a C K) : ∃ v, (∀ w, C w → (execOp a.eval o).run P w = .ok (.value v) w) ∧ K (a.put o.dst v) := by
  obtain ⟨v, h1, h2⟩ := h
  refine ⟨v, fun w hw => ?_, h2⟩
  have h3 := h1 w hw
  unfold Oper.quietAt at h3
  generalize hr : (execOp a.eval o).run P w = r at h3
  cases r with
  | halt x w' => simp only [Oper.quietUpon] at h3
  | ok n w' =>
    obtain ⟨u, rfl⟩ := value_of_valueOnly hv hr
    simp only [Oper.quietUpon] at h3
    obtain ⟨rfl, rfl⟩ := h3
    rfl

theorem wpAnyH_of_mix (hs : Region.noSelect ops = true) (hQ : ∀ (c : _) (a : Act) (d : Option Tmp) (v : Value) (w : World), Q (.panic c) (a.put d v) w → Q (.panic c) a w) :
    ∀ (is : List Nat) (ks : List Bool) (l : List Oper) (listed : Array Bool) (a : Act) (w : World), (∀ j : Nat, l[j]? = (is[j]?).bind (fun i => ops[i]?)) → l.length = is.length →
      mixB md ops is ks listed = true → C w → wpMix P ops Q C ks l a w → wpAnyH P md ops Q C is.length listed a w := by
  intro is
  induction is with
  | nil =>
    intro ks l listed a w _ hn hB _ h
    obtain rfl : l = [] := List.eq_nil_of_length_eq_zero hn
    have h' : Q .normal a w := by cases ks <;> exact h
    exact ⟨by simpa [mixB] using hB, h'⟩
  | cons i is ih =>
    intro ks l listed a w hl hn hB hC h
    cases l with
    | nil => simp at hn
    | cons o l =>
      have ho : ops[i]? = some o := by simpa using (hl 0).symm
      have hl' : ∀ j : Nat, l[j]? = (is[j]?).bind (fun i => ops[i]?) := fun j => by simpa using hl (j + 1)
      have hn' : l.length = is.length := by simpa using hn
      cases ks with
      | nil => simp [mixB] at hB
      | cons k ks =>
        cases k with
        | true =>
          simp only [mixB, Bool.and_eq_true, ho, Option.map_some, Option.getD_some] at hB
          obtain ⟨⟨⟨hr, hf⟩, hv⟩, hB'⟩ := hB
          simp only [wpMix] at h
          by_cases hw : Region.wanted o (yielded ops a.tmps) = true
          · rw [if_pos hw] at h
            obtain ⟨v, h1, h2⟩ := yieldsIf_of_quiet hv h
            exact wpAnyH_take ho hs hf hr (fun c a w => hQ c a _ _ w) (.inl ⟨hw, h1⟩) hC (ih ks l _ _ w hl' hn' hB' hC h2)
          · rw [if_neg hw] at h
            exact wpAnyH_take ho hs hf hr (fun c a w => hQ c a _ _ w) (.inr ⟨by simpa using hw, rfl⟩) hC (ih ks l _ _ w hl' hn' hB' hC h)
        | false =>
          simp only [mixB, Bool.and_eq_true] at hB
          obtain ⟨hr, hB'⟩ := hB
          simp only [wpMix] at h
          refine wpAnyH_all (rs := [i]) (by simpa using hr) (by simp) (fun j hj => ?_)
          obtain rfl : j = i := by simpa using hj
          unfold wpOp
          simp only [ho]
          by_cases hw : Region.wanted o (yielded ops a.tmps) = true
          · rw [if_pos hw] at h ⊢
            exact .inl (Oper.wp_mono (fun a' w' hh => ⟨hh.1, ih ks l _ a' w' hl' hn' hB' hh.1 hh.2⟩) h)
          · rw [if_neg hw] at h ⊢
            exact ⟨hC, ih ks l _ _ w hl' hn' hB' hC h⟩

/-- The same, closed to whoever would unfold it. -/
structure Mix (P : Program) (ops : Array Oper) (Q : Exit → Act → World → Prop) (C : World → Prop) (ks : List Bool) (l : List Oper) (a : Act) (w : World) : Prop where
  out : wpMix P ops Q C ks l a w
/-- A region, in the text's order. -/
theorem wp_region_mix {id : Nat} {l : List Oper} {a : Act} {w : World} (ks : List Bool) (hm : P.follows .mixedOrders = true) (hs : Region.noSelect l.toArray = true)
    (hB : mixB .any l.toArray (List.range l.length) ks (Array.replicate l.length false) = true)
    (hQ : ∀ (c : _) (a : Act) (d : Option Tmp) (v : Value) (w : World), Q (.panic c) (a.put d v) w → Q (.panic c) a w) (hC : C w.drew) (h : Mix P l.toArray Q C ks l a w.drew) : (Code.region id l.toArray true).wp P Q a w := by
  refine wp_region_held (S := C) hm ?_
  have := wpAnyH_of_mix (md := .any) hs hQ (List.range l.length) ks l (Array.replicate l.length false) a w.drew (fun j => by
    by_cases hj : j < l.length
    · simp [hj]
    · simp [hj]) (by simp) hB hC h.out
  simpa using this
/-- A region, in an order of our own. -/
theorem wp_region_mixed {id : Nat} {l : List Oper} {a : Act} {w : World} (is : List Nat) (ks : List Bool) (hm : P.follows .mixedOrders = true) (hs : Region.noSelect l.toArray = true)
    (hB : (is.all (fun i => decide (i < l.length)) && decide (is.length = l.length) && mixB .any l.toArray is ks (Array.replicate l.length false)) = true)
    (hQ : ∀ (c : _) (a : Act) (d : Option Tmp) (v : Value) (w : World), Q (.panic c) (a.put d v) w → Q (.panic c) a w) (hC : C w.drew) (h : Mix P l.toArray Q C ks (is.map fun i => l.getD i default) a w.drew) : (Code.region id l.toArray true).wp P Q a w := by
  simp only [Bool.and_eq_true, decide_eq_true_eq, List.all_eq_true] at hB
  obtain ⟨⟨h1, h2⟩, h3⟩ := hB
  refine wp_region_held (S := C) hm ?_
  have := wpAnyH_of_mix (md := .any) hs hQ is ks (is.map fun i => l.getD i default) (Array.replicate l.length false) a w.drew (fun j => by
    rw [List.getElem?_map]
    cases hj : is[j]? with
    | none => rfl
    | some i =>
      have hi := h1 i (List.mem_of_getElem? hj)
      simp [hi, List.getD_eq_getElem?_getD]) (by simp) h3 hC h.out
  rw [h2] at this
  simpa using this

theorem wpMix_pure {ks : List Bool} {o : Oper} {l : List Oper} {a : Act} {w : World} (hw : Region.wanted o (yielded ops a.tmps) = true)
    (h : ∀ K : Act → Prop, (∀ a', Mix P ops Q C ks l a' w → K a') → o.quiet P a C K) : Mix P ops Q C (true :: ks) (o :: l) a w := by
  refine ⟨?_⟩
  simp only [wpMix]; rw [if_pos hw]; exact h _ fun _ h => h.out
theorem wpMix_skip {k : Bool} {ks : List Bool} {o : Oper} {l : List Oper} {a : Act} {w : World} (hw : Region.wanted o (yielded ops a.tmps) = false)
    (h : ∀ K : Act → Prop, (∀ a', Mix P ops Q C ks l a' w → K a') → K (a.put o.dst undef)) : Mix P ops Q C (k :: ks) (o :: l) a w := by
  have h' : wpMix P ops Q C ks l (a.put o.dst undef) w := h _ fun _ h => h.out
  refine ⟨?_⟩
  cases k <;> (simp only [wpMix]; rw [if_neg (by rw [hw]; exact Bool.false_ne_true)]; exact h')
theorem wpMix_act {ks : List Bool} {o : Oper} {l : List Oper} {a : Act} {w : World} (hw : Region.wanted o (yielded ops a.tmps) = true)
    (h : ∀ K : Act → World → Prop, (∀ a' w', C w' → Mix P ops Q C ks l a' w' → K a' w') → o.wp P a w K Q) : Mix P ops Q C (false :: ks) (o :: l) a w := by
  refine ⟨?_⟩
  simp only [wpMix]; rw [if_pos hw]; exact h _ fun _ _ hc h => ⟨hc, h.out⟩
theorem mix_world {ks : List Bool} {l : List Oper} {a : Act} {w : World} (X : World → Prop) (hX : X w) (h : ∀ N, X N → Mix P ops Q C ks l a N) : Mix P ops Q C ks l a w := h w hX
/-- The world gets a name, and what is known of it is said. -/
theorem at_world {c : Code} {a : Act} {w : World} (X : World → Prop) (hX : X w) (h : ∀ W, X W → c.wp P Q a W) : c.wp P Q a w := h w hX
theorem wpMix_nil {ks : List Bool} {a : Act} {w : World} (h : Q .normal a w) : Mix P ops Q C ks [] a w := by refine ⟨?_⟩; cases ks <;> exact h
end
end Go.Proofs.Ytjfaafoldllppaa
