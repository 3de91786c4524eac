
/- A region of plain operations (no call of a function), walked as outside any fence, serves inside one. No function of the program is named here. -/
import Derived.Test.YtibihiejpieadaaTk
import Derived.OrdersIn
import Derived.OwnWalkIn
namespace Go.Proofs.Ytibihiejpieadaa
open Go.RowKit
section
variable {P : Program} {ops : Array Oper} {Q : Exit → Act → World → Prop} {md : Region.Mode} {C : World → Prop}

def plainOp (o : Oper) : Bool :=
  valueOnly o || (match o.op with
    | .alloc _ | .buildSlice .. | .store .. => true
    | .call { callee := .builtin b, .. } => (match b with | .append => true | _ => false)
    | _ => false)
theorem skip_of_map {P : Program} {s : Sem Unit} {w w' : World} {n : Next} (h : ((do s; pure .skip : Sem Next)).run P w = .ok n w') : n = .skip := by
  rw [Sem.run_bind] at h
  generalize s.run P w = r at h
  cases r with
  | ok v w1 => injection h with h1 _; exact h1.symm
  | halt x w1 => cases h
theorem plain_next {P : Program} {ρ : Operand → Value} {o : Oper} {w w' : World} {n : Next} (hv : plainOp o = true) (h : (execOp ρ o).run P w = .ok n w') : (∃ v, n = .value v) ∨ n = .skip := by
  cases h0 : valueOnly o with
  | true => exact .inl (value_of_valueOnly h0 h)
  | false =>
    unfold plainOp at hv
    rw [h0, Bool.false_or] at hv
    obtain ⟨dst, op, ty, pos, after, guard⟩ := o
    cases op <;> simp only [Bool.false_eq_true] at hv <;> try contradiction
    case alloc x => exact .inl (value_of_map h)
    case buildSlice => exact .inl (value_of_map h)
    case store => exact .inr (skip_of_map h)
    case call c =>
      obtain ⟨callee, args, ats⟩ := c
      cases callee <;> simp only [Bool.false_eq_true] at hv <;> try contradiction
      rename_i b
      cases b
      all_goals first
        | exact absurd hv (by decide)
        | exact .inl (value_of_map h)
theorem plain_about {P : Program} {ρ : Operand → Value} {o : Oper} {w : World} (hv : plainOp o = true) : o.about P w ρ = none := by
  unfold Oper.about
  obtain ⟨dst, op, ty, pos, after, guard⟩ := o
  cases op <;> simp only
  case call c =>
    obtain ⟨callee, args, ats⟩ := c
    unfold plainOp valueOnly at hv
    cases callee <;> simp only [Bool.false_eq_true, Bool.or_self] at hv <;> try contradiction
    rename_i b
    simp only [resolve, Sem.run_pure]
    rfl
theorem plain_defer {o : Oper} (hv : plainOp o = true) : ∀ c, o.op ≠ .defer c := by
  intro c h
  unfold plainOp valueOnly at hv
  rw [h] at hv
  simp at hv
theorem opIn_of_op {F : Fence} {n i : Nat} {K K' : Act → World → Prop} {a : Act} {w : World} (hpl : ∀ (j : Nat) (o : Oper), ops[j]? = some o → plainOp o = true) (hQ : ¬ LetsOut Q) (hK : ∀ a w, K a w → K' a w) (h : wpOp P ops Q i K a w) : wpOpIn F n P ops Q i K' a w := by
  unfold wpOp at h
  unfold wpOpIn
  cases ho : ops[i]? with
  | none => rw [ho] at h; exact hK _ _ h
  | some o =>
    rw [ho] at h
    have hp := hpl i o ho
    simp only at h ⊢
    have habout : ∀ f, o.about P w a.eval = some f → F.fn f := fun f hf => by rw [plain_about hp] at hf; cases hf
    by_cases hw : Region.wanted o (yielded ops a.tmps) = true
    · rw [if_pos hw] at h ⊢
      rcases h with h | ⟨_, h⟩
      · refine ⟨habout, ?_⟩
        rw [Oper.semAt_plain F a.eval o (plain_defer hp)]
        unfold Oper.wp at h
        generalize hr : (execOp a.eval o).run P w = r at h
        cases r with
        | ok x w' =>
          rcases plain_next hp hr with ⟨v, rfl⟩ | rfl
          · exact hK _ _ h
          · exact hK _ _ h
        | halt x w' => cases x <;> simp only [Oper.upon, Oper.uponIn] at h ⊢ <;> exact h
      · exact absurd h hQ
    · rw [if_neg hw] at h ⊢
      exact ⟨habout, hK _ _ h⟩
theorem anyIn_of_any {F : Fence} {n : Nat} (hpl : ∀ (j : Nat) (o : Oper), ops[j]? = some o → plainOp o = true) (hQ : ¬ LetsOut Q) : ∀ (m : Nat) (L : Array Bool) (a : Act) (w : World), wpAny P md ops Q m L a w → wpAnyIn F n P md ops Q m L a w
  | 0, _, _, _, h => h
  | m + 1, _, _, _, h => And.intro h.1 fun i hi => opIn_of_op hpl hQ (fun b v g => anyIn_of_any hpl hQ m _ b v g) (h.2 i hi)
theorem plain_all {l : List Oper} (h : l.all plainOp = true) : ∀ (j : Nat) (o : Oper), l.toArray[j]? = some o → plainOp o = true := fun j o ho => List.all_eq_true.1 h o (List.mem_of_getElem? (by simpa using ho))
/-- The region with a sink, inside a fence; what comes behind holds where it ends as usual. -/
theorem wpIn_region_sink {F : Fence} {n id : Nat} {l : List Oper} {a : Act} {w : World} {R : Act → World → Prop} (is : List Nat) (ks : List Bool) (t : Nat) (hpl : l.all plainOp = true) (hm : P.follows .mixedOrders = true) (hs : Region.noSelect l.toArray = true)
    (hB : (is.all (fun i => decide (i < l.length)) && decide (is.length = l.length) && mixSB .any l.toArray t is ks (Array.replicate l.length false)) = true)
    (hQ : ∀ a w, R a w → Q .normal a w) (hC : C w.drew) (h : MixS P l.toArray (fun e a w => e = .normal ∧ R a w) C ks (is.map fun i => l.getD i default) a w.drew) : (Code.region id l.toArray true).wpIn F n P Q a w := by
  refine Code.wpIn_mono (Q := fun e a w => e = .normal ∧ R a w) (fun e a w h => by rw [h.1]; exact hQ a w h.2) ?_
  simp only [Bool.and_eq_true, decide_eq_true_eq, List.all_eq_true] at hB
  obtain ⟨⟨h1, h2⟩, h3⟩ := hB
  refine wpIn_region_any hm (anyIn_of_any (Q := fun e a w => e = .normal ∧ R a w) (plain_all hpl) (fun hlo => by obtain ⟨a, w, h, _⟩ := hlo; cases h) _ _ _ _ (any_of_sink (C := C) (t := t) _ _ _ _ ?_))
  have := sink_of_mix (md := .any) hs (fun c a d v w h => by cases h.1) is ks (is.map fun i => l.getD i default) (Array.replicate l.length false) a w.drew (fun j => by
    rw [List.getElem?_map]
    cases hj : is[j]? with
    | none => rfl
    | some i =>
      have hi := h1 i (List.mem_of_getElem? hj)
      simp [hi, List.getD_eq_getElem?_getD]) (by simp) h3 (fun _ => hC) h.out
  rw [h2] at this
  simpa using this
/-- The region that only looks, inside a fence. -/
theorem wpIn_region_mixed {F : Fence} {n id : Nat} {l : List Oper} {a : Act} {w : World} {R : Act → World → Prop} (is : List Nat) (ks : List Bool) (hpl : l.all plainOp = true) (hm : P.follows .mixedOrders = true) (hs : Region.noSelect l.toArray = true)
    (hB : (is.all (fun i => decide (i < l.length)) && decide (is.length = l.length) && mixB .any l.toArray is ks (Array.replicate l.length false)) = true)
    (hQ : ∀ a w, R a w → Q .normal a w) (hC : C w.drew) (h : Mix P l.toArray (fun e a w => e = .normal ∧ R a w) C ks (is.map fun i => l.getD i default) a w.drew) : (Code.region id l.toArray true).wpIn F n P Q a w := by
  refine Code.wpIn_mono (Q := fun e a w => e = .normal ∧ R a w) (fun e a w h => by rw [h.1]; exact hQ a w h.2) ?_
  simp only [Bool.and_eq_true, decide_eq_true_eq, List.all_eq_true] at hB
  obtain ⟨⟨h1, h2⟩, h3⟩ := hB
  refine wpIn_region_any hm (anyIn_of_any (Q := fun e a w => e = .normal ∧ R a w) (plain_all hpl) (fun hlo => by obtain ⟨a, w, h, _⟩ := hlo; cases h) _ _ _ _ (wpAny_of_held (S := C) _ _ _ _ ?_))
  have := wpAnyH_of_mix (md := .any) hs (fun c a d v w h => by cases h.1) is ks (is.map fun i => l.getD i default) (Array.replicate l.length false) a w.drew (fun j => by
    rw [List.getElem?_map]
    cases hj : is[j]? with
    | none => rfl
    | some i =>
      have hi := h1 i (List.mem_of_getElem? hj)
      simp [hi, List.getD_eq_getElem?_getD]) (by simp) h3 hC h.out
  rw [h2] at this
  simpa using this
end
end Go.Proofs.Ytibihiejpieadaa
