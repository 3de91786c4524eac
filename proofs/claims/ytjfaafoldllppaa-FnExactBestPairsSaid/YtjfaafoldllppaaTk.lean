
/- A region that draws its order and ends in one operation that waits for all others: the class of worlds, under which what only looks is looked at, need not outlive that last one. No function of the program is named here. -/
import Derived.Test.YtjfaafoldllppaaSeg
namespace Go.Proofs.Ytjfaafoldllppaa
open Go.RowKit
section
variable {P : Program} {ops : Array Oper} {Q : Exit → Act → World → Prop} {md : Region.Mode} {C : World → Prop} {t : Nat}

/-- Whichever comes up: behind each but number 't' the class holds. -/
def wpSink (P : Program) (md : Region.Mode) (ops : Array Oper) (Q : Exit → Act → World → Prop) (C : World → Prop) (t : Nat) : Nat → Array Bool → Act → World → Prop
  | 0, L, a, w => Region.ready md ops L = [] ∧ Q .normal a w
  | n + 1, L, a, w => (Region.ready md ops L = [] → Q .normal a w) ∧ ∀ i, i ∈ Region.ready md ops L → wpOp P ops Q i (fun b v => (i ≠ t → C v) ∧ wpSink P md ops Q C t n (L.setIfInBounds i true) b v) a w
theorem any_of_sink : ∀ (n : Nat) (L : Array Bool) (a : Act) (w : World), wpSink P md ops Q C t n L a w → wpAny P md ops Q n L a w
  | 0, _, _, _, h => h
  | n + 1, _, _, _, h => And.intro h.1 fun i hi => wpOp_mono (fun b v g => any_of_sink n _ b v g.2) (h.2 i hi)
/-- Does number 't' wait for number 'i'? -/
def waitsOn (md : Region.Mode) (ops : Array Oper) (t i : Nat) : Bool := match ops[t]? with | some o => o.after.any (fun e => Region.binds md e && e.on == i) | none => false
theorem waitsOn_not {i : Nat} {L : Array Bool} (hw : waitsOn md ops t i = true) (hi : L.getD i true = false) : t ∉ Region.ready md ops L := by
  intro ht
  obtain ⟨_, o, ho, hall⟩ := mem_ready.1 ht
  unfold waitsOn at hw
  rw [ho] at hw
  simp only at hw
  obtain ⟨e, he, hb⟩ := Array.any_eq_true'.1 hw
  simp only [Bool.and_eq_true, beq_iff_eq] at hb
  have h1 := hall e he hb.1
  rw [hb.2] at h1
  rcases Nat.lt_or_ge i L.size with h' | h'
  · simp [h'] at hi h1; rw [hi] at h1; cases h1
  · simp [Array.getElem?_eq_none h'] at h1
/-- Does number 't' wait for number 'i', or for one that is not listed yet and that waits for 'i', and so on? -/
def waitsDeep (md : Region.Mode) (ops : Array Oper) (i : Nat) (L : Array Bool) : Nat → Nat → Bool
  | 0, j => waitsOn md ops j i
  | d + 1, j => waitsOn md ops j i || (List.range ops.size).any fun k => !(L.getD k true) && waitsOn md ops j k && waitsDeep md ops i L d k
def waitsBy (md : Region.Mode) (ops : Array Oper) (t i : Nat) (L : Array Bool) : Bool := waitsDeep md ops i L 12 t
theorem waitsDeep_not {i : Nat} {L : Array Bool} (hi : L.getD i true = false) : ∀ (d j : Nat), waitsDeep md ops i L d j = true → j ∉ Region.ready md ops L := by
  intro d j h
  cases d with
  | zero => exact waitsOn_not h hi
  | succ d =>
    simp only [waitsDeep, Bool.or_eq_true] at h
    rcases h with h | h
    · exact waitsOn_not h hi
    · obtain ⟨k, _, hk⟩ := List.any_eq_true.1 h
      simp only [Bool.and_eq_true, Bool.not_eq_true'] at hk
      exact waitsOn_not hk.1.2 hk.1.1
theorem waitsBy_not {i : Nat} {L : Array Bool} (hw : waitsBy md ops t i L = true) (hi : L.getD i true = false) : t ∉ Region.ready md ops L := waitsDeep_not hi _ _ hw
theorem waitsDeep_keep {i x : Nat} {L : Array Bool} (hi : L.getD i true = false) (hx : x ∈ Region.ready md ops L) : ∀ (d j : Nat), waitsDeep md ops i L d j = true → waitsDeep md ops i (L.setIfInBounds x true) d j = true := by
  intro d
  induction d with
  | zero => intro j h; exact h
  | succ d ih =>
    intro j h
    simp only [waitsDeep, Bool.or_eq_true] at h ⊢
    rcases h with h | h
    · exact .inl h
    · right
      obtain ⟨k, hkr, hk⟩ := List.any_eq_true.1 h
      simp only [Bool.and_eq_true, Bool.not_eq_true'] at hk
      refine List.any_eq_true.2 ⟨k, hkr, ?_⟩
      have hne : x ≠ k := fun e => waitsDeep_not hi d k hk.2 (e ▸ hx)
      simp only [Bool.and_eq_true, Bool.not_eq_true']
      exact ⟨⟨by rw [getD_set_ne true hne]; exact hk.1.1, hk.1.2⟩, ih k hk.2⟩
theorem waitsBy_keep {i k : Nat} {L : Array Bool} (hw : waitsBy md ops t i L = true) (hi : L.getD i true = false) (hk : k ∈ Region.ready md ops L) : waitsBy md ops t i (L.setIfInBounds k true) = true := waitsDeep_keep hi hk _ _ hw
theorem sink_first {i : Nat} {o : Oper} {v : Value} (ho : ops[i]? = some o) (hs : Region.noSelect ops = true) (hit : i ≠ t)
    (hQ : ∀ c a w, Q (.panic c) (a.put o.dst v) w → Q (.panic c) a w) : ∀ (n : Nat) (L : Array Bool) (a : Act) (w : World),
      (∀ j p, ops[j]? = some p → j ≠ i → L.getD j true = false → (∀ e ∈ p.after, Region.binds md e = true → e.on ≠ i) → o.apart ops p = true) →
      waitsBy md ops t i L = true → i ∈ Region.ready md ops L → YieldsIf P ops C o v a → C w → wpSink P md ops Q C t n (L.setIfInBounds i true) (a.put o.dst v) w → wpSink P md ops Q C t (n + 1) L a w := by
  intro n
  induction n with
  | zero =>
    intro L a w _ _ hr hy hC H
    constructor
    · intro h; rw [h] at hr; exact absurd hr List.not_mem_nil
    · intro j hj
      rcases Decidable.em (j = i) with rfl | e
      · exact hy.wpOp ho hC ⟨fun _ => hC, H⟩
      · have h2 := ready_mono hj e
        rw [H.1] at h2
        exact absurd h2 List.not_mem_nil
  | succ n ih =>
    intro L a w hf hwt hr hy hC H
    constructor
    · intro h; rw [h] at hr; exact absurd hr List.not_mem_nil
    · intro j hj
      rcases Decidable.em (j = i) with rfl | e
      · exact hy.wpOp ho hC ⟨fun _ => hC, H⟩
      · have hun := (mem_ready.1 hr).1
        have hjt : j ≠ t := fun h => waitsBy_not hwt hun (h ▸ hj)
        obtain ⟨hju, p, hp, hall⟩ := mem_ready.1 hj
        have hno : ∀ e ∈ p.after, Region.binds md e = true → e.on ≠ i := fun e he hb h => by
          have h1 := hall e he hb
          rw [h] at h1
          rcases Nat.lt_or_ge i L.size with h' | h'
          · simp [h'] at hun h1; rw [hun] at h1; cases h1
          · simp [Array.getElem?_eq_none h'] at h1
        have h2 := wpOp_putIf hp (hf j p hp e hju hno) (fun cs b => Region.noSelect_spec hs i o cs b ho) (fun cs b => Region.noSelect_spec hs j p cs b hp) hQ hy (H.2 j (ready_mono hj e))
        refine wpOp_mono (fun b u g => ?_) h2
        have hCu := g.2.1 hjt
        refine ⟨fun _ => hCu, ih _ b u (fun k q hk hki hku hkn => ?_) (waitsBy_keep hwt hun hj) (ready_mono hr (Ne.symm e)) g.1 hCu ?_⟩
        · refine hf k q hk hki ?_ hkn
          rcases Decidable.em (j = k) with rfl | hjk
          · exact hju
          · rw [getD_set_ne true hjk] at hku; exact hku
        · rw [Array.setIfInBounds_comm _ _ e]
          exact g.2.2

def wpMixS (P : Program) (ops : Array Oper) (Q : Exit → Act → World → Prop) (C : World → Prop) : List Bool → List Oper → Act → World → Prop
  | _, [], a, w => Q .normal a w
  | [], _ :: _, _, _ => False
  | true :: ks, o :: l, a, w => if Region.wanted o (yielded ops a.tmps) then o.quiet P a C (fun a' => wpMixS P ops Q C ks l a' w) else wpMixS P ops Q C ks l (a.put o.dst undef) w
  | false :: ks, o :: l, a, w => if Region.wanted o (yielded ops a.tmps) then o.wp P a w (fun a' w' => (l ≠ [] → C w') ∧ wpMixS P ops Q C ks l a' w') Q else wpMixS P ops Q C ks l (a.put o.dst undef) w
def mixSB (md : Region.Mode) (ops : Array Oper) (t : Nat) : List Nat → List Bool → Array Bool → Bool
  | [], _, L => (Region.ready md ops L).isEmpty
  | i :: is, true :: ks, L => (Region.ready md ops L).contains i && Region.free md ops L i && ((ops[i]?).map valueOnly).getD false && !(i == t) && waitsBy md ops t i L && mixSB md ops t is ks (L.setIfInBounds i true)
  | i :: is, false :: ks, L => (Region.ready md ops L == [i]) && (is.isEmpty == (i == t)) && mixSB md ops t is ks (L.setIfInBounds i true)
  | _ :: _, [], _ => false
theorem sink_of_mix (hs : Region.noSelect ops = true) (hQ : ∀ (c : _) (a : Act) (d : Option Tmp) (v : Value) (w : World), Q (.panic c) (a.put d v) w → Q (.panic c) a w) :
    ∀ (is : List Nat) (ks : List Bool) (l : List Oper) (L : Array Bool) (a : Act) (w : World), (∀ j : Nat, l[j]? = (is[j]?).bind (fun i => ops[i]?)) → l.length = is.length →
      mixSB md ops t is ks L = true → (l ≠ [] → C w) → wpMixS P ops Q C ks l a w → wpSink P md ops Q C t is.length L a w := by
  intro is
  induction is with
  | nil =>
    intro ks l L a w _ hn hB _ h
    obtain rfl : l = [] := List.eq_nil_of_length_eq_zero hn
    have h' : Q .normal a w := by cases ks <;> exact h
    exact ⟨by simpa [mixSB] using hB, h'⟩
  | cons i is ih =>
    intro ks l L a w hl hn hB hC h
    cases l with
    | nil => simp at hn
    | cons o l =>
      have hC := hC (by simp)
      have ho : ops[i]? = some o := by simpa using (hl 0).symm
      have hl' : ∀ j : Nat, l[j]? = (is[j]?).bind (fun i => ops[i]?) := fun j => by simpa using hl (j + 1)
      have hn' : l.length = is.length := by simpa using hn
      cases ks with
      | nil => simp [mixSB] at hB
      | cons k ks =>
        cases k with
        | true =>
          simp only [mixSB, Bool.and_eq_true, ho, Option.map_some, Option.getD_some, Bool.not_eq_true', beq_eq_false_iff_ne] at hB
          obtain ⟨⟨⟨⟨⟨hr, hf⟩, hv⟩, hit⟩, hwt⟩, hB'⟩ := hB
          simp only [wpMixS] at h
          have hr' : i ∈ Region.ready md ops L := by simpa using hr
          by_cases hw : Region.wanted o (yielded ops a.tmps) = true
          · rw [if_pos hw] at h
            obtain ⟨v, h1, h2⟩ := yieldsIf_of_quiet hv h
            exact sink_first ho hs hit (fun c a w => hQ c a _ _ w) _ L a w (Region.free_spec ho hf) hwt hr' (.inl ⟨hw, h1⟩) hC (ih ks l _ _ w hl' hn' hB' (fun _ => hC) h2)
          · rw [if_neg hw] at h
            exact sink_first ho hs hit (fun c a w => hQ c a _ _ w) _ L a w (Region.free_spec ho hf) hwt hr' (.inr ⟨by simpa using hw, rfl⟩) hC (ih ks l _ _ w hl' hn' hB' (fun _ => hC) h)
        | false =>
          simp only [mixSB, Bool.and_eq_true, beq_iff_eq] at hB
          obtain ⟨⟨hr, he⟩, hB'⟩ := hB
          simp only [wpMixS] at h
          have hlt : i ≠ t → l ≠ [] := fun hne hl0 => by
            subst hl0
            have : is = [] := List.eq_nil_of_length_eq_zero hn'.symm
            rw [this] at he
            exact hne (by simpa using he.symm)
          refine ⟨fun h0 => by rw [h0] at hr; simp at hr, fun j hj => ?_⟩
          rw [hr, List.mem_singleton] at hj
          subst hj
          unfold wpOp
          simp only [ho]
          by_cases hw : Region.wanted o (yielded ops a.tmps) = true
          · rw [if_pos hw] at h ⊢
            exact .inl (Oper.wp_mono (fun a' w' hh => ⟨fun hne => hh.1 (hlt hne), ih ks l _ a' w' hl' hn' hB' hh.1 hh.2⟩) h)
          · rw [if_neg hw] at h ⊢
            exact ⟨fun _ => hC, ih ks l _ _ w hl' hn' hB' (fun _ => hC) h⟩
structure MixS (P : Program) (ops : Array Oper) (Q : Exit → Act → World → Prop) (C : World → Prop) (ks : List Bool) (l : List Oper) (a : Act) (w : World) : Prop where
  out : wpMixS P ops Q C ks l a w
theorem wp_region_sink {id : Nat} {l : List Oper} {a : Act} {w : World} (is : List Nat) (ks : List Bool) (t : Nat) (hm : P.follows .mixedOrders = true) (hs : Region.noSelect l.toArray = true)
    (hB : (is.all (fun i => decide (i < l.length)) && decide (is.length = l.length) && mixSB .any l.toArray t is ks (Array.replicate l.length false)) = true)
    (hQ : ∀ (c : _) (a : Act) (d : Option Tmp) (v : Value) (w : World), Q (.panic c) (a.put d v) w → Q (.panic c) a w) (hC : C w.drew) (h : MixS P l.toArray Q C ks (is.map fun i => l.getD i default) a w.drew) : (Code.region id l.toArray true).wp P Q a w := by
  simp only [Bool.and_eq_true, decide_eq_true_eq, List.all_eq_true] at hB
  obtain ⟨⟨h1, h2⟩, h3⟩ := hB
  refine wp_region_any hm (any_of_sink (C := C) (t := t) _ _ _ _ ?_)
  have := sink_of_mix (md := .any) hs hQ is ks (is.map fun i => l.getD i default) (Array.replicate l.length false) a w.drew (fun j => by
    rw [List.getElem?_map]
    cases hj : is[j]? with
    | none => rfl
    | some i =>
      have hi := h1 i (List.mem_of_getElem? hj)
      simp [hi, List.getD_eq_getElem?_getD]) (by simp) h3 (fun _ => hC) h.out
  rw [h2] at this
  simpa using this
theorem wpMixS_pure {ks : List Bool} {o : Oper} {l : List Oper} {a : Act} {w : World} (hw : Region.wanted o (yielded ops a.tmps) = true)
    (h : ∀ K : Act → Prop, (∀ a', MixS P ops Q C ks l a' w → K a') → o.quiet P a C K) : MixS P ops Q C (true :: ks) (o :: l) a w := by
  refine ⟨?_⟩
  simp only [wpMixS]; rw [if_pos hw]; exact h _ fun _ h => h.out
theorem wpMixS_skip {k : Bool} {ks : List Bool} {o : Oper} {l : List Oper} {a : Act} {w : World} (hw : Region.wanted o (yielded ops a.tmps) = false)
    (h : ∀ K : Act → Prop, (∀ a', MixS P ops Q C ks l a' w → K a') → K (a.put o.dst undef)) : MixS P ops Q C (k :: ks) (o :: l) a w := by
  have h' : wpMixS P ops Q C ks l (a.put o.dst undef) w := h _ fun _ h => h.out
  refine ⟨?_⟩
  cases k <;> (simp only [wpMixS]; rw [if_neg (by rw [hw]; exact Bool.false_ne_true)]; exact h')
theorem wpMixS_act {ks : List Bool} {o : Oper} {l : List Oper} {a : Act} {w : World} (hw : Region.wanted o (yielded ops a.tmps) = true)
    (h : ∀ K : Act → World → Prop, (∀ a' w', C w' → MixS P ops Q C ks l a' w' → K a' w') → o.wp P a w K Q) : MixS P ops Q C (false :: ks) (o :: l) a w := by
  refine ⟨?_⟩
  simp only [wpMixS]; rw [if_pos hw]; exact h _ fun _ _ hc h => ⟨fun _ => hc, h.out⟩
theorem wpMixS_last {ks : List Bool} {o : Oper} {a : Act} {w : World} (hw : Region.wanted o (yielded ops a.tmps) = true)
    (h : ∀ K : Act → World → Prop, (∀ a' w', Q .normal a' w' → K a' w') → o.wp P a w K Q) : MixS P ops Q C (false :: ks) [o] a w := by
  refine ⟨?_⟩
  simp only [wpMixS]; rw [if_pos hw]; exact h _ fun _ _ hq => ⟨fun h0 => absurd rfl h0, by cases ks <;> exact hq⟩
theorem mixS_world {ks : List Bool} {l : List Oper} {a : Act} {w : World} (X : World → Prop) (hX : X w) (h : ∀ N, X N → MixS P ops Q C ks l a N) : MixS P ops Q C ks l a w := h w hX
end
end Go.Proofs.Ytjfaafoldllppaa
