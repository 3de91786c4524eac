/- Parts of the proof: Sv, TInt64, Seg, Cl, Iter, Cm, Cn, Le, EqString, WCommandNames, Law, LawS, LawL, Dr, Open. -/
import Derived.Test.YticoiaibcgpbjaaGreatDoorG01
import Derived.Test.YticoiaibcgpbjaaGreatDoorG02
import Derived.RangeFuncBox
import Derived.RangeFuncLeaves
import Derived.Shelf.Abstract
import Derived.OwnWalkIn
import Derived.TacticsInMore
import Derived.LoopNIn
import Derived.LoopIn
import Derived.Maps.AppendAt
import Derived.Sort.OwnSorted
import Derived.OrdersHeld
import Derived.Deep.RegionHeld
import Derived.Deep.AppendLies
import Derived.Shelf.SlGeneric
import Derived.Shelf.SlIter.Nil
import Derived.Shelf.SlIter.Sorted
import Derived.Ground.GgzProg
import Derived.Test.YticoiaibcgpbjaaGreatDoorProg
import Derived.Maps.OwnOps
import Derived.Maps.OwnSet
import Derived.StringKeys
import Derived.ProofKit
import Derived.ChangeSame
import Derived.HandedShaped
import Derived.Shelf.Vars
import Derived.LaidMore
import Derived.Stop.Joined
import Derived.Laws.Tables
import GoSem.PinnedTables
import Derived.Deep.Slices
import Derived.Deep.Fields
import Derived.OpenShut
namespace Go.Proofs.YticoiaibcgpbjaaGreatDoor
open Go.RowKit Go.Shelf Go.Sort
set_option linter.unusedVariables false
attribute [local go_sem] Oper.semAt_some

/-! ### slices.Sort -/
theorem encStr_map (L : List ByteArray) : L.flatMap fStr.enc = (L.map (fun x : ByteArray => x.data.toList)).map encStr := by
  induction L with
  | nil => rfl
  | cons x L ih => rw [List.flatMap_cons, ih]; rfl
theorem srtF_map (L : List ByteArray) : (srtF L).map (fun x : ByteArray => x.data.toList) = (L.map (fun x : ByteArray => x.data.toList)).mergeSort (fun x y => decide (x ≤ y)) := by
  unfold srtF
  refine List.map_mergeSort (fun a _ b _ => ?_)
  rw [ltS_eq, Bool.eq_iff_iff]
  simp only [Bool.not_eq_true', decide_eq_false_iff_not, decide_eq_true_eq]
  exact Iff.rfl
theorem sortS_any (g cap base : Nat) (L : List ByteArray) (w : World) (h : Own fStr w base 9 (.slice (some ⟨g, 0, none⟩) L.length cap) L) (hl : L.length ≤ 1000000) :
    Calls Tryz.prog 14 #[.slice (some ⟨g, 0, none⟩) L.length cap] w fun e w' => e = .returned (.tuple #[]) ∧ Own fStr w' base 9 (.slice (some ⟨g, 0, none⟩) L.length cap) (srtF L) ∧ Below base w w' := by
  rcases h.2 with ⟨hv, _⟩ | ⟨g', cap', cur, hv, hg, hh, hnc, hcm, hsz, hxs⟩
  · cases hv
  · injection hv with hv1 _ hv2
    injection hv1 with hv1
    injection hv1 with hv1 _ _
    subst hv1 hv2
    have hgl : g < w.heap.size := (Array.getElem?_eq_some_iff.1 hh).1
    have hll : (L.map (fun x : ByteArray => x.data.toList)).length = L.length := List.length_map _
    have hH : Holds encStr w g 0 (L.map (fun x : ByteArray => x.data.toList)).toArray := holds_of_block hh (by rw [hll, ← encStr_map]; have e1 : fStr.n = 1 := rfl; rw [e1, Nat.mul_one] at hxs; exact hxs)
    have c := Tryz.slices_Sort_string g 0 cap (L.map (fun x : ByteArray => x.data.toList)) w hH hgl (by rw [hll]; omega)
    rw [hll, ← srtF_map] at c
    refine c.mono ?_
    rintro e w' ⟨rfl, n, os, rfl⟩
    refine ⟨rfl, ?_, (Below.refl base w).grown (grownBy_sorted _) (by omega) (fun j hj => by cases hj; exact hg)⟩
    have h2 := ownsRow_sorted (n := n) (os := os) (w := w) (base := base) (ss := L.map (fun x : ByteArray => x.data.toList)) (ts := (srtF L).map (fun x : ByteArray => x.data.toList)) (by simp [srtF_len]) hg hh (by rw [hll]; exact hnc) hcm hsz
    rw [hll, ← encStr_map] at h2
    show World.ownsRow _ base _ 1 _ (srtF L).length _
    rw [srtF_len]
    exact h2
theorem map_flat (L : List ByteArray) : L.map Value.string = L.flatMap fStr.enc := by
  induction L with
  | nil => rfl
  | cons x L ih => rw [List.map_cons, List.flatMap_cons, ih]; rfl
def slC (xs : List ByteArray) : Int := if linesB xs then 0 else 1
def slF (xs : List ByteArray) : List ByteArray := if linesB xs then srtF xs else []
theorem slF_len {xs : List ByteArray} (h : xs.length ≤ 1048576) : (slF xs).length ≤ 100000000000 := by
  unfold slF; split
  · rw [srtF_len]; omega
  · simp
theorem srtF_ok {xs : List ByteArray} (h : ∀ x ∈ xs, fStr.ok x) : ∀ x ∈ srtF xs, fStr.ok x := fun x hx => h x ((srtF_perm xs).mem_iff.1 hx)
theorem linesB_len {xs : List ByteArray} (h : linesB xs = true) : xs.length ≤ 200 := by
  unfold linesB at h
  simp only [Bool.and_eq_true, decide_eq_true_eq] at h
  exact h.2

end Go.Proofs.YticoiaibcgpbjaaGreatDoor

namespace Go.Proofs.YticoiaibcgpbjaaGreatDoor
open Go.RowKit
set_option linter.unusedVariables false

def totInt64S (xs : List Int) : Nat := xs.length




def mkInt64 (k : Int) : Int := k
def marksInt64 (k : Int) (n : Nat) : List Int := (List.range n).map fun (i : Nat) => mkInt64 (k + 1 * (i : Int))

theorem marksInt64_get (k0 : Int) (n i : Nat) (h : i < (marksInt64 k0 n).length) : (marksInt64 k0 n)[i] = mkInt64 (k0 + 1 * (i : Int)) := by
  simp [marksInt64]
theorem marksInt64_len (k0 : Int) (n : Nat) : (marksInt64 k0 n).length = n := by simp [marksInt64]



end Go.Proofs.YticoiaibcgpbjaaGreatDoor

namespace Go.Proofs.YticoiaibcgpbjaaGreatDoor
open Go.RowKit

/-- Operations that yield a value and do nothing else. -/
def valueOnly (o : Oper) : Bool :=
  match o.op with
  | .move _ | .assign _ | .pick .. | .load .. | .binOp .. | .unOp .. | .convert .. | .slice .. | .fieldAddr .. | .field .. | .indexAddr .. | .index .. | .lookup .. | .build .. | .extract .. | .typeAssert .. | .sliceToArrayPointer .. | .makeInterface .. => true
  | .nilCheck _ => true
  | .call { callee := .builtin b, .. } => match b with | .len | .cap | .max | .min => true | _ => false
  | _ => false

theorem value_of_map {P : Program} {s : Sem Value} {w w' : World} {n : Next} (h : ((do pure (.value (← s)) : Sem Next)).run P w = .ok n w') : ∃ v, n = .value v := by
  rw [Sem.run_bind] at h
  generalize s.run P w = r at h
  cases r with
  | ok v w1 => exact ⟨v, by injection h with h1 _; exact h1.symm⟩
  | halt x w1 => cases h

theorem value_of_valueOnly {P : Program} {ρ : Operand → Value} {o : Oper} {w w' : World} {n : Next} (hv : valueOnly o = true) (h : (execOp ρ o).run P w = .ok n w') : ∃ v, n = .value v := by
  obtain ⟨dst, op, ty, pos, after, guard⟩ := o
  unfold valueOnly at hv
  cases op <;> simp only [Bool.false_eq_true] at hv <;> try contradiction
  case move x => exact ⟨_, by injection h with h1 _; exact h1.symm⟩
  case assign x => exact ⟨_, by injection h with h1 _; exact h1.symm⟩
  case nilCheck x =>
    simp only [execOp] at h
    split at h
    all_goals first
      | (simp [runtimePanic] at h; done)
      | (exact ⟨_, by injection h with h1 _; exact h1.symm⟩)
      | skip
    all_goals
      split at h
      all_goals first
        | (simp [runtimePanic] at h; done)
        | (exact ⟨_, by injection h with h1 _; exact h1.symm⟩)
        | skip
    rename_i t1 w1 _
    rw [Sem.run_bind] at h
    generalize program.run P w = r1 at h
    cases r1 with
    | halt x w1 => cases h
    | ok p w1 =>
      rw [Result.andThen_ok, Sem.run_bind] at h
      generalize Sem.run P (nilAhead _ _ _ _) w1 = r2 at h
      cases r2 with
      | halt x w1 => cases h
      | ok b w2 =>
        rw [Result.andThen_ok] at h
        split at h
        · simp [unsupported] at h
        · exact ⟨_, by injection h with h1 _; exact h1.symm⟩
  case call c =>
    obtain ⟨callee, args, ats⟩ := c
    cases callee <;> simp only [Bool.false_eq_true] at hv <;> try contradiction
    rename_i b
    cases b
    all_goals first
      | exact absurd hv (by decide)
      | exact value_of_map h
  case pick c a b =>
    simp only [execOp] at h
    rw [Sem.run_bind] at h
    generalize (asBool (ρ c)).run P w = r at h
    cases r with
    | ok v w1 => exact ⟨_, by injection h with h1 _; exact h1.symm⟩
    | halt x w1 => cases h
  all_goals exact value_of_map h

section
variable {P : Program} {ops : Array Oper} {Q : Exit → Act → World → Prop} {md : Region.Mode} {C : World → Prop}

/-- The walk: 'true': the operation only looks, and yields one value in every world of the class; 'false': it acts, in the world at hand, and leaves one of the class. -/
def wpMix (P : Program) (ops : Array Oper) (Q : Exit → Act → World → Prop) (C : World → Prop) : List Bool → List Oper → Act → World → Prop
  | _, [], a, w => Q .normal a w
  | [], _ :: _, _, _ => False
  | true :: ks, o :: l, a, w => if Region.wanted o (yielded ops a.tmps) then o.quiet P a C (fun a' => wpMix P ops Q C ks l a' w) else wpMix P ops Q C ks l (a.put o.dst undef) w
  | false :: ks, o :: l, a, w => if Region.wanted o (yielded ops a.tmps) then o.wp P a w (fun a' w' => C w' ∧ wpMix P ops Q C ks l a' w') Q else wpMix P ops Q C ks l (a.put o.dst undef) w

/-- Is this order of the walk one that serves for all? -/
def mixB (md : Region.Mode) (ops : Array Oper) : List Nat → List Bool → Array Bool → Bool
  | [], _, listed => (Region.ready md ops listed).isEmpty
  | i :: is, true :: ks, listed => (Region.ready md ops listed).contains i && Region.free md ops listed i && ((ops[i]?).map valueOnly).getD false && mixB md ops is ks (listed.setIfInBounds i true)
  | i :: is, false :: ks, listed => (Region.ready md ops listed == [i]) && mixB md ops is ks (listed.setIfInBounds i true)
  | _ :: _, [], _ => false

theorem yieldsIf_of_quiet {o : Oper} {a : Act} {K : Act → Prop} (hv : valueOnly o = true) (h : o.quiet P a C K) : ∃ v, (∀ w, C w → (execOp a.eval o).run P w = .ok (.value v) w) ∧ K (a.put o.dst v) := by
  obtain ⟨v, h1, h2⟩ := h
  refine ⟨v, fun w hw => ?_, h2⟩
  have h3 := h1 w hw
  unfold Oper.quietAt at h3
  generalize hr : (execOp a.eval o).run P w = r at h3
  cases r with
  | halt x w' => simp only [Oper.quietUpon] at h3
  | ok n w' =>
    obtain ⟨u, rfl⟩ := value_of_valueOnly hv hr
    simp only [Oper.quietUpon] at h3
    obtain ⟨rfl, rfl⟩ := h3
    rfl

theorem wpAnyH_of_mix (hs : Region.noSelect ops = true) (hQ : ∀ (c : _) (a : Act) (d : Option Tmp) (v : Value) (w : World), Q (.panic c) (a.put d v) w → Q (.panic c) a w) :
    ∀ (is : List Nat) (ks : List Bool) (l : List Oper) (listed : Array Bool) (a : Act) (w : World), (∀ j : Nat, l[j]? = (is[j]?).bind (fun i => ops[i]?)) → l.length = is.length →
      mixB md ops is ks listed = true → C w → wpMix P ops Q C ks l a w → wpAnyH P md ops Q C is.length listed a w := by
  intro is
  induction is with
  | nil =>
    intro ks l listed a w _ hn hB _ h
    obtain rfl : l = [] := List.eq_nil_of_length_eq_zero hn
    have h' : Q .normal a w := by cases ks <;> exact h
    exact ⟨by simpa [mixB] using hB, h'⟩
  | cons i is ih =>
    intro ks l listed a w hl hn hB hC h
    cases l with
    | nil => simp at hn
    | cons o l =>
      have ho : ops[i]? = some o := by simpa using (hl 0).symm
      have hl' : ∀ j : Nat, l[j]? = (is[j]?).bind (fun i => ops[i]?) := fun j => by simpa using hl (j + 1)
      have hn' : l.length = is.length := by simpa using hn
      cases ks with
      | nil => simp [mixB] at hB
      | cons k ks =>
        cases k with
        | true =>
          simp only [mixB, Bool.and_eq_true, ho, Option.map_some, Option.getD_some] at hB
          obtain ⟨⟨⟨hr, hf⟩, hv⟩, hB'⟩ := hB
          simp only [wpMix] at h
          by_cases hw : Region.wanted o (yielded ops a.tmps) = true
          · rw [if_pos hw] at h
            obtain ⟨v, h1, h2⟩ := yieldsIf_of_quiet hv h
            exact wpAnyH_take ho hs hf hr (fun c a w => hQ c a _ _ w) (.inl ⟨hw, h1⟩) hC (ih ks l _ _ w hl' hn' hB' hC h2)
          · rw [if_neg hw] at h
            exact wpAnyH_take ho hs hf hr (fun c a w => hQ c a _ _ w) (.inr ⟨by simpa using hw, rfl⟩) hC (ih ks l _ _ w hl' hn' hB' hC h)
        | false =>
          simp only [mixB, Bool.and_eq_true] at hB
          obtain ⟨hr, hB'⟩ := hB
          simp only [wpMix] at h
          refine wpAnyH_all (rs := [i]) (by simpa using hr) (by simp) (fun j hj => ?_)
          obtain rfl : j = i := by simpa using hj
          unfold wpOp
          simp only [ho]
          by_cases hw : Region.wanted o (yielded ops a.tmps) = true
          · rw [if_pos hw] at h ⊢
            exact .inl (Oper.wp_mono (fun a' w' hh => ⟨hh.1, ih ks l _ a' w' hl' hn' hB' hh.1 hh.2⟩) h)
          · rw [if_neg hw] at h ⊢
            exact ⟨hC, ih ks l _ _ w hl' hn' hB' hC h⟩

/-- The same, closed to whoever would unfold it. -/
structure Mix (P : Program) (ops : Array Oper) (Q : Exit → Act → World → Prop) (C : World → Prop) (ks : List Bool) (l : List Oper) (a : Act) (w : World) : Prop where
  out : wpMix P ops Q C ks l a w
/-- A region, in the text's order. -/
theorem wp_region_mix {id : Nat} {l : List Oper} {a : Act} {w : World} (ks : List Bool) (hm : P.follows .mixedOrders = true) (hs : Region.noSelect l.toArray = true)
    (hB : mixB .any l.toArray (List.range l.length) ks (Array.replicate l.length false) = true)
    (hQ : ∀ (c : _) (a : Act) (d : Option Tmp) (v : Value) (w : World), Q (.panic c) (a.put d v) w → Q (.panic c) a w) (hC : C w.drew) (h : Mix P l.toArray Q C ks l a w.drew) : (Code.region id l.toArray true).wp P Q a w := by
  refine wp_region_held (S := C) hm ?_
  have := wpAnyH_of_mix (md := .any) hs hQ (List.range l.length) ks l (Array.replicate l.length false) a w.drew (fun j => by
    by_cases hj : j < l.length
    · simp [hj]
    · simp [hj]) (by simp) hB hC h.out
  simpa using this
/-- A region, in an order of our own. -/
theorem wp_region_mixed {id : Nat} {l : List Oper} {a : Act} {w : World} (is : List Nat) (ks : List Bool) (hm : P.follows .mixedOrders = true) (hs : Region.noSelect l.toArray = true)
    (hB : (is.all (fun i => decide (i < l.length)) && decide (is.length = l.length) && mixB .any l.toArray is ks (Array.replicate l.length false)) = true)
    (hQ : ∀ (c : _) (a : Act) (d : Option Tmp) (v : Value) (w : World), Q (.panic c) (a.put d v) w → Q (.panic c) a w) (hC : C w.drew) (h : Mix P l.toArray Q C ks (is.map fun i => l.getD i default) a w.drew) : (Code.region id l.toArray true).wp P Q a w := by
  simp only [Bool.and_eq_true, decide_eq_true_eq, List.all_eq_true] at hB
  obtain ⟨⟨h1, h2⟩, h3⟩ := hB
  refine wp_region_held (S := C) hm ?_
  have := wpAnyH_of_mix (md := .any) hs hQ is ks (is.map fun i => l.getD i default) (Array.replicate l.length false) a w.drew (fun j => by
    rw [List.getElem?_map]
    cases hj : is[j]? with
    | none => rfl
    | some i =>
      have hi := h1 i (List.mem_of_getElem? hj)
      simp [hi, List.getD_eq_getElem?_getD]) (by simp) h3 hC h.out
  rw [h2] at this
  simpa using this

theorem wpMix_pure {ks : List Bool} {o : Oper} {l : List Oper} {a : Act} {w : World} (hw : Region.wanted o (yielded ops a.tmps) = true)
    (h : ∀ K : Act → Prop, (∀ a', Mix P ops Q C ks l a' w → K a') → o.quiet P a C K) : Mix P ops Q C (true :: ks) (o :: l) a w := by
  refine ⟨?_⟩
  simp only [wpMix]; rw [if_pos hw]; exact h _ fun _ h => h.out
theorem wpMix_skip {k : Bool} {ks : List Bool} {o : Oper} {l : List Oper} {a : Act} {w : World} (hw : Region.wanted o (yielded ops a.tmps) = false)
    (h : ∀ K : Act → Prop, (∀ a', Mix P ops Q C ks l a' w → K a') → K (a.put o.dst undef)) : Mix P ops Q C (k :: ks) (o :: l) a w := by
  have h' : wpMix P ops Q C ks l (a.put o.dst undef) w := h _ fun _ h => h.out
  refine ⟨?_⟩
  cases k <;> (simp only [wpMix]; rw [if_neg (by rw [hw]; exact Bool.false_ne_true)]; exact h')
theorem wpMix_act {ks : List Bool} {o : Oper} {l : List Oper} {a : Act} {w : World} (hw : Region.wanted o (yielded ops a.tmps) = true)
    (h : ∀ K : Act → World → Prop, (∀ a' w', C w' → Mix P ops Q C ks l a' w' → K a' w') → o.wp P a w K Q) : Mix P ops Q C (false :: ks) (o :: l) a w := by
  refine ⟨?_⟩
  simp only [wpMix]; rw [if_pos hw]; exact h _ fun _ _ hc h => ⟨hc, h.out⟩
theorem mix_world {ks : List Bool} {l : List Oper} {a : Act} {w : World} (X : World → Prop) (hX : X w) (h : ∀ N, X N → Mix P ops Q C ks l a N) : Mix P ops Q C ks l a w := h w hX
/-- The world gets a name, and what is known of it is said. -/
theorem at_world {c : Code} {a : Act} {w : World} (X : World → Prop) (hX : X w) (h : ∀ W, X W → c.wp P Q a W) : c.wp P Q a w := h w hX
theorem wpMix_nil {ks : List Bool} {a : Act} {w : World} (h : Q .normal a w) : Mix P ops Q C ks [] a w := by refine ⟨?_⟩; cases ks <;> exact h
end
end Go.Proofs.YticoiaibcgpbjaaGreatDoor

namespace Go.Proofs.YticoiaibcgpbjaaGreatDoor
open Go.RowKit
set_option linter.unusedVariables false

/-! ### different lines in order, and how many of each -/
def cntS (L : List ByteArray) (s : ByteArray) : Nat := L.countP (fun x => decide (x = s))
theorem cntS_snoc (L : List ByteArray) (x s : ByteArray) : cntS (L ++ [x]) s = cntS L s + if x = s then 1 else 0 := by
  unfold cntS; rw [List.countP_append]; simp [List.countP_cons]
theorem cntS_zero {L : List ByteArray} {s : ByteArray} (h : s ∉ L) : cntS L s = 0 := by
  unfold cntS; rw [List.countP_eq_zero]; intro x hx he; simp at he; exact h (he ▸ hx)
theorem cntS_le (L : List ByteArray) (s : ByteArray) : cntS L s ≤ L.length := List.countP_le_length
theorem cntS_perm {L M : List ByteArray} (h : L.Perm M) (s : ByteArray) : cntS L s = cntS M s := h.countP_eq _
def SSrt (L : List ByteArray) : Prop := L.Pairwise (fun a b => ltS a b = true)
theorem SSrt.nodup {L : List ByteArray} (h : SSrt L) : L.Nodup := by
  refine List.Pairwise.imp ?_ h
  intro a b h e; subst e; rw [ltS_irrefl] at h; cases h
theorem SSrt.srt {L : List ByteArray} (h : SSrt L) : Srt L := h.imp (fun h => ltS_asymm h)
theorem ssrt_of {L : List ByteArray} (h : Srt L) (hn : L.Nodup) : SSrt L := by
  unfold SSrt
  have h2 := List.Pairwise.and h hn
  refine h2.imp ?_
  rintro a b ⟨h1, h3⟩
  cases h4 : ltS a b with
  | true => rfl
  | false => exact absurd (ltS_tri h4 h1) h3
theorem ssrt_unique {a b : List ByteArray} (ha : SSrt a) (hb : SSrt b) (h : ∀ s, s ∈ a ↔ s ∈ b) : a = b :=
  srt_unique ha.srt hb.srt ((List.perm_ext_iff_of_nodup ha.nodup hb.nodup).2 h)
def insU (x : ByteArray) (L : List ByteArray) : List ByteArray := if L.any (fun y => decide (y = x)) = true then L else x :: L
theorem insU_spec (xs : List ByteArray) : (xs.foldr insU []).Nodup ∧ ∀ s, s ∈ xs.foldr insU [] ↔ s ∈ xs := by
  induction xs with
  | nil => simp
  | cons x xs ih =>
    obtain ⟨h1, h2⟩ := ih
    rw [List.foldr_cons]
    generalize xs.foldr insU [] = M at *
    unfold insU
    split
    · rename_i h
      replace h : x ∈ M := by
        rw [List.any_eq_true] at h
        obtain ⟨y, hy, e⟩ := h
        simp at e; exact e ▸ hy
      refine ⟨h1, fun s => ?_⟩
      rw [h2, List.mem_cons]
      exact ⟨.inr, fun hs => by rcases hs with rfl | hs; exact (h2 _).1 h; exact hs⟩
    · rename_i h
      replace h : x ∉ M := fun hx => h (List.any_eq_true.2 ⟨x, hx, by simp⟩)
      exact ⟨List.nodup_cons.2 ⟨h, h1⟩, fun s => by rw [List.mem_cons, List.mem_cons]; exact or_congr Iff.rfl (h2 s)⟩
/-- The different lines, in order. -/
def cdF (xs : List ByteArray) : List ByteArray := srtF (xs.foldr insU [])
theorem cdF_ssrt (xs : List ByteArray) : SSrt (cdF xs) := ssrt_of (srtF_srt _) ((srtF_perm _).nodup_iff.2 (insU_spec xs).1)
theorem cdF_mem (xs : List ByteArray) (s : ByteArray) : s ∈ cdF xs ↔ s ∈ xs := ((srtF_perm _).mem_iff).trans ((insU_spec xs).2 s)
theorem cdF_of {xs L : List ByteArray} (h : SSrt L) (hm : ∀ s, s ∈ L ↔ s ∈ xs) : L = cdF xs := ssrt_unique h (cdF_ssrt xs) (fun s => (hm s).trans (cdF_mem xs s).symm)
theorem insU_len (xs : List ByteArray) : (xs.foldr insU []).length ≤ xs.length := by
  induction xs with
  | nil => simp
  | cons x xs ih =>
    rw [List.foldr_cons]
    generalize xs.foldr insU [] = M at *
    unfold insU
    split
    · simp; omega
    · simp; omega
theorem cdF_len (xs : List ByteArray) : (cdF xs).length ≤ xs.length := by
  unfold cdF; rw [srtF_len]; exact insU_len xs
def cmF (xs : List ByteArray) : List Int := (cdF xs).map (fun s => (cntS xs s : Int))
/-- The rounds over sorted lines. -/
structure Grp (ys : List ByteArray) (k : Nat) (out : List ByteArray) : Prop where
  srt : SSrt out
  mem : ∀ s, s ∈ out ↔ s ∈ ys.take k
  last : ∀ j, k = j + 1 → out.getLast? = ys[j]?
  len : out.length ≤ k
theorem Grp.zero (ys : List ByteArray) : Grp ys 0 [] := ⟨List.Pairwise.nil, by simp, by omega, by simp⟩
theorem Grp.first {ys : List ByteArray} (h : 0 < ys.length) : Grp ys 1 [ys[0]] := by
  refine ⟨List.pairwise_singleton _ _, fun s => ?_, fun j hj => ?_, by simp⟩
  · rw [List.take_succ_eq_append_getElem h]; simp
  · obtain rfl : j = 0 := by omega
    simp [h]
theorem Grp.new_notmem {ys out : List ByteArray} {j : Nat} (hs : Srt ys) (h : Grp ys (j + 1) out) (hj : j + 1 < ys.length) (hne : ys[j + 1] ≠ ys[j]) : ∀ s ∈ out, ltS s ys[j + 1] = true := by
  intro s hm
  have hlt : ltS ys[j] ys[j + 1] = true := by
    cases h1 : ltS ys[j] ys[j + 1] with
    | true => rfl
    | false => exact absurd (ltS_tri h1 (List.pairwise_iff_getElem.1 hs j (j + 1) (by omega) hj (by omega))).symm hne
  obtain ⟨m, hm1, rfl⟩ := List.getElem_of_mem ((h.mem s).1 hm)
  simp at hm1
  rw [List.getElem_take]
  rcases Nat.lt_or_ge m j with h2 | h2
  · have h3 := List.pairwise_iff_getElem.1 hs m j (by omega) (by omega) h2
    cases h4 : ltS ys[m] ys[j + 1] with
    | true => rfl
    | false =>
      have := leS_trans h3 (ltS_asymm hlt)
      rw [ltS_tri h4 this] at h3
      rw [hlt] at h3; cases h3
  · obtain rfl : m = j := by omega
    exact hlt
theorem Grp.new {ys out : List ByteArray} {j : Nat} (hs : Srt ys) (h : Grp ys (j + 1) out) (hj : j + 1 < ys.length) (hne : ys[j + 1] ≠ ys[j]) : Grp ys (j + 2) (out ++ [ys[j + 1]]) := by
  refine ⟨?_, fun s => ?_, fun i hi => ?_, by have := h.len; simp; omega⟩
  · unfold SSrt
    rw [List.pairwise_append]
    refine ⟨h.srt, List.pairwise_singleton _ _, ?_⟩
    intro a ha b hb
    rw [List.mem_singleton] at hb
    subst hb
    exact h.new_notmem hs hj hne a ha
  · rw [List.mem_append, h.mem, List.take_succ_eq_append_getElem hj, List.mem_append]
  · obtain rfl : i = j + 1 := by omega
    simp [hj]
theorem Grp.same {ys out : List ByteArray} {j : Nat} (h : Grp ys (j + 1) out) (hj : j + 1 < ys.length) (he : ys[j + 1] = ys[j]) : Grp ys (j + 2) out := by
  refine ⟨h.srt, fun s => ?_, fun i hi => ?_, by have := h.len; omega⟩
  · rw [h.mem, List.take_succ_eq_append_getElem hj, List.mem_append]
    constructor
    · exact .inl
    · rintro (h1 | h1)
      · exact h1
      · rw [List.mem_singleton] at h1
        subst h1
        rw [he]
        exact List.mem_take_iff_getElem.2 ⟨j, by omega, rfl⟩
  · obtain rfl : i = j + 1 := by omega
    rw [h.last j rfl, List.getElem?_eq_getElem (by omega), List.getElem?_eq_getElem hj, he]
/-- The numbers. -/
def nmF (ys out : List ByteArray) (k : Nat) : List Int := out.map (fun s => (cntS (ys.take k) s : Int))
theorem nmF_len (ys out : List ByteArray) (k : Nat) : (nmF ys out k).length = out.length := List.length_map _
theorem nmF_first {ys : List ByteArray} (h : 0 < ys.length) : nmF ys [ys[0]] 1 = [(0 : Int) + 1] := by
  unfold nmF; rw [List.take_succ_eq_append_getElem h]; simp [cntS]
theorem nmF_new {ys out : List ByteArray} {j : Nat} (hs : Srt ys) (h : Grp ys (j + 1) out) (hj : j + 1 < ys.length) (hne : ys[j + 1] ≠ ys[j]) :
    (nmF ys out (j + 1) ++ [0]).set out.length (0 + 1) = nmF ys (out ++ [ys[j + 1]]) (j + 2) := by
  have hl := nmF_len ys out (j + 1)
  rw [← hl, List.set_append_right _ _ (Nat.le_refl _), Nat.sub_self, List.set_cons_zero]
  unfold nmF
  rw [List.map_append, List.take_succ_eq_append_getElem hj]
  congr 1
  · refine List.map_congr_left (fun s hm => ?_)
    rw [cntS_snoc, if_neg]
    · simp
    · intro e; have := h.new_notmem hs hj hne s hm; rw [e, ltS_irrefl] at this; cases this
  · have hz : cntS (ys.take (j + 1)) ys[j + 1] = 0 := cntS_zero (fun hm => by have := h.new_notmem hs hj hne _ ((h.mem _).2 hm); rw [ltS_irrefl] at this; cases this)
    rw [List.map_cons, List.map_nil, cntS_snoc, hz]; simp
theorem nmF_same {ys out : List ByteArray} {j m : Nat} (h : Grp ys (j + 1) out) (hj : j + 1 < ys.length) (he : ys[j + 1] = ys[j]) (hm : out.length = m + 1) :
    ∃ c : Nat, (nmF ys out (j + 1))[m]? = some (c : Int) ∧ c ≤ ys.length ∧ (nmF ys out (j + 1)).set m ((c : Int) + 1) = nmF ys out (j + 2) := by
  have hlast : out[m]? = some ys[j] := by
    have := h.last j rfl
    rw [List.getLast?_eq_getElem?, hm, Nat.add_sub_cancel] at this
    rw [this, List.getElem?_eq_getElem (by omega)]
  have hml : m < out.length := by omega
  have hx : out[m] = ys[j] := by rw [List.getElem?_eq_getElem hml] at hlast; exact Option.some.inj hlast
  refine ⟨cntS (ys.take (j + 1)) ys[j], ?_, ?_, ?_⟩
  · unfold nmF; rw [List.getElem?_map, hlast]; rfl
  · have := cntS_le (ys.take (j + 1)) ys[j]; rw [List.length_take] at this; omega
  · apply List.ext_getElem?
    intro i
    rw [List.getElem?_set]
    unfold nmF
    simp only [List.length_map, List.getElem?_map]
    rw [List.take_succ_eq_append_getElem hj]
    by_cases hi : m = i
    · subst hi
      rw [if_pos rfl, if_pos hml, hlast, Option.map_some, cntS_snoc, if_pos he]
      simp
    · rw [if_neg hi]
      rcases Nat.lt_or_ge i out.length with h2 | h2
      · rw [List.getElem?_eq_getElem h2, Option.map_some, Option.map_some, cntS_snoc, if_neg]
        · simp
        · intro e
          have h3 := List.pairwise_iff_getElem.1 h.srt.nodup
          rw [he, ← hx] at e
          rcases Nat.lt_or_ge m i with h4 | h4
          · exact h3 m i hml h2 h4 e
          · exact h3 i m h2 hml (by omega) e.symm
      · rw [List.getElem?_eq_none h2]; rfl
/-- Another block is written. -/
theorem Own.other {α : Type} {E : Flat α} {w : World} {base : Nat} {e : TypeId} {g n cap : Nat} {L : List α} (h : Own E w base e (.slice (some ⟨g, 0, none⟩) n cap) L) {g' j : Nat} (hne : g ≠ g') (u : Value) : Own E (w.setCell ⟨g', j, none⟩ u) base e (.slice (some ⟨g, 0, none⟩) n cap) L :=
  World.ownsRow.kept (w' := w.setCell ⟨g', j, none⟩ u) (row := some g') h ⟨rfl, rfl, rfl, by simp, fun k _ hk => heap_setCell_other w ⟨g', j, none⟩ k u (fun e => hk (by simp [e]))⟩ (.inr (fun e => hne (Option.some.inj e)))
theorem Own.blk {α : Type} {E : Flat α} {w : World} {base : Nat} {e : TypeId} {g n cap : Nat} {L : List α} (h : Own E w base e (.slice (some ⟨g, 0, none⟩) n cap) L) : base ≤ g ∧ g < w.heap.size ∧ n = L.length ∧ n ≤ cap ∧ cap ≤ 9223372036854775807 := by
  rcases h.2 with ⟨hv, _⟩ | ⟨g', cap', cur, hv, hg, hh, h1, h2, _⟩
  · cases hv
  · injection hv with hv1 hv2 hv3
    injection hv1 with hv1
    injection hv1 with hv1
    subst hv1 hv3
    unfold maxLen at h2
    exact ⟨hg, (Array.getElem?_eq_some_iff.1 hh).1, hv2, by omega, h2⟩
theorem Own.cellI {w : World} {base : Nat} {e : TypeId} {g n cap : Nat} {L : List Int} (h : Own fInt w base e (.slice (some ⟨g, 0, none⟩) n cap) L) {k : Nat} {x : Int} (hx : L[k]? = some x) : w.cell? ⟨g, k, none⟩ = some (.int .i64 x) := by
  obtain ⟨_, _, hn, _⟩ := h.blk
  have h' : w.ownsRow base e 1 (.slice (some ⟨g, 0, none⟩) L.length cap) L.length (L.flatMap fInt.enc) := by rw [hn] at h; exact h
  have hk : k < L.length := by
    rcases Nat.lt_or_ge k L.length with h | h
    · exact h
    · rw [List.getElem?_eq_none h] at hx; cases hx
  rw [h'.cellAt k (by omega)]
  have := flat_get fInt.enc 1 L (fun x _ => fInt.len x) k hk 0 (by omega)
  simp only [Nat.mul_one, Nat.add_zero] at this
  rw [this]
  have e1 : L[k] = x := by rw [List.getElem?_eq_getElem hk] at hx; exact Option.some.inj hx
  rw [e1]; rfl
/-- Two new slices and a code. -/
def New2R (w : World) (xs : List ByteArray) (ys : List Int) (c : Int) (e : Ending) (w' : World) : Prop :=
  ∃ v1 v2, e = .returned (.tuple #[v1, v2, .int .i64 c]) ∧ ∃ fp1 fp2, Sl fStr.cod w' v1 xs fp1 ∧ Sl fInt.cod w' v2 ys fp2 ∧ (∀ b ∈ fp1, w.heap.size ≤ b) ∧ (∀ b ∈ fp2, w.heap.size ≤ b) ∧ fp1.Nodup ∧ fp2.Nodup ∧ (∀ b ∈ fp1, b ∉ fp2) ∧ Below w.heap.size w w'
theorem New2R.nil {w w' : World} (h : Below w.heap.size w w') : New2R w [] [] 1 (.returned (.tuple #[.slice none 0 0, .slice none 0 0, .int .i64 1])) w' :=
  ⟨_, _, rfl, [], [], ⟨none, 0, rfl, by simp, by simp [maxLen], .inl ⟨rfl, rfl⟩⟩, ⟨none, 0, rfl, by simp, by simp [maxLen], .inl ⟨rfl, rfl⟩⟩, by simp, by simp, by simp, by simp, by simp, h⟩
theorem Own.fp {α : Type} {E : Flat α} {w : World} {base : Nat} {e : TypeId} {v : Value} {L : List α} (h : Own E w base e v L) (hok : ∀ x ∈ L, E.ok x) :
    ∃ fp, Sl E.cod w v L fp ∧ (∀ b ∈ fp, base ≤ b) ∧ fp.Nodup ∧ ∀ b ∈ fp, v.ownBlock = some b := by
  obtain ⟨fp, h1, h2, h3⟩ := Sl.of_own (n := L.length) rfl h hok
  rcases Nat.eq_zero_or_pos L.length with h0 | h0
  · obtain rfl := List.eq_nil_of_length_eq_zero h0
    refine ⟨[], ?_, by simp, by simp, by simp⟩
    obtain ⟨A, cap, hv, hl, hc, _⟩ := h1
    exact ⟨A, cap, hv, hl, hc, .inl ⟨rfl, rfl⟩⟩
  · refine ⟨fp, h1, h2, h3, fun b hb => ?_⟩
    obtain ⟨A, cap, rfl, _, _⟩ := h1.form
    obtain ⟨b', off, hA, hfp, _⟩ := h1.cells h0
    subst hA
    rw [hfp] at hb
    rw [List.mem_singleton] at hb
    subst hb
    rfl
theorem New2R.of {w w' : World} {v1 v2 : Value} {xs : List ByteArray} {ys : List Int} {b1 b2 : Nat} {T1 T2 : TypeId} {c : Int} (h1 : Own fStr w' b1 T1 v1 xs) (h2 : Own fInt w' b2 T2 v2 ys) (hb1 : w.heap.size ≤ b1) (hb2 : w.heap.size ≤ b2) (hne : v1.ownBlock ≠ v2.ownBlock ∨ v1.ownBlock = none ∨ v2.ownBlock = none)
    (ok1 : ∀ x ∈ xs, fStr.ok x) (ok2 : ∀ y ∈ ys, fInt.ok y) (hb : Below w.heap.size w w') : New2R w xs ys c (.returned (.tuple #[v1, v2, .int .i64 c])) w' := by
  obtain ⟨f1, a1, a2, a3, a4⟩ := h1.fp ok1
  obtain ⟨f2, c1, c2, c3, c4⟩ := h2.fp ok2
  refine ⟨_, _, rfl, f1, f2, a1, c1, fun b h => Nat.le_trans hb1 (a2 b h), fun b h => Nat.le_trans hb2 (c2 b h), a3, c3, fun b h h' => ?_, hb⟩
  have e1 := a4 b h
  have e2 := c4 b h'
  rcases hne with hne | hne | hne
  · exact hne (e1.trans e2.symm)
  · rw [e1] at hne; cases hne
  · rw [e2] at hne; cases hne
theorem infoInt3 : (Tryz.prog.info? 2).map (fun i => (i.zero, i.size, i.bytes)) = some (some (.int .i64 0), 1, 8) := by kernel_rfl
def clC (xs : List ByteArray) : Int := if linesB xs then 0 else 1
def clD (xs : List ByteArray) : List ByteArray := if linesB xs then cdF xs else []
def clM (xs : List ByteArray) : List Int := if linesB xs then cmF xs else []
theorem clD_len {xs : List ByteArray} (h : xs.length ≤ 1048576) : (clD xs).length ≤ 100000000000 := by
  unfold clD; split
  · have := cdF_len xs; omega
  · simp
theorem clM_len {xs : List ByteArray} (h : xs.length ≤ 1048576) : (clM xs).length ≤ 100000000000 := by
  unfold clM; split
  · unfold cmF; rw [List.length_map]; have := cdF_len xs; omega
  · simp
theorem clM_ok {xs : List ByteArray} (h : xs.length ≤ 1000000) : ∀ y ∈ cmF xs, fInt.ok y := by
  intro y hy
  obtain ⟨s, _, rfl⟩ := List.mem_map.1 hy
  have := cntS_le xs s
  show -9223372036854775808 ≤ _ ∧ _ ≤ _
  omega

end Go.Proofs.YticoiaibcgpbjaaGreatDoor

namespace Go.Proofs
open Go.Shelf
set_option maxRecDepth 100000 in
def Tryz.keysLay_ren : Go.Shelf.Ren := ⟨fun | 7 => 10 | 10 => 15 | n => n, fun | 23 => 31 | 26 => 9 | 3 => 32 | 28 => 29 | 0 => 0 | 27 => 28 | 33 => 36 | 4 => 4 | n => n, fun | n => n⟩
set_option maxRecDepth 100000 in
theorem Tryz.keysLay : Go.Proofs.SlLaysZ.n7 Tryz.prog Tryz.keysLay_ren := {
  mixed := by kernel_rfl
  f7 := ⟨Tryz.f10.name, by decide, Tryz.func10.trans (congrArg some (by kernel_rfl))⟩
  f10 := ⟨Tryz.f15.name, by decide, Tryz.func15.trans (congrArg some (by kernel_rfl))⟩
  t0 := Tryz.underlying0
  a0 := Tryz.isAgg0
  z0 := Tryz.sizeOf0
  v0 := Tryz.zeroValue0
  t4 := Tryz.underlying4
  a4 := Tryz.isAgg4
  z4 := Tryz.sizeOf4
  v4 := Tryz.zeroValue4
  t23 := Tryz.underlying31
  a23 := Tryz.isAgg31
  z23 := Tryz.sizeOf31
  v23 := Tryz.zeroValue31
  t26 := Tryz.underlying9
  a26 := Tryz.isAgg9
  z26 := Tryz.sizeOf9
  v26 := Tryz.zeroValue9
  t27 := Tryz.underlying28
  a27 := Tryz.isAgg28
  z27 := Tryz.sizeOf28
  v27 := Tryz.zeroValue28
  t28 := Tryz.underlying29
  a28 := Tryz.isAgg29
  z28 := Tryz.sizeOf29
  v28 := Tryz.zeroValue29
  t33 := Tryz.underlying36
  a33 := Tryz.isAgg36
  z33 := Tryz.sizeOf36
  v33 := Tryz.zeroValue36 }
set_option maxRecDepth 100000 in
def Tryz.sortedLay_ren : Go.Shelf.Ren := ⟨fun | 6 => 9 | 8 => 13 | 9 => 14 | 11 => 43 | 13 => 45 | 12 => 44 | 23 => 128 | 24 => 129 | 14 => 119 | 15 => 120 | 16 => 121 | 17 => 122 | 18 => 123 | 19 => 124 | 20 => 125 | 21 => 126 | 22 => 127 | 25 => 230 | 26 => 231 | 27 => 232 | 28 => 233 | 29 => 234 | 30 => 235 | 31 => 296 | n => n, fun | 26 => 9 | 28 => 29 | 24 => 22 | 0 => 0 | 3 => 3 | 37 => 43 | 48 => 161 | 50 => 163 | 4 => 4 | 40 => 153 | 39 => 152 | 45 => 158 | 5 => 5 | 9 => 9 | 51 => 255 | 55 => 259 | 57 => 314 | 58 => 315 | 33 => 36 | n => n, fun | n => n⟩
set_option maxRecDepth 100000 in
theorem Tryz.sortedLay : Go.Proofs.SlLaysZ.n6 Tryz.prog Tryz.sortedLay_ren := {
  mixed := by kernel_rfl
  f6 := ⟨Tryz.f9.name, by decide, Tryz.func9.trans (congrArg some (by kernel_rfl))⟩
  f8 := ⟨Tryz.f13.name, by decide, Tryz.func13.trans (congrArg some (by kernel_rfl))⟩
  f11 := ⟨Tryz.f43.name, by decide, Tryz.func43.trans (congrArg some (by kernel_rfl))⟩
  t0 := Tryz.underlying0
  a0 := Tryz.isAgg0
  z0 := Tryz.sizeOf0
  v0 := Tryz.zeroValue0
  t24 := Tryz.underlying22
  a24 := Tryz.isAgg22
  z24 := Tryz.sizeOf22
  v24 := Tryz.zeroValue22
  t26 := Tryz.underlying9
  a26 := Tryz.isAgg9
  z26 := Tryz.sizeOf9
  v26 := Tryz.zeroValue9
  t28 := Tryz.underlying29
  a28 := Tryz.isAgg29
  z28 := Tryz.sizeOf29
  v28 := Tryz.zeroValue29
  i26 := by kernel_rfl }
end Go.Proofs

namespace Go.Proofs.YticoiaibcgpbjaaGreatDoor
open Go.RowKit Go.Shelf Go.Sort Go.Maps
set_option linter.unusedVariables false
attribute [local go_sem] Oper.semAt_some

abbrev DU := DataW Unit
theorem insert_perm_ (x : Lit × DU) : ∀ l : List (Lit × DU), (DataW.insert x l).Perm (x :: l)
  | [] => List.Perm.refl _
  | y :: l => by
    unfold DataW.insert
    split
    · exact List.Perm.refl _
    · exact ((insert_perm_ x l).cons y).trans (List.Perm.swap x y l)
def litS (s : ByteArray) : Lit := .string s.data.toList
theorem litS_inj {a b : ByteArray} (h : litS a = litS b) : a = b := by
  unfold litS at h; injection h with h; exact data_inj h
def numW (n : Nat) : DU := .lit (.int .i64 (n : Int))
/-- The map's entries after the lines L. -/
structure CntD (es : List (Lit × DU)) (L : List ByteArray) : Prop where
  val : ∀ p ∈ es, ∃ s : ByteArray, p.1 = litS s ∧ s ∈ L ∧ p.2 = numW (cntS L s)
  has : ∀ s ∈ L, ∃ p ∈ es, p.1 = litS s
  nd : (es.map (fun p => p.1)).Nodup
theorem CntD.nil : CntD [] [] := ⟨by simp, by simp, by simp⟩
theorem CntD.at_ {es : List (Lit × DU)} {L : List ByteArray} (h : CntD es L) (s : ByteArray) : (DataW.map es : DU).atKey (litS s) (.lit (.int .i64 0)) = numW (cntS L s) := by
  simp only [DataW.atKey]
  cases hf : es.find? (fun p => p.1.sameKey (litS s)) with
  | some p =>
    have hp := List.mem_of_find?_eq_some hf
    have hk := List.find?_some hf
    obtain ⟨s', e1, _, e2⟩ := h.val p hp
    rw [e1] at hk
    have : s' = s := by
      simp only [litS, Lit.sameKey, beq_iff_eq] at hk
      exact data_inj hk
    subst this
    exact e2
  | none =>
    rw [List.find?_eq_none] at hf
    have hn : s ∉ L := fun hm => by
      obtain ⟨p, hp, e⟩ := h.has s hm
      have := hf p hp
      rw [e] at this
      simp [litS, Lit.sameKey] at this
    rw [cntS_zero hn]; rfl
theorem CntD.put {es : List (Lit × DU)} {L : List ByteArray} (h : CntD es L) (s : ByteArray) : ∃ es', (DataW.map es : DU).put (litS s) (numW (cntS L s + 1)) = .map es' ∧ CntD es' (L ++ [s]) := by
  refine ⟨_, DataW.put_eq es _ _, ?_⟩
  have hp := insert_perm_ (litS s, numW (cntS L s + 1)) (es.filter (Go.ChangeMaps.notKey (litS s)))
  have hnk : ∀ p ∈ es, Go.ChangeMaps.notKey (litS s) p = true ↔ p.1 ≠ litS s := fun p hp => by
    obtain ⟨s', e1, _, _⟩ := h.val p hp
    exact Go.ChangeMaps.notKey_iff ⟨_, rfl⟩ ⟨_, e1⟩
  have hmem : ∀ p, p ∈ Go.ChangeMaps.putKey (litS s) (numW (cntS L s + 1)) es ↔ p = (litS s, numW (cntS L s + 1)) ∨ (p ∈ es ∧ p.1 ≠ litS s) := fun p => by
    refine (hp.mem_iff).trans ?_
    rw [List.mem_cons, List.mem_filter]
    exact or_congr Iff.rfl ⟨fun ⟨a, b⟩ => ⟨a, (hnk p a).1 b⟩, fun ⟨a, b⟩ => ⟨a, (hnk p a).2 b⟩⟩
  refine ⟨fun p hp' => ?_, fun t ht => ?_, ?_⟩
  · rcases (hmem p).1 hp' with rfl | ⟨h1, h2⟩
    · exact ⟨s, rfl, by simp, by rw [cntS_snoc, if_pos rfl]⟩
    · obtain ⟨s', e1, e2, e3⟩ := h.val p h1
      refine ⟨s', e1, by simp [e2], ?_⟩
      rw [cntS_snoc, if_neg (fun e => h2 (by rw [e1, e]))]
      exact e3
  · rcases List.mem_append.1 ht with ht | ht
    · by_cases e : t = s
      · exact ⟨_, (hmem _).2 (.inl rfl), by rw [e]⟩
      · obtain ⟨p, h1, h2⟩ := h.has t ht
        exact ⟨p, (hmem p).2 (.inr ⟨h1, fun e' => e (litS_inj (h2.symm.trans e'))⟩), h2⟩
    · rw [List.mem_singleton] at ht
      subst ht
      exact ⟨_, (hmem _).2 (.inl rfl), rfl⟩
  · have h2 := (hp.map (fun p => p.1)).nodup_iff.2 (by
      rw [List.map_cons, List.nodup_cons]
      refine ⟨fun hm => ?_, (List.filter_sublist.map _).nodup h.nd⟩
      obtain ⟨p, h3, h4⟩ := List.mem_map.1 hm
      rw [List.mem_filter] at h3
      exact (hnk p h3.1).1 h3.2 h4)
    exact h2
/-- The keys, in order, are the different lines. -/
theorem CntD.keys {es : List (Lit × DU)} {L : List ByteArray} (h : CntD es L) {ss : List (List UInt8)} (hp : ss.Perm (strKeys (DataW.map es : DU))) :
    (ss.mergeSort (fun x y => decide (x ≤ y))).map encStr = (cdF L).flatMap fStr.enc ∧ ss.length = (cdF L).length := by
  obtain ⟨M, hM⟩ : ∃ M : List ByteArray, M = ss.map (fun l => (⟨l.toArray⟩ : ByteArray)) := ⟨_, rfl⟩
  have e1 : ss = M.map (fun x : ByteArray => x.data.toList) := by rw [hM, List.map_map]; simp [Function.comp_def]
  have hmem : ∀ s, s ∈ M ↔ s ∈ L := fun s => by
    rw [hM, List.mem_map]
    constructor
    · rintro ⟨l, hl, rfl⟩
      have := (hp.mem_iff).1 hl
      obtain ⟨p, h1, rfl⟩ := List.mem_map.1 this
      obtain ⟨s', e1, e2, _⟩ := h.val p h1
      rw [e1]
      have : (⟨(strOf (litS s')).toArray⟩ : ByteArray) = s' := by simp [strOf, litS]
      rw [this]; exact e2
    · intro hs
      obtain ⟨p, h1, h2⟩ := h.has s hs
      refine ⟨s.data.toList, (hp.mem_iff).2 (List.mem_map.2 ⟨p, h1, by rw [h2]; rfl⟩), by simp⟩
  have hnd : M.Nodup := by
    have h1 : (strKeys (DataW.map es : DU)).Nodup := by
      show (es.map fun p => strOf p.1).Nodup
      have h2 := h.nd
      rw [List.nodup_iff_pairwise_ne] at *
      rw [List.pairwise_map] at *
      refine List.Pairwise.imp_of_mem ?_ h2
      intro a b ha hb hab e
      obtain ⟨s1, e1, _, _⟩ := h.val a ha
      obtain ⟨s2, e2, _, _⟩ := h.val b hb
      rw [e1, e2] at hab e
      have e' : s1.data.toList = s2.data.toList := e
      exact hab (by unfold litS; rw [e'])
    have h2 := (hp.nodup_iff).2 h1
    rw [e1] at h2
    rw [List.nodup_iff_pairwise_ne] at *
    rw [List.pairwise_map] at h2
    exact h2.imp (fun h e => h (by rw [e]))
  have e2 : srtF M = cdF L := cdF_of (ssrt_of (srtF_srt M) ((srtF_perm M).nodup_iff.2 hnd)) (fun s => ((srtF_perm M).mem_iff).trans (hmem s))
  refine ⟨?_, ?_⟩
  · rw [e1, ← srtF_map, ← encStr_map, e2]
  · rw [← e2, srtF_len, e1, List.length_map]
theorem own_monoE {α : Type} {E : Flat α} {w : World} {base base' : Nat} {e : TypeId} {v : Value} {L : List α} (h : Own E w base e v L) (hb : base' ≤ base) : Own E w base' e v L := by
  obtain ⟨h1, h2⟩ := h
  refine ⟨h1, ?_⟩
  rcases h2 with h2 | ⟨g, cap, cur, hv, hg, r⟩
  · exact .inl h2
  · exact .inr ⟨g, cap, cur, hv, by omega, r⟩
theorem ownsMap_below {P : Program} {k : TypeId} {R : Value → Option (DU × List MemPlace)} {w w' : World} {b n B : Nat} {D : DU} (h : w.ownsMap P k R b n D) (hb : Below B w w') (hB : b < B) : w'.ownsMap P k R b n D := by
  obtain ⟨es, clock, h1, r⟩ := h
  exact ⟨es, clock, (hb.block b hB).trans h1, r⟩

theorem New2R.of' {w w3 w' : World} {v1 v2 : Value} {xs : List ByteArray} {ys : List Int} {b1 : Nat} {T1 T2 : TypeId} {c : Int} (h1 : Own fStr w3 b1 T1 v1 xs) (h2 : Own fInt w' w3.heap.size T2 v2 ys) (hb1 : w.heap.size ≤ b1) (hw3 : w.heap.size ≤ w3.heap.size) (hb3 : Below w3.heap.size w3 w')
    (ok1 : ∀ x ∈ xs, fStr.ok x) (ok2 : ∀ y ∈ ys, fInt.ok y) (hb : Below w.heap.size w w') : New2R w xs ys c (.returned (.tuple #[v1, v2, .int .i64 c])) w' := by
  refine New2R.of (h1.below hb3) h2 hb1 hw3 ?_ ok1 ok2 hb
  rcases h2.2 with ⟨hv, _⟩ | ⟨g2, _, _, hv, hg2, _⟩
  · subst hv; exact .inr (.inr rfl)
  · rcases h1.2 with ⟨hv1, _⟩ | ⟨g1, _, _, hv1, _, hh, _⟩
    · subst hv1; exact .inr (.inl rfl)
    · subst hv hv1
      have := (Array.getElem?_eq_some_iff.1 hh).1
      exact .inl (by simp [Value.ownBlock]; omega)
theorem int64T_under : Tryz.prog.underlying 2 = some (.int .i64) := by kernel_rfl
theorem strT_under : Tryz.prog.underlying 9 = some .string := by kernel_rfl
theorem zeroI_run (w : World) : (zeroValue 2).run Tryz.prog w = .ok (.int .i64 0) w := by kernel_rfl

end Go.Proofs.YticoiaibcgpbjaaGreatDoor

namespace Go.Proofs.YticoiaibcgpbjaaGreatDoor
open Go.RowKit Go.Shelf Go.Sort Go.Maps
set_option linter.unusedVariables false
attribute [local go_sem] Oper.semAt_some

theorem sortsInF_any (m : Nat) : AnyZ.SortsIn Tryz.prog Tryz.sortedLay_ren Fence.wide m :=
  ⟨fun blk off cap ss W hH hblk hsz => callsIn_wide.2 (Tryz.slices_Sort_string blk off cap ss W hH hblk hsz), fun p cap W => callsIn_wide.2 (Tryz.slices_Sort_string_none p cap W)⟩
theorem keysF_any (b : Nat) (w : World) : Calls Tryz.prog 10 #[.map (some b)] w fun e w' => e = .returned (.func (.func 15) #[] #[.pointer (some ⟨w.heap.size, 0, none⟩)]) ∧ w' = w.alloc (.cells #[.map (some b)] 31) :=
  (callsIn_wide (n := 5)).1 (AnyZ.keys_in Tryz.keysLay Fence.wide 5 trivial rfl (some b) w)
set_option maxHeartbeats 1000000 in
theorem sortedKeysF_any (b nn : Nat) (es : List (Lit × DU)) (L : List ByteArray) (R : Value → Option (DU × List MemPlace)) (w : World) (hown : w.ownsMap Tryz.prog 9 R b nn (.map es)) (hn : nn ≤ 1000000) (hc : CntD es L) :
    Calls Tryz.prog 9 #[.func (.func 15) #[] #[.pointer (some ⟨w.heap.size, 0, none⟩)]] (w.alloc (.cells #[.map (some b)] 31)) fun e w' => OwnRS fStr 9 (w.alloc (.cells #[.map (some b)] 31)) (cdF L) e w' := by
  have hbl := hown.lt
  have hsize := hown.size_le
  have hseq : SeqGives Fence.wide 2 Tryz.prog 15 #[.pointer (some ⟨w.heap.size, 0, none⟩)] encStr (fun ss => ss.Perm (strKeys (DataW.map es : DU))) (Maps.size (DataW.map es : DU)) (w.alloc (.cells #[.map (some b)] 31)) :=
    AnyZ.keys_gives (ρ := Tryz.keysLay_ren) { Tryz.keysLay with } Fence.wide _ trivial rfl (by omega) w.heap.size b nn _ _ (by simp) (by simp) (by
      obtain ⟨es', clock, hb, Ft, hs, hD⟩ := hown
      exact ⟨es', clock, (Below.heap_alloc _ _ b hbl).trans hb, Ft, hs, hD⟩)
  refine ((callsIn_wide (n := 5)).1 (AnyZ.sorted_in Tryz.sortedLay Fence.wide 5 trivial trivial trivial trivial rfl (by omega) (sortsInF_any _) (enters_of Tryz.func14 (by kernel_rfl) rfl) 15 #[.pointer (some ⟨w.heap.size, 0, none⟩)] trivial (enters_of Tryz.func15 (by kernel_rfl) rfl) _ _ (by unfold maxLen; omega) (by omega) _ hseq)).mono ?_
  rintro e w' ⟨v, ss, rfl, hS, hrow, _, hb⟩
  obtain ⟨e1, e2⟩ := hc.keys hS
  rw [e1, e2] at hrow
  exact ⟨v, rfl, hrow, hb⟩
/-- An entry of a map's literal. -/
theorem wpList_insert_own {H : Type} {P : Program} (w : World) {ops : Array Oper} {rest : List Oper} {o : Oper} {a : Act} {Q : Exit → Act → World → Prop}
    (hg : o.guard = none) (m x v : Operand) (t : TypeId) (hop : o.op = Op.insert t m x v)
    (k e : TypeId) (K : Keyed P k) (ht : P.underlying t = some (.map k e)) (R : Value → Option (DataW H × List MemPlace)) (b n : Nat) (D : DataW H)
    (hm : a.eval m = .map (some b)) (hown : w.ownsMap P k R b n D) (hn : n < maxLen) (key val : Value) (kl : Lit) (hx : a.eval x = key) (hv : a.eval v = val) (hkey : keyOf P k key = some kl)
    (d : DataW H) (ps : List MemPlace) (hval : R val = some (d, ps))
    (hK : ∀ w', w'.ownsMap P k R b (n + 1) (D.put kl d) → w.grownBy w' (some b) → wpList P ops Q rest (a.put o.dst undef) w') :
    wpList P ops Q (o :: rest) a w := by
  refine wpList_plain hg fun K' hK' => ?_
  obtain ⟨w', hrun, r1, r2⟩ := hown.update K ht hn hkey hval
  unfold Oper.wp
  simp [execOp, hop, hm, hx, hv, hrun, Result.andThen]
  exact hK' _ _ (hK w' r1 r2)
def cmdL : List ByteArray := [⟨#[111, 98, 115, 101, 114, 118, 101]⟩, ⟨#[115, 110, 111, 119]⟩, ⟨#[102, 105, 101, 108, 100]⟩, ⟨#[100, 114, 105, 102, 116]⟩, ⟨#[116, 101, 115, 116]⟩, ⟨#[119, 101, 97, 107]⟩, ⟨#[115, 116, 97, 110, 100]⟩, ⟨#[112, 114, 111, 116, 101, 99, 116]⟩, ⟨#[112, 97, 116, 104]⟩, ⟨#[115, 116, 111, 112]⟩, ⟨#[122, 111, 110, 101, 115]⟩, ⟨#[98, 117, 105, 108, 100]⟩, ⟨#[114, 101, 103, 105, 111, 110, 115]⟩, ⟨#[108, 101, 118, 101, 108]⟩, ⟨#[103, 114, 111, 117, 112]⟩, ⟨#[118, 101, 114, 105, 102, 121]⟩, ⟨#[115, 107, 105, 108, 108]⟩, ⟨#[115, 104, 111, 116]⟩, ⟨#[112, 108, 97, 110]⟩, ⟨#[112, 97, 114, 116, 121]⟩, ⟨#[103, 111, 105, 110, 103]⟩, ⟨#[119, 97, 116, 99, 104]⟩, ⟨#[111, 110]⟩, ⟨#[105, 110, 99, 105, 100, 101, 110, 116]⟩, ⟨#[114, 101, 112, 111, 114, 116]⟩, ⟨#[115, 104, 111, 119]⟩, ⟨#[104, 101, 108, 112]⟩]
def cmdS : List ByteArray := [⟨#[98, 117, 105, 108, 100]⟩, ⟨#[100, 114, 105, 102, 116]⟩, ⟨#[102, 105, 101, 108, 100]⟩, ⟨#[103, 111, 105, 110, 103]⟩, ⟨#[103, 114, 111, 117, 112]⟩, ⟨#[104, 101, 108, 112]⟩, ⟨#[105, 110, 99, 105, 100, 101, 110, 116]⟩, ⟨#[108, 101, 118, 101, 108]⟩, ⟨#[111, 98, 115, 101, 114, 118, 101]⟩, ⟨#[111, 110]⟩, ⟨#[112, 97, 114, 116, 121]⟩, ⟨#[112, 97, 116, 104]⟩, ⟨#[112, 108, 97, 110]⟩, ⟨#[112, 114, 111, 116, 101, 99, 116]⟩, ⟨#[114, 101, 103, 105, 111, 110, 115]⟩, ⟨#[114, 101, 112, 111, 114, 116]⟩, ⟨#[115, 104, 111, 116]⟩, ⟨#[115, 104, 111, 119]⟩, ⟨#[115, 107, 105, 108, 108]⟩, ⟨#[115, 110, 111, 119]⟩, ⟨#[115, 116, 97, 110, 100]⟩, ⟨#[115, 116, 111, 112]⟩, ⟨#[116, 101, 115, 116]⟩, ⟨#[118, 101, 114, 105, 102, 121]⟩, ⟨#[119, 97, 116, 99, 104]⟩, ⟨#[119, 101, 97, 107]⟩, ⟨#[122, 111, 110, 101, 115]⟩]
theorem cmd_srt : SSrt cmdS := by
  unfold SSrt cmdS
  simp only [ltS_eq]
  decide
theorem cmd_mem : ∀ s, s ∈ cmdS ↔ s ∈ cmdL := by
  intro s
  unfold cmdS cmdL
  constructor
  · intro h
    simp only [List.mem_cons, List.not_mem_nil, or_false] at h
    rcases h with rfl | rfl | rfl | rfl | rfl | rfl | rfl | rfl | rfl | rfl | rfl | rfl | rfl | rfl | rfl | rfl | rfl | rfl | rfl | rfl | rfl | rfl | rfl | rfl | rfl | rfl | rfl <;> simp
  · intro h
    simp only [List.mem_cons, List.not_mem_nil, or_false] at h
    rcases h with rfl | rfl | rfl | rfl | rfl | rfl | rfl | rfl | rfl | rfl | rfl | rfl | rfl | rfl | rfl | rfl | rfl | rfl | rfl | rfl | rfl | rfl | rfl | rfl | rfl | rfl | rfl <;> simp
theorem cmd_all : cdF cmdL = cmdS := (cdF_of cmd_srt cmd_mem).symm
theorem cmd_oks : ∀ x ∈ cmdS, fStr.ok x := by
  intro x h
  have : x.size ≤ 20 := by revert x; decide
  show _ ≤ _; omega
theorem mapF_under : Tryz.prog.underlying 31 = some (.map 9 32) := by kernel_rfl
def RF (v : Value) : Option (DU × List MemPlace) := some (numW 1, [])
/-- A new name is put. -/
theorem CntD.put1 {es : List (Lit × DU)} {L : List ByteArray} (h : CntD es L) (s : ByteArray) (h0 : cntS L s = 0) : ∃ es', (DataW.map es : DU).put (litS s) (numW 1) = .map es' ∧ CntD es' (L ++ [s]) := by
  obtain ⟨es', h1, h2⟩ := h.put s
  rw [h0] at h1
  exact ⟨es', h1, h2⟩
set_option maxRecDepth 100000 in
set_option maxHeartbeats 8000000 in
theorem deskCommands_any (w : World) :
    Calls Tryz.prog 11 #[] w fun e w' => ∃ es, e = .returned (.map (some w.heap.size)) ∧ w'.ownsMap Tryz.prog 9 RF w.heap.size 27 (.map es) ∧ CntD es cmdL ∧ Below w.heap.size w w' := by
  have hmm := @run_makeMap Tryz.prog
  have hC0 : CntD [] [] := CntD.nil
  have ho0 : (w.alloc (.map #[] 0)).ownsMap Tryz.prog 9 RF w.heap.size 0 (.map []) := World.ownsMap_made _ _ _ _
  have hb0 : Below w.heap.size w (w.alloc (.map #[] 0)) := (Below.refl _ _).alloc (Nat.le_refl _) _
  have hd0 : CntD [] (cmdL.take 0) := CntD.nil
  clear hC0
  go_enter Tryz.func11, Tryz.ntmps11
  have hk0 : keyOf Tryz.prog 9 (.string ⟨#[111, 98, 115, 101, 114, 118, 101]⟩) = some (litS ⟨#[111, 98, 115, 101, 114, 118, 101]⟩) := Go.WideMaps.keyOf_string_mk strT_under (by unfold maxLen; decide)
  obtain ⟨es1, hp0, hd1⟩ := hd0.put1 ⟨#[111, 98, 115, 101, 114, 118, 101]⟩ (by decide)
  replace hd1 : CntD es1 (cmdL.take 1) := hd1
  clear hd0
  go_wp2_with (refine wpList_insert_own _ rfl _ _ _ 31 rfl 9 32 (Maps.string_keyed strT_under) mapF_under RF w.heap.size 0 _ rfl ho0 (by unfold maxLen; omega) _ _ _ rfl rfl hk0 _ [] rfl ?_)
  intro u1 ho1 hg0
  try rw [hp0] at ho1
  have hb1 : Below w.heap.size w u1 := hb0.grown hg0 hb0.size (fun j hj => by cases hj; exact Nat.le_refl _)
  clear hk0 hp0 ho0 hg0 hb0
  have hk1 : keyOf Tryz.prog 9 (.string ⟨#[115, 110, 111, 119]⟩) = some (litS ⟨#[115, 110, 111, 119]⟩) := Go.WideMaps.keyOf_string_mk strT_under (by unfold maxLen; decide)
  obtain ⟨es2, hp1, hd2⟩ := hd1.put1 ⟨#[115, 110, 111, 119]⟩ (by decide)
  replace hd2 : CntD es2 (cmdL.take 2) := hd2
  clear hd1
  go_wp2_with (refine wpList_insert_own _ rfl _ _ _ 31 rfl 9 32 (Maps.string_keyed strT_under) mapF_under RF w.heap.size 1 _ rfl ho1 (by unfold maxLen; omega) _ _ _ rfl rfl hk1 _ [] rfl ?_)
  intro u2 ho2 hg1
  try rw [hp1] at ho2
  have hb2 : Below w.heap.size w u2 := hb1.grown hg1 hb1.size (fun j hj => by cases hj; exact Nat.le_refl _)
  clear hk1 hp1 ho1 hg1 hb1
  have hk2 : keyOf Tryz.prog 9 (.string ⟨#[102, 105, 101, 108, 100]⟩) = some (litS ⟨#[102, 105, 101, 108, 100]⟩) := Go.WideMaps.keyOf_string_mk strT_under (by unfold maxLen; decide)
  obtain ⟨es3, hp2, hd3⟩ := hd2.put1 ⟨#[102, 105, 101, 108, 100]⟩ (by decide)
  replace hd3 : CntD es3 (cmdL.take 3) := hd3
  clear hd2
  go_wp2_with (refine wpList_insert_own _ rfl _ _ _ 31 rfl 9 32 (Maps.string_keyed strT_under) mapF_under RF w.heap.size 2 _ rfl ho2 (by unfold maxLen; omega) _ _ _ rfl rfl hk2 _ [] rfl ?_)
  intro u3 ho3 hg2
  try rw [hp2] at ho3
  have hb3 : Below w.heap.size w u3 := hb2.grown hg2 hb2.size (fun j hj => by cases hj; exact Nat.le_refl _)
  clear hk2 hp2 ho2 hg2 hb2
  have hk3 : keyOf Tryz.prog 9 (.string ⟨#[100, 114, 105, 102, 116]⟩) = some (litS ⟨#[100, 114, 105, 102, 116]⟩) := Go.WideMaps.keyOf_string_mk strT_under (by unfold maxLen; decide)
  obtain ⟨es4, hp3, hd4⟩ := hd3.put1 ⟨#[100, 114, 105, 102, 116]⟩ (by decide)
  replace hd4 : CntD es4 (cmdL.take 4) := hd4
  clear hd3
  go_wp2_with (refine wpList_insert_own _ rfl _ _ _ 31 rfl 9 32 (Maps.string_keyed strT_under) mapF_under RF w.heap.size 3 _ rfl ho3 (by unfold maxLen; omega) _ _ _ rfl rfl hk3 _ [] rfl ?_)
  intro u4 ho4 hg3
  try rw [hp3] at ho4
  have hb4 : Below w.heap.size w u4 := hb3.grown hg3 hb3.size (fun j hj => by cases hj; exact Nat.le_refl _)
  clear hk3 hp3 ho3 hg3 hb3
  have hk4 : keyOf Tryz.prog 9 (.string ⟨#[116, 101, 115, 116]⟩) = some (litS ⟨#[116, 101, 115, 116]⟩) := Go.WideMaps.keyOf_string_mk strT_under (by unfold maxLen; decide)
  obtain ⟨es5, hp4, hd5⟩ := hd4.put1 ⟨#[116, 101, 115, 116]⟩ (by decide)
  replace hd5 : CntD es5 (cmdL.take 5) := hd5
  clear hd4
  go_wp2_with (refine wpList_insert_own _ rfl _ _ _ 31 rfl 9 32 (Maps.string_keyed strT_under) mapF_under RF w.heap.size 4 _ rfl ho4 (by unfold maxLen; omega) _ _ _ rfl rfl hk4 _ [] rfl ?_)
  intro u5 ho5 hg4
  try rw [hp4] at ho5
  have hb5 : Below w.heap.size w u5 := hb4.grown hg4 hb4.size (fun j hj => by cases hj; exact Nat.le_refl _)
  clear hk4 hp4 ho4 hg4 hb4
  have hk5 : keyOf Tryz.prog 9 (.string ⟨#[119, 101, 97, 107]⟩) = some (litS ⟨#[119, 101, 97, 107]⟩) := Go.WideMaps.keyOf_string_mk strT_under (by unfold maxLen; decide)
  obtain ⟨es6, hp5, hd6⟩ := hd5.put1 ⟨#[119, 101, 97, 107]⟩ (by decide)
  replace hd6 : CntD es6 (cmdL.take 6) := hd6
  clear hd5
  go_wp2_with (refine wpList_insert_own _ rfl _ _ _ 31 rfl 9 32 (Maps.string_keyed strT_under) mapF_under RF w.heap.size 5 _ rfl ho5 (by unfold maxLen; omega) _ _ _ rfl rfl hk5 _ [] rfl ?_)
  intro u6 ho6 hg5
  try rw [hp5] at ho6
  have hb6 : Below w.heap.size w u6 := hb5.grown hg5 hb5.size (fun j hj => by cases hj; exact Nat.le_refl _)
  clear hk5 hp5 ho5 hg5 hb5
  have hk6 : keyOf Tryz.prog 9 (.string ⟨#[115, 116, 97, 110, 100]⟩) = some (litS ⟨#[115, 116, 97, 110, 100]⟩) := Go.WideMaps.keyOf_string_mk strT_under (by unfold maxLen; decide)
  obtain ⟨es7, hp6, hd7⟩ := hd6.put1 ⟨#[115, 116, 97, 110, 100]⟩ (by decide)
  replace hd7 : CntD es7 (cmdL.take 7) := hd7
  clear hd6
  go_wp2_with (refine wpList_insert_own _ rfl _ _ _ 31 rfl 9 32 (Maps.string_keyed strT_under) mapF_under RF w.heap.size 6 _ rfl ho6 (by unfold maxLen; omega) _ _ _ rfl rfl hk6 _ [] rfl ?_)
  intro u7 ho7 hg6
  try rw [hp6] at ho7
  have hb7 : Below w.heap.size w u7 := hb6.grown hg6 hb6.size (fun j hj => by cases hj; exact Nat.le_refl _)
  clear hk6 hp6 ho6 hg6 hb6
  have hk7 : keyOf Tryz.prog 9 (.string ⟨#[112, 114, 111, 116, 101, 99, 116]⟩) = some (litS ⟨#[112, 114, 111, 116, 101, 99, 116]⟩) := Go.WideMaps.keyOf_string_mk strT_under (by unfold maxLen; decide)
  obtain ⟨es8, hp7, hd8⟩ := hd7.put1 ⟨#[112, 114, 111, 116, 101, 99, 116]⟩ (by decide)
  replace hd8 : CntD es8 (cmdL.take 8) := hd8
  clear hd7
  go_wp2_with (refine wpList_insert_own _ rfl _ _ _ 31 rfl 9 32 (Maps.string_keyed strT_under) mapF_under RF w.heap.size 7 _ rfl ho7 (by unfold maxLen; omega) _ _ _ rfl rfl hk7 _ [] rfl ?_)
  intro u8 ho8 hg7
  try rw [hp7] at ho8
  have hb8 : Below w.heap.size w u8 := hb7.grown hg7 hb7.size (fun j hj => by cases hj; exact Nat.le_refl _)
  clear hk7 hp7 ho7 hg7 hb7
  have hk8 : keyOf Tryz.prog 9 (.string ⟨#[112, 97, 116, 104]⟩) = some (litS ⟨#[112, 97, 116, 104]⟩) := Go.WideMaps.keyOf_string_mk strT_under (by unfold maxLen; decide)
  obtain ⟨es9, hp8, hd9⟩ := hd8.put1 ⟨#[112, 97, 116, 104]⟩ (by decide)
  replace hd9 : CntD es9 (cmdL.take 9) := hd9
  clear hd8
  go_wp2_with (refine wpList_insert_own _ rfl _ _ _ 31 rfl 9 32 (Maps.string_keyed strT_under) mapF_under RF w.heap.size 8 _ rfl ho8 (by unfold maxLen; omega) _ _ _ rfl rfl hk8 _ [] rfl ?_)
  intro u9 ho9 hg8
  try rw [hp8] at ho9
  have hb9 : Below w.heap.size w u9 := hb8.grown hg8 hb8.size (fun j hj => by cases hj; exact Nat.le_refl _)
  clear hk8 hp8 ho8 hg8 hb8
  have hk9 : keyOf Tryz.prog 9 (.string ⟨#[115, 116, 111, 112]⟩) = some (litS ⟨#[115, 116, 111, 112]⟩) := Go.WideMaps.keyOf_string_mk strT_under (by unfold maxLen; decide)
  obtain ⟨es10, hp9, hd10⟩ := hd9.put1 ⟨#[115, 116, 111, 112]⟩ (by decide)
  replace hd10 : CntD es10 (cmdL.take 10) := hd10
  clear hd9
  go_wp2_with (refine wpList_insert_own _ rfl _ _ _ 31 rfl 9 32 (Maps.string_keyed strT_under) mapF_under RF w.heap.size 9 _ rfl ho9 (by unfold maxLen; omega) _ _ _ rfl rfl hk9 _ [] rfl ?_)
  intro u10 ho10 hg9
  try rw [hp9] at ho10
  have hb10 : Below w.heap.size w u10 := hb9.grown hg9 hb9.size (fun j hj => by cases hj; exact Nat.le_refl _)
  clear hk9 hp9 ho9 hg9 hb9
  have hk10 : keyOf Tryz.prog 9 (.string ⟨#[122, 111, 110, 101, 115]⟩) = some (litS ⟨#[122, 111, 110, 101, 115]⟩) := Go.WideMaps.keyOf_string_mk strT_under (by unfold maxLen; decide)
  obtain ⟨es11, hp10, hd11⟩ := hd10.put1 ⟨#[122, 111, 110, 101, 115]⟩ (by decide)
  replace hd11 : CntD es11 (cmdL.take 11) := hd11
  clear hd10
  go_wp2_with (refine wpList_insert_own _ rfl _ _ _ 31 rfl 9 32 (Maps.string_keyed strT_under) mapF_under RF w.heap.size 10 _ rfl ho10 (by unfold maxLen; omega) _ _ _ rfl rfl hk10 _ [] rfl ?_)
  intro u11 ho11 hg10
  try rw [hp10] at ho11
  have hb11 : Below w.heap.size w u11 := hb10.grown hg10 hb10.size (fun j hj => by cases hj; exact Nat.le_refl _)
  clear hk10 hp10 ho10 hg10 hb10
  have hk11 : keyOf Tryz.prog 9 (.string ⟨#[98, 117, 105, 108, 100]⟩) = some (litS ⟨#[98, 117, 105, 108, 100]⟩) := Go.WideMaps.keyOf_string_mk strT_under (by unfold maxLen; decide)
  obtain ⟨es12, hp11, hd12⟩ := hd11.put1 ⟨#[98, 117, 105, 108, 100]⟩ (by decide)
  replace hd12 : CntD es12 (cmdL.take 12) := hd12
  clear hd11
  go_wp2_with (refine wpList_insert_own _ rfl _ _ _ 31 rfl 9 32 (Maps.string_keyed strT_under) mapF_under RF w.heap.size 11 _ rfl ho11 (by unfold maxLen; omega) _ _ _ rfl rfl hk11 _ [] rfl ?_)
  intro u12 ho12 hg11
  try rw [hp11] at ho12
  have hb12 : Below w.heap.size w u12 := hb11.grown hg11 hb11.size (fun j hj => by cases hj; exact Nat.le_refl _)
  clear hk11 hp11 ho11 hg11 hb11
  have hk12 : keyOf Tryz.prog 9 (.string ⟨#[114, 101, 103, 105, 111, 110, 115]⟩) = some (litS ⟨#[114, 101, 103, 105, 111, 110, 115]⟩) := Go.WideMaps.keyOf_string_mk strT_under (by unfold maxLen; decide)
  obtain ⟨es13, hp12, hd13⟩ := hd12.put1 ⟨#[114, 101, 103, 105, 111, 110, 115]⟩ (by decide)
  replace hd13 : CntD es13 (cmdL.take 13) := hd13
  clear hd12
  go_wp2_with (refine wpList_insert_own _ rfl _ _ _ 31 rfl 9 32 (Maps.string_keyed strT_under) mapF_under RF w.heap.size 12 _ rfl ho12 (by unfold maxLen; omega) _ _ _ rfl rfl hk12 _ [] rfl ?_)
  intro u13 ho13 hg12
  try rw [hp12] at ho13
  have hb13 : Below w.heap.size w u13 := hb12.grown hg12 hb12.size (fun j hj => by cases hj; exact Nat.le_refl _)
  clear hk12 hp12 ho12 hg12 hb12
  have hk13 : keyOf Tryz.prog 9 (.string ⟨#[108, 101, 118, 101, 108]⟩) = some (litS ⟨#[108, 101, 118, 101, 108]⟩) := Go.WideMaps.keyOf_string_mk strT_under (by unfold maxLen; decide)
  obtain ⟨es14, hp13, hd14⟩ := hd13.put1 ⟨#[108, 101, 118, 101, 108]⟩ (by decide)
  replace hd14 : CntD es14 (cmdL.take 14) := hd14
  clear hd13
  go_wp2_with (refine wpList_insert_own _ rfl _ _ _ 31 rfl 9 32 (Maps.string_keyed strT_under) mapF_under RF w.heap.size 13 _ rfl ho13 (by unfold maxLen; omega) _ _ _ rfl rfl hk13 _ [] rfl ?_)
  intro u14 ho14 hg13
  try rw [hp13] at ho14
  have hb14 : Below w.heap.size w u14 := hb13.grown hg13 hb13.size (fun j hj => by cases hj; exact Nat.le_refl _)
  clear hk13 hp13 ho13 hg13 hb13
  have hk14 : keyOf Tryz.prog 9 (.string ⟨#[103, 114, 111, 117, 112]⟩) = some (litS ⟨#[103, 114, 111, 117, 112]⟩) := Go.WideMaps.keyOf_string_mk strT_under (by unfold maxLen; decide)
  obtain ⟨es15, hp14, hd15⟩ := hd14.put1 ⟨#[103, 114, 111, 117, 112]⟩ (by decide)
  replace hd15 : CntD es15 (cmdL.take 15) := hd15
  clear hd14
  go_wp2_with (refine wpList_insert_own _ rfl _ _ _ 31 rfl 9 32 (Maps.string_keyed strT_under) mapF_under RF w.heap.size 14 _ rfl ho14 (by unfold maxLen; omega) _ _ _ rfl rfl hk14 _ [] rfl ?_)
  intro u15 ho15 hg14
  try rw [hp14] at ho15
  have hb15 : Below w.heap.size w u15 := hb14.grown hg14 hb14.size (fun j hj => by cases hj; exact Nat.le_refl _)
  clear hk14 hp14 ho14 hg14 hb14
  have hk15 : keyOf Tryz.prog 9 (.string ⟨#[118, 101, 114, 105, 102, 121]⟩) = some (litS ⟨#[118, 101, 114, 105, 102, 121]⟩) := Go.WideMaps.keyOf_string_mk strT_under (by unfold maxLen; decide)
  obtain ⟨es16, hp15, hd16⟩ := hd15.put1 ⟨#[118, 101, 114, 105, 102, 121]⟩ (by decide)
  replace hd16 : CntD es16 (cmdL.take 16) := hd16
  clear hd15
  go_wp2_with (refine wpList_insert_own _ rfl _ _ _ 31 rfl 9 32 (Maps.string_keyed strT_under) mapF_under RF w.heap.size 15 _ rfl ho15 (by unfold maxLen; omega) _ _ _ rfl rfl hk15 _ [] rfl ?_)
  intro u16 ho16 hg15
  try rw [hp15] at ho16
  have hb16 : Below w.heap.size w u16 := hb15.grown hg15 hb15.size (fun j hj => by cases hj; exact Nat.le_refl _)
  clear hk15 hp15 ho15 hg15 hb15
  have hk16 : keyOf Tryz.prog 9 (.string ⟨#[115, 107, 105, 108, 108]⟩) = some (litS ⟨#[115, 107, 105, 108, 108]⟩) := Go.WideMaps.keyOf_string_mk strT_under (by unfold maxLen; decide)
  obtain ⟨es17, hp16, hd17⟩ := hd16.put1 ⟨#[115, 107, 105, 108, 108]⟩ (by decide)
  replace hd17 : CntD es17 (cmdL.take 17) := hd17
  clear hd16
  go_wp2_with (refine wpList_insert_own _ rfl _ _ _ 31 rfl 9 32 (Maps.string_keyed strT_under) mapF_under RF w.heap.size 16 _ rfl ho16 (by unfold maxLen; omega) _ _ _ rfl rfl hk16 _ [] rfl ?_)
  intro u17 ho17 hg16
  try rw [hp16] at ho17
  have hb17 : Below w.heap.size w u17 := hb16.grown hg16 hb16.size (fun j hj => by cases hj; exact Nat.le_refl _)
  clear hk16 hp16 ho16 hg16 hb16
  have hk17 : keyOf Tryz.prog 9 (.string ⟨#[115, 104, 111, 116]⟩) = some (litS ⟨#[115, 104, 111, 116]⟩) := Go.WideMaps.keyOf_string_mk strT_under (by unfold maxLen; decide)
  obtain ⟨es18, hp17, hd18⟩ := hd17.put1 ⟨#[115, 104, 111, 116]⟩ (by decide)
  replace hd18 : CntD es18 (cmdL.take 18) := hd18
  clear hd17
  go_wp2_with (refine wpList_insert_own _ rfl _ _ _ 31 rfl 9 32 (Maps.string_keyed strT_under) mapF_under RF w.heap.size 17 _ rfl ho17 (by unfold maxLen; omega) _ _ _ rfl rfl hk17 _ [] rfl ?_)
  intro u18 ho18 hg17
  try rw [hp17] at ho18
  have hb18 : Below w.heap.size w u18 := hb17.grown hg17 hb17.size (fun j hj => by cases hj; exact Nat.le_refl _)
  clear hk17 hp17 ho17 hg17 hb17
  have hk18 : keyOf Tryz.prog 9 (.string ⟨#[112, 108, 97, 110]⟩) = some (litS ⟨#[112, 108, 97, 110]⟩) := Go.WideMaps.keyOf_string_mk strT_under (by unfold maxLen; decide)
  obtain ⟨es19, hp18, hd19⟩ := hd18.put1 ⟨#[112, 108, 97, 110]⟩ (by decide)
  replace hd19 : CntD es19 (cmdL.take 19) := hd19
  clear hd18
  go_wp2_with (refine wpList_insert_own _ rfl _ _ _ 31 rfl 9 32 (Maps.string_keyed strT_under) mapF_under RF w.heap.size 18 _ rfl ho18 (by unfold maxLen; omega) _ _ _ rfl rfl hk18 _ [] rfl ?_)
  intro u19 ho19 hg18
  try rw [hp18] at ho19
  have hb19 : Below w.heap.size w u19 := hb18.grown hg18 hb18.size (fun j hj => by cases hj; exact Nat.le_refl _)
  clear hk18 hp18 ho18 hg18 hb18
  have hk19 : keyOf Tryz.prog 9 (.string ⟨#[112, 97, 114, 116, 121]⟩) = some (litS ⟨#[112, 97, 114, 116, 121]⟩) := Go.WideMaps.keyOf_string_mk strT_under (by unfold maxLen; decide)
  obtain ⟨es20, hp19, hd20⟩ := hd19.put1 ⟨#[112, 97, 114, 116, 121]⟩ (by decide)
  replace hd20 : CntD es20 (cmdL.take 20) := hd20
  clear hd19
  go_wp2_with (refine wpList_insert_own _ rfl _ _ _ 31 rfl 9 32 (Maps.string_keyed strT_under) mapF_under RF w.heap.size 19 _ rfl ho19 (by unfold maxLen; omega) _ _ _ rfl rfl hk19 _ [] rfl ?_)
  intro u20 ho20 hg19
  try rw [hp19] at ho20
  have hb20 : Below w.heap.size w u20 := hb19.grown hg19 hb19.size (fun j hj => by cases hj; exact Nat.le_refl _)
  clear hk19 hp19 ho19 hg19 hb19
  have hk20 : keyOf Tryz.prog 9 (.string ⟨#[103, 111, 105, 110, 103]⟩) = some (litS ⟨#[103, 111, 105, 110, 103]⟩) := Go.WideMaps.keyOf_string_mk strT_under (by unfold maxLen; decide)
  obtain ⟨es21, hp20, hd21⟩ := hd20.put1 ⟨#[103, 111, 105, 110, 103]⟩ (by decide)
  replace hd21 : CntD es21 (cmdL.take 21) := hd21
  clear hd20
  go_wp2_with (refine wpList_insert_own _ rfl _ _ _ 31 rfl 9 32 (Maps.string_keyed strT_under) mapF_under RF w.heap.size 20 _ rfl ho20 (by unfold maxLen; omega) _ _ _ rfl rfl hk20 _ [] rfl ?_)
  intro u21 ho21 hg20
  try rw [hp20] at ho21
  have hb21 : Below w.heap.size w u21 := hb20.grown hg20 hb20.size (fun j hj => by cases hj; exact Nat.le_refl _)
  clear hk20 hp20 ho20 hg20 hb20
  have hk21 : keyOf Tryz.prog 9 (.string ⟨#[119, 97, 116, 99, 104]⟩) = some (litS ⟨#[119, 97, 116, 99, 104]⟩) := Go.WideMaps.keyOf_string_mk strT_under (by unfold maxLen; decide)
  obtain ⟨es22, hp21, hd22⟩ := hd21.put1 ⟨#[119, 97, 116, 99, 104]⟩ (by decide)
  replace hd22 : CntD es22 (cmdL.take 22) := hd22
  clear hd21
  go_wp2_with (refine wpList_insert_own _ rfl _ _ _ 31 rfl 9 32 (Maps.string_keyed strT_under) mapF_under RF w.heap.size 21 _ rfl ho21 (by unfold maxLen; omega) _ _ _ rfl rfl hk21 _ [] rfl ?_)
  intro u22 ho22 hg21
  try rw [hp21] at ho22
  have hb22 : Below w.heap.size w u22 := hb21.grown hg21 hb21.size (fun j hj => by cases hj; exact Nat.le_refl _)
  clear hk21 hp21 ho21 hg21 hb21
  have hk22 : keyOf Tryz.prog 9 (.string ⟨#[111, 110]⟩) = some (litS ⟨#[111, 110]⟩) := Go.WideMaps.keyOf_string_mk strT_under (by unfold maxLen; decide)
  obtain ⟨es23, hp22, hd23⟩ := hd22.put1 ⟨#[111, 110]⟩ (by decide)
  replace hd23 : CntD es23 (cmdL.take 23) := hd23
  clear hd22
  go_wp2_with (refine wpList_insert_own _ rfl _ _ _ 31 rfl 9 32 (Maps.string_keyed strT_under) mapF_under RF w.heap.size 22 _ rfl ho22 (by unfold maxLen; omega) _ _ _ rfl rfl hk22 _ [] rfl ?_)
  intro u23 ho23 hg22
  try rw [hp22] at ho23
  have hb23 : Below w.heap.size w u23 := hb22.grown hg22 hb22.size (fun j hj => by cases hj; exact Nat.le_refl _)
  clear hk22 hp22 ho22 hg22 hb22
  have hk23 : keyOf Tryz.prog 9 (.string ⟨#[105, 110, 99, 105, 100, 101, 110, 116]⟩) = some (litS ⟨#[105, 110, 99, 105, 100, 101, 110, 116]⟩) := Go.WideMaps.keyOf_string_mk strT_under (by unfold maxLen; decide)
  obtain ⟨es24, hp23, hd24⟩ := hd23.put1 ⟨#[105, 110, 99, 105, 100, 101, 110, 116]⟩ (by decide)
  replace hd24 : CntD es24 (cmdL.take 24) := hd24
  clear hd23
  go_wp2_with (refine wpList_insert_own _ rfl _ _ _ 31 rfl 9 32 (Maps.string_keyed strT_under) mapF_under RF w.heap.size 23 _ rfl ho23 (by unfold maxLen; omega) _ _ _ rfl rfl hk23 _ [] rfl ?_)
  intro u24 ho24 hg23
  try rw [hp23] at ho24
  have hb24 : Below w.heap.size w u24 := hb23.grown hg23 hb23.size (fun j hj => by cases hj; exact Nat.le_refl _)
  clear hk23 hp23 ho23 hg23 hb23
  have hk24 : keyOf Tryz.prog 9 (.string ⟨#[114, 101, 112, 111, 114, 116]⟩) = some (litS ⟨#[114, 101, 112, 111, 114, 116]⟩) := Go.WideMaps.keyOf_string_mk strT_under (by unfold maxLen; decide)
  obtain ⟨es25, hp24, hd25⟩ := hd24.put1 ⟨#[114, 101, 112, 111, 114, 116]⟩ (by decide)
  replace hd25 : CntD es25 (cmdL.take 25) := hd25
  clear hd24
  go_wp2_with (refine wpList_insert_own _ rfl _ _ _ 31 rfl 9 32 (Maps.string_keyed strT_under) mapF_under RF w.heap.size 24 _ rfl ho24 (by unfold maxLen; omega) _ _ _ rfl rfl hk24 _ [] rfl ?_)
  intro u25 ho25 hg24
  try rw [hp24] at ho25
  have hb25 : Below w.heap.size w u25 := hb24.grown hg24 hb24.size (fun j hj => by cases hj; exact Nat.le_refl _)
  clear hk24 hp24 ho24 hg24 hb24
  have hk25 : keyOf Tryz.prog 9 (.string ⟨#[115, 104, 111, 119]⟩) = some (litS ⟨#[115, 104, 111, 119]⟩) := Go.WideMaps.keyOf_string_mk strT_under (by unfold maxLen; decide)
  obtain ⟨es26, hp25, hd26⟩ := hd25.put1 ⟨#[115, 104, 111, 119]⟩ (by decide)
  replace hd26 : CntD es26 (cmdL.take 26) := hd26
  clear hd25
  go_wp2_with (refine wpList_insert_own _ rfl _ _ _ 31 rfl 9 32 (Maps.string_keyed strT_under) mapF_under RF w.heap.size 25 _ rfl ho25 (by unfold maxLen; omega) _ _ _ rfl rfl hk25 _ [] rfl ?_)
  intro u26 ho26 hg25
  try rw [hp25] at ho26
  have hb26 : Below w.heap.size w u26 := hb25.grown hg25 hb25.size (fun j hj => by cases hj; exact Nat.le_refl _)
  clear hk25 hp25 ho25 hg25 hb25
  have hk26 : keyOf Tryz.prog 9 (.string ⟨#[104, 101, 108, 112]⟩) = some (litS ⟨#[104, 101, 108, 112]⟩) := Go.WideMaps.keyOf_string_mk strT_under (by unfold maxLen; decide)
  obtain ⟨es27, hp26, hd27⟩ := hd26.put1 ⟨#[104, 101, 108, 112]⟩ (by decide)
  replace hd27 : CntD es27 (cmdL.take 27) := hd27
  clear hd26
  go_wp2_with (refine wpList_insert_own _ rfl _ _ _ 31 rfl 9 32 (Maps.string_keyed strT_under) mapF_under RF w.heap.size 26 _ rfl ho26 (by unfold maxLen; omega) _ _ _ rfl rfl hk26 _ [] rfl ?_)
  intro u27 ho27 hg26
  try rw [hp26] at ho27
  have hb27 : Below w.heap.size w u27 := hb26.grown hg26 hb26.size (fun j hj => by cases hj; exact Nat.le_refl _)
  clear hk26 hp26 ho26 hg26 hb26
  go_wp2
  go_ret
  exact ⟨es27, rfl, ho27, hd27, hb27⟩
set_option maxRecDepth 100000 in
set_option maxHeartbeats 4000000 in
theorem implCommandNames_any (w : World) :
    Calls Tryz.prog 5 #[] w fun e w' => NewR fStr.cod w cmdS e w' := by
  go_enter Tryz.func5, Tryz.ntmps5
  go_wp2_with fail
  refine (deskCommands_any _).mono ?_
  rintro e w1 ⟨es, rfl, hown, hD, hb1⟩
  go_wp2_with fail
  refine (keysF_any _ _).mono ?_
  rintro e w' ⟨rfl, rfl⟩
  go_wp2_with fail
  refine (sortedKeysF_any w.heap.size 27 es cmdL _ _ hown (by omega) hD).mono ?_
  rintro e w3 ⟨v3, rfl, hown3, hb3⟩
  have hbk : Below w1.heap.size w1 (w1.alloc (.cells #[.map (some w.heap.size)] 31)) := (Below.refl _ _).alloc (Nat.le_refl _) _
  have hB : Below w.heap.size w w3 := hb1.trans ((hbk.trans (hb3.mono hbk.size)).mono hb1.size)
  have hs1 := hb1.size
  rw [cmd_all] at hown3
  have ho3 : Own fStr w3 w.heap.size 9 v3 cmdS := own_monoE hown3 (by have := hbk.size; omega)
  have hn := ho3.new hB cmd_oks
  obtain ⟨A3, c3, rfl⟩ := ho3.form
  have HN := Lib.hid hn
  clear hn ho3 hown3 hown hD
  go_wp2
  go_ret
  exact ⟨_, rfl, HN.out⟩
set_option maxRecDepth 100000 in
set_option maxHeartbeats 4000000 in
theorem specCommandNames_any (w : World) :
    Calls Tryz.prog 4 #[] w fun e w' => NewR fStr.cod w cmdS e w' := by
  have hb : Below w.heap.size w (w.alloc (.cells (cmdS.map Value.string).toArray 9)) := (Below.refl _ _).alloc (Nat.le_refl _) _
  have ho : Own fStr (w.alloc (.cells (cmdS.map Value.string).toArray 9)) w.heap.size 9 (.slice (some ⟨w.heap.size, 0, none⟩) 27 27) cmdS := by
    have h := World.ownsRow_lit (e := 9) (size := 1) (base := w.heap.size) w (cmdS.map Value.string).toArray 27 (Nat.le_refl _) (by decide) rfl
    exact h
  have hn := Lib.hid (ho.new hb cmd_oks)
  clear ho
  go_enter Tryz.func4, Tryz.ntmps4
  go_wp2
  go_ret
  exact ⟨_, rfl, hn.out⟩

end Go.Proofs.YticoiaibcgpbjaaGreatDoor

namespace Go.Proofs.YticoiaibcgpbjaaGreatDoor
theorem listEq_step {α : Type} {xs ys : List α} {k : Nat} (hx : k < xs.length) (hy : k < ys.length) (h0 : xs.take k = ys.take k) (h1 : xs[k] = ys[k]) : xs.take (k + 1) = ys.take (k + 1) := by
  rw [List.take_succ_eq_append_getElem hx, List.take_succ_eq_append_getElem hy, h0, h1]
theorem listEq_bad {α : Type} {xs ys : List α} {k : Nat} (hx : k < xs.length) (hy : k < ys.length) (h1 : ¬ xs[k] = ys[k]) : ¬ xs = ys := by
  intro h; subst h; exact h1 rfl
theorem listEq_full {α : Type} {xs ys : List α} {k : Nat} (hx : xs.length ≤ k) (hy : ys.length ≤ k) (h0 : xs.take k = ys.take k) : xs = ys := by
  rwa [List.take_of_length_le hx, List.take_of_length_le hy] at h0
end Go.Proofs.YticoiaibcgpbjaaGreatDoor

namespace Go.Proofs.YticoiaibcgpbjaaGreatDoor
open Go.RowKit
set_option linter.unusedVariables false

end Go.Proofs.YticoiaibcgpbjaaGreatDoor

namespace Go.Proofs.YticoiaibcgpbjaaGreatDoor
open Go.RowKit
set_option linter.unusedVariables false

set_option maxRecDepth 100000 in
set_option maxHeartbeats 2000000 in
theorem walkCommandNames  (w : World)  :
    Calls Tryz.prog 3 #[] w fun e w' => YesR w e w' := by
  have hb : Below w.heap.size w w := Below.refl _ _
  go_enter Tryz.func3, Tryz.ntmps3
  go_wp2_with fail
  refine (specCommandNames_any _).mono ?_
  rintro e w1 ⟨y0, rfl, ⟨⟨fy0, hy0, lo0, nd0⟩, hbn0⟩⟩
  have hi0_ := hy0.lt
  have hsw1 := hbn0.size
  replace hb := hb.trans (hbn0.mono hb.size)
  clear hbn0
  go_wp2_with fail
  refine (implCommandNames_any _).mono ?_
  rintro e w2 ⟨y1, rfl, ⟨⟨fy1, hy1, lo1, nd1⟩, hbn0⟩⟩
  have hi1_ := hy1.lt
  have hsw2 := hbn0.size
  replace hy0 := hy0.below' hbn0
  replace hb := hb.trans (hbn0.mono hb.size)
  clear hbn0
  go_wp2_with fail
  refine (eqStringS_any _ _ _ _ _ _ hy1 hy0).mono ?_
  rintro e w3 ⟨rfl, hbn⟩
  have hsw3 := hbn.size
  replace hy0 := hy0.below' hbn
  replace hy1 := hy1.below' hbn
  replace hb := hb.trans (hbn.mono hb.size)
  clear hbn
  go_wp2_with fail
  have hgl : (cmdS).length ≤ 100000000000 := (by decide)
  refine (markStringS_any _ _ _ _ _ hy1 (by omega) (by omega)).mono ?_
  clear hgl
  rintro e w4 ⟨rfl, hmk, hon⟩
  replace hy0 := hy0.only hon (fun b h1 h2 => by have q1 := lo0 b h1; have q2 := lo1 b h2; have q3 := hi0_ b h1; have q4 := hi1_ b h2; omega)
  replace hy1 := hmk
  clear hmk
  have hsw4 := hon.size
  replace hb := hb.trans (hon.below (B := w.heap.size) (by omega) (fun b h => by have q1 := lo1 b h; omega))
  clear hon
  go_wp2_with fail
  have hgl : (cmdS).length ≤ 100000000000 := (by decide)
  refine (heldStringS_any _ _ _ _ _ hy1 (by omega) (by omega)).mono ?_
  clear hgl
  rintro e w5 ⟨rfl, hbn⟩
  have hsw5 := hbn.size
  replace hy0 := hy0.below' hbn
  replace hy1 := hy1.below' hbn
  replace hb := hb.trans (hbn.mono hb.size)
  clear hbn
  go_wp2_with fail
  refine (implCommandNames_any _).mono ?_
  rintro e w6 ⟨y2, rfl, ⟨⟨fy2, hy2, lo2, nd2⟩, hbn0⟩⟩
  have hi2_ := hy2.lt
  have hsw6 := hbn0.size
  replace hy0 := hy0.below' hbn0
  replace hy1 := hy1.below' hbn0
  replace hb := hb.trans (hbn0.mono hb.size)
  clear hbn0
  go_wp2_with fail
  refine (eqStringS_any _ _ _ _ _ _ hy2 hy0).mono ?_
  rintro e w7 ⟨rfl, hbn⟩
  have hsw7 := hbn.size
  replace hy0 := hy0.below' hbn
  replace hy1 := hy1.below' hbn
  replace hy2 := hy2.below' hbn
  replace hb := hb.trans (hbn.mono hb.size)
  clear hbn
  go_wp2_with fail
  have hgl : (cmdS).length ≤ 100000000000 := (by decide)
  refine (heldStringS_any _ _ _ _ _ hy1 (by omega) (by omega)).mono ?_
  clear hgl
  rintro e w8 ⟨rfl, hbn⟩
  have hsw8 := hbn.size
  replace hy0 := hy0.below' hbn
  replace hy1 := hy1.below' hbn
  replace hy2 := hy2.below' hbn
  replace hb := hb.trans (hbn.mono hb.size)
  clear hbn
  go_wp2_with fail
  go_ret
  exact ⟨rfl, hb⟩
end Go.Proofs.YticoiaibcgpbjaaGreatDoor

namespace Go.Proofs.YticoiaibcgpbjaaGreatDoor
open Go.RowKit Go.WideShapes Go.ChangeShapes Go.ChangeAt

theorem Tryz.own : ownKnob Tryz.prog.godebug = none := by kernel_rfl
theorem Tryz.laidOut : laidOutB Tryz.prog = true := by kernel_rfl

section
variable {H : Type} {enc : TypeId × Value → H} {P : Program}
theorem post_of_below {f : Func} {s : ChangeSpec} {apart fresh handsOn again : Bool} {W W' : World} {args : Array Value} {v : Value} {ds gs : List (DataW H)} {before pa pv : List MemPlace}
    (hW : DataW.Whole enc P f.params.toList s.vars apart W args.toList ds gs before)
    (hres : ∀ (b : Nat) (sp : Nat → Bool) (hd : Bool), DataW.TrodAll enc P W' b sp hd f.resultTypes.toList (v.resultList f.resultTypes.size) (s.fn H (ds ++ gs)).results [])
    (hargs : ∀ sp : Nat → Bool, (∀ p ∈ before, sp p.block = true) → DataW.TrodAll enc P W' 0 sp true f.params.toList args.toList (s.fn H (ds ++ gs)).args pa)
    (hvars : ∀ sp : Nat → Bool, (∀ p ∈ before, sp p.block = true) → DataW.TrodVars enc P W' sp s.vars (s.fn H (ds ++ gs)).vars pv)
    (hps : before = pa ++ pv) (hb : Below W.heap.size W W')
    (hok : ∀ (j : Nat) (t : TypeId) (r : Value), f.resultTypes[j]? = some t → (v.resultList f.resultTypes.size)[j]? = some r → Value.okWide P W' .any 0 t r) :
    s.post enc P f apart fresh handsOn again W args v W' := by
  have hlt : ∀ p ∈ before, p.block < W.heap.size := fun p hp => hW.lt p hp
  have hold : ∀ p ∈ before, (fun b => decide (b < W.heap.size)) p.block = true := fun p hp => by simpa using hlt p hp
  refine ⟨ds, gs, before, [], pa, pv, hW, hres _ _ _, hargs _ hold, hvars _ hold, World.keptBut_mono (fun p hp => ⟨hp, ?_⟩) (hb.frame (· ∈ before)), fun _ => ?_⟩
  · rw [hps, List.mem_append] at hp
    exact Or.inr hp
  · obtain ⟨_, _, _, _, _, hz, hn⟩ := hW
    refine ⟨hok, _, _, ([] ++ pa) ++ pv, ⟨[] ++ pa, pv, trodAll_append (hargs _ (fun _ _ => rfl)) (hres _ _ _), hvars _ (fun _ _ => rfl), rfl, ?_, ?_⟩, ?_⟩
    · intro b off hp
      have hin : MemPlace.cell b off ∈ before := by rw [hps]; simpa using hp
      rw [hb.frozen (hlt _ hin)]
      exact hz b off hin
    · intro ha
      have := hn ha
      rw [hps] at this
      simpa using this
    · intro p hp _
      rw [hps]
      simpa using hp
end

theorem trodAll_below {H : Type} {enc : TypeId × Value → H} {P : Program} (hl : laidOutB P = true) {W W' : World} (hb : Below W.heap.size W W') {sp : Nat → Bool} :
    ∀ (ts : List TypeId) (vs : List Value) (ds : List (DataW H)) (ps : List MemPlace), (∀ t ∈ ts, P.readableRec t = true ∧ t < P.types.size) → DataW.TrodAll enc P W 0 (fun _ => true) true ts vs ds ps → (∀ x ∈ ps, x.block < W.heap.size) → (∀ x ∈ ps, sp x.block = true) → DataW.TrodAll enc P W' 0 sp true ts vs ds ps
  | [], [], [], ps, _, h, _, _ => h
  | t :: ts, v :: vs, d :: ds, ps, hr, h, hlt, hsp => by
    obtain ⟨p, q, h1, h2, rfl⟩ := h
    obtain ⟨r1, r2⟩ := hr t (by simp)
    exact ⟨p, q, WideElems.Trod_stays hl r1 r2 h1 (fun x hx => hb.same (hlt x (by simp [hx]))) (fun x hx => hsp x (by simp [hx])), trodAll_below hl hb ts vs ds q (fun t ht => hr t (by simp [ht])) h2 (fun x hx => hlt x (by simp [hx])) (fun x hx => hsp x (by simp [hx])), rfl⟩
  | [], _ :: _, _, _, _, h, _, _ => by cases h
  | [], [], _ :: _, _, _, h, _, _ => by cases h
  | _ :: _, [], _, _, _, h, _, _ => by cases h
  | _ :: _, _ :: _, [], _, _, h, _, _ => by cases h

theorem trodAll_len {H : Type} {enc : TypeId × Value → H} {P : Program} {W : World} {b : Nat} {sp : Nat → Bool} {hd : Bool} : ∀ (ts : List TypeId) (vs : List Value) (ds : List (DataW H)) (ps : List MemPlace), DataW.TrodAll enc P W b sp hd ts vs ds ps → ds.length = ts.length
  | [], [], [], _, _ => rfl
  | _ :: ts, _ :: vs, _ :: ds, _, h => by obtain ⟨p, q, h1, h2, rfl⟩ := h; simp [trodAll_len ts vs ds q h2]
  | [], _ :: _, _, _, h => by cases h
  | [], [], _ :: _, _, h => by cases h
  | _ :: _, [], _, _, h => by cases h
  | _ :: _, _ :: _, [], _, h => by cases h

set_option maxRecDepth 100000 in
theorem law_lifted {F : FuncId} {fn : Func} {s : ChangeSpec} (os : Os) (started : os.Started) (H : Type) (enc : TypeId × Value → H)
    (hfn : Tryz.checked.prog.funcs[F]? = some fn) (noInit : Tryz.checked.prog.inits.idxOf? F = none)
    (witness : ∃ (w : World) (tape : Tape) (i : Input), w.os = os ∧ (w.forCall tape i).Shaped Tryz.checked.prog ∧ i.vars = [] ∧ Input.okWide Tryz.checked.prog (w.forCall tape i) .any w.heap.size F i ∧
      s.pre6 enc Tryz.checked.prog fn [] false (w.forCall tape i).memory i.args ∧ ({} : Assume).holds Tryz.checked.prog (lone (Frame.enter Tryz.checked.prog F i.args .normal) [] (w.forCall tape i)))
    (hs : s.vars = []) (hres : fn.resultTypes = #[4]) (hread : ∀ t ∈ fn.params.toList, Tryz.prog.readableRec t = true ∧ t < Tryz.prog.types.size)
    (hspec : ∀ ds : List (DataW H), ds.length = fn.params.toList.length → s.fn H ds = { results := [.lit (.bool true)], args := ds })
    (walk : ∀ (W : World) (args : Array Value) (ds : List (DataW H)) (p : List MemPlace), (∀ (j : Nat) t v, fn.params[j]? = some t → args[j]? = some v → ∃ base, Value.okWide Tryz.prog W .any base t v) →
      DataW.TrodAll enc Tryz.prog W 0 (fun _ => true) true fn.params.toList args.toList ds p → W.noneFrozen p → Calls Tryz.prog F args W fun e W' => e = .returned (.bool true) ∧ Below W.heap.size W W') :
    ReturnsInHanded {} Tryz.checked os F .any (s.pre6 enc Tryz.checked.prog fn [] false) (s.post enc Tryz.checked.prog fn false true false false) := by
  refine returnsInHanded_of_change (C := Tryz.checked) Tryz.own started noInit hfn witness ?_
  intro W base args ds gs before hval hW hcnd _
  have hW' := hW
  obtain ⟨p, q, hA, hV, hpq, hfz, hnd⟩ := hW
  rw [hs] at hV
  obtain ⟨rfl, rfl⟩ := trodVars_none hV
  rw [List.append_nil] at hpq
  subst hpq
  refine (walk W args ds _ (fun j t v h1 h2 => ⟨base, hval j t v h1 h2⟩) hA hfz).mono fun e W' ⟨he, hb⟩ => ?_
  subst he
  have hsp : s.fn H (ds ++ []) = { results := [.lit (.bool true)], args := ds } := by
    rw [List.append_nil]; exact hspec ds (trodAll_len _ _ _ _ hA)
  have hlt := fun x hx => hW'.lt x hx
  refine ⟨_, rfl, post_of_below (pa := before) (pv := []) hW' (fun b sp hd => ?_) (fun sp h => ?_) (fun sp h => ?_) (by simp) hb ?_⟩
  · rw [hsp, hres]; exact trodAll_mk1 (shut_bool Tryz.underlying4 _)
  · rw [hsp]; exact trodAll_below Tryz.laidOut hb _ _ _ _ hread hA hlt h
  · rw [hsp, hs]; rfl
  · rw [hres]; exact fun j t r h1 h2 => ok_one (f := fn) hres rfl (okWide_bool_mk Tryz.underlying4 _) j t r (by rw [hres]; exact h1) (by rw [hres]; exact h2)

end Go.Proofs.YticoiaibcgpbjaaGreatDoor

namespace Go.Proofs.YticoiaibcgpbjaaGreatDoor
open Go.RowKit Go.WideShapes Go.ChangeShapes Go.ChangeAt

set_option maxRecDepth 100000 in
theorem law_liftedS {F : FuncId} {fn : Func} {s : ChangeSpec} (os : Os) (started : os.Started) (H : Type) (enc : TypeId × Value → H)
    (hfn : Tryz.checked.prog.funcs[F]? = some fn) (noInit : Tryz.checked.prog.inits.idxOf? F = none)
    (witness : ∃ (w : World) (tape : Tape) (i : Input), w.os = os ∧ (w.forCall tape i).Shaped Tryz.checked.prog ∧ i.vars = [] ∧ Input.okWide Tryz.checked.prog (w.forCall tape i) .any w.heap.size F i ∧
      s.pre6 enc Tryz.checked.prog fn [] false (w.forCall tape i).memory i.args ∧ ({} : Assume).holds Tryz.checked.prog (lone (Frame.enter Tryz.checked.prog F i.args .normal) [] (w.forCall tape i)))
    (hs : s.vars = []) (hres : fn.resultTypes = #[4]) (hread : ∀ t ∈ fn.params.toList, Tryz.prog.readableRec t = true ∧ t < Tryz.prog.types.size)
    (hspec : ∀ ds : List (DataW H), ds.length = fn.params.toList.length → s.fn H ds = { results := [.lit (.bool true)], args := ds })
    (walk : ∀ (W : World) (args : Array Value) (ds : List (DataW H)) (p : List MemPlace), W.ShapedOpen Tryz.prog → (∀ (j : Nat) t v, fn.params[j]? = some t → args[j]? = some v → ∃ base, Value.okWide Tryz.prog W .any base t v) →
      DataW.TrodAll enc Tryz.prog W 0 (fun _ => true) true fn.params.toList args.toList ds p → W.noneFrozen p → Calls Tryz.prog F args W fun e W' => e = .returned (.bool true) ∧ Below W.heap.size W W') :
    ReturnsInHanded {} Tryz.checked os F .any (s.pre6 enc Tryz.checked.prog fn [] false) (s.post enc Tryz.checked.prog fn false true false false) := by
  refine returnsInHanded_of_change_shaped (C := Tryz.checked) Tryz.own started noInit hfn witness ?_
  intro W base args ds gs before hval hW hcnd _ hsh _
  have hW' := hW
  obtain ⟨p, q, hA, hV, hpq, hfz, hnd⟩ := hW
  rw [hs] at hV
  obtain ⟨rfl, rfl⟩ := trodVars_none hV
  rw [List.append_nil] at hpq
  subst hpq
  refine (walk W args ds _ hsh (fun j t v h1 h2 => ⟨base, hval j t v h1 h2⟩) hA hfz).mono fun e W' ⟨he, hb⟩ => ?_
  subst he
  have hsp : s.fn H (ds ++ []) = { results := [.lit (.bool true)], args := ds } := by
    rw [List.append_nil]; exact hspec ds (trodAll_len _ _ _ _ hA)
  have hlt := fun x hx => hW'.lt x hx
  refine ⟨_, rfl, post_of_below (pa := before) (pv := []) hW' (fun b sp hd => ?_) (fun sp h => ?_) (fun sp h => ?_) (by simp) hb ?_⟩
  · rw [hsp, hres]; exact trodAll_mk1 (shut_bool Tryz.underlying4 _)
  · rw [hsp]; exact trodAll_below Tryz.laidOut hb _ _ _ _ hread hA hlt h
  · rw [hsp, hs]; rfl
  · rw [hres]; exact fun j t r h1 h2 => ok_one (f := fn) hres rfl (okWide_bool_mk Tryz.underlying4 _) j t r (by rw [hres]; exact h1) (by rw [hres]; exact h2)

/-- A variable of the library's own holds some number. -/
theorem maxLen_cell {w : World} (h : w.ShapedOpen Tryz.prog) : ∃ m, w.cell? ⟨0, 0, none⟩ = some (.int .i64 m) :=
  Go.Proofs.cell_of_shapedOpen_int (zero := #[.int .i64 0]) (t := 3) h (of_decide_eq_true (by kernel_rfl)) (by kernel_rfl) rfl (by kernel_rfl) (by kernel_rfl) Tryz.underlying3
theorem cell_below {w w' : World} {a : Addr} {v : Value} (h : Below w.heap.size w w') (c : w.cell? a = some v) : w'.cell? a = some v := (h.cell (block_lt_of_cell c)).trans c
end Go.Proofs.YticoiaibcgpbjaaGreatDoor

namespace Go.Proofs.YticoiaibcgpbjaaGreatDoor
open Go.RowKit Go.WideShapes Go.ChangeShapes Go.ChangeAt

set_option maxRecDepth 100000 in
theorem law_liftedL {F : FuncId} {fn : Func} {s : ChangeSpec} (laid : List (String × DataW Unit)) (os : Os) (started : os.Started) (H : Type) (enc : TypeId × Value → H)
    (hfn : Tryz.checked.prog.funcs[F]? = some fn) (noInit : Tryz.checked.prog.inits.idxOf? F = none)
    (witness : ∃ (w : World) (tape : Tape) (i : Input), w.os = os ∧ (w.forCall tape i).Shaped Tryz.checked.prog ∧ i.vars = [] ∧ Input.okWide Tryz.checked.prog (w.forCall tape i) .any w.heap.size F i ∧
      ((s.pre enc Tryz.checked.prog fn [] false (w.forCall tape i).memory i.args ∧ laidMetH Tryz.checked.prog laid (w.forCall tape i).memory) ∧ sizedMet enc Tryz.checked.prog fn (OpenSpec.ofChange s) false (w.forCall tape i).memory i.args) ∧ ({} : Assume).holds Tryz.checked.prog (lone (Frame.enter Tryz.checked.prog F i.args .normal) [] (w.forCall tape i)))
    (hs : s.vars = []) (hres : fn.resultTypes = #[4]) (hread : ∀ t ∈ fn.params.toList, Tryz.prog.readableRec t = true ∧ t < Tryz.prog.types.size)
    (hspec : ∀ ds : List (DataW H), ds.length = fn.params.toList.length → s.fn H ds = { results := [.lit (.bool true)], args := ds })
    (walk : ∀ (W : World) (args : Array Value) (ds : List (DataW H)) (p : List MemPlace), W.ShapedOpen Tryz.prog → laidMetH Tryz.prog laid W → (∀ (j : Nat) t v, fn.params[j]? = some t → args[j]? = some v → ∃ base, Value.okWide Tryz.prog W .any base t v) →
      DataW.TrodAll enc Tryz.prog W 0 (fun _ => true) true fn.params.toList args.toList ds p → W.noneFrozen p → Calls Tryz.prog F args W fun e W' => e = .returned (.bool true) ∧ Below W.heap.size W W') :
    ReturnsInHanded {} Tryz.checked os F .any (fun w args => (s.pre enc Tryz.checked.prog fn [] false w args ∧ laidMetH Tryz.checked.prog laid w) ∧ sizedMet enc Tryz.checked.prog fn (OpenSpec.ofChange s) false w args) (s.post enc Tryz.checked.prog fn false true false false) := by
  refine returnsInHanded_of_calls (C := Tryz.checked) Tryz.own started noInit witness ?_
  intro w tape i _ hsh _ hok hpre hholds
  obtain ⟨_, _, _, fn', hfn', _, _, _, _, hval⟩ := hok
  have e : fn' = fn := Option.some.inj (hfn'.symm.trans hfn)
  subst e
  obtain ⟨⟨⟨ds, gs, before, hw, hc⟩, hx⟩, hz⟩ := hpre
  have hW := DataW.Whole.of_heap (w' := w.forCall tape i) (by rfl) hw
  have hX : laidMetH Tryz.prog laid (w.forCall tape i) := laidMetH.of_heap (by rfl) hx
  generalize w.forCall tape i = W at *
  have hW' := hW
  obtain ⟨p, q, hA, hV, hpq, hfz, hnd⟩ := hW
  rw [hs] at hV
  obtain ⟨rfl, rfl⟩ := trodVars_none hV
  rw [List.append_nil] at hpq
  subst hpq
  refine (walk W i.args ds _ hsh hX (fun j t v h1 h2 => ⟨w.heap.size, hval j t v h1 h2⟩) hA hfz).mono fun e W' ⟨he, hb⟩ => ?_
  subst he
  have hsp : s.fn H (ds ++ []) = { results := [.lit (.bool true)], args := ds } := by
    rw [List.append_nil]; exact hspec ds (trodAll_len _ _ _ _ hA)
  have hlt := fun x hx => hW'.lt x hx
  refine ChangeSpec.post_blind (W := W) ?_
  refine post_of_below (pa := before) (pv := []) hW' (fun b sp hd => ?_) (fun sp h => ?_) (fun sp h => ?_) (by simp) hb ?_
  · rw [hsp, hres]; exact trodAll_mk1 (shut_bool Tryz.underlying4 _)
  · rw [hsp]; exact trodAll_below Tryz.laidOut hb _ _ _ _ hread hA hlt h
  · rw [hsp, hs]; rfl
  · rw [hres]; exact fun j t r h1 h2 => ok_one (f := fn') hres rfl (okWide_bool_mk Tryz.underlying4 _) j t r (by rw [hres]; exact h1) (by rw [hres]; exact h2)
end Go.Proofs.YticoiaibcgpbjaaGreatDoor

namespace Go.Proofs.YticoiaibcgpbjaaGreatDoor
noncomputable def doorWorld (os : Os) : World := (World.doorLaid Tryz.prog 72 os).setRow 4 (Go.Pinned.utf8FirstZ.map (fun z : Nat => Value.int .u8 (z : Int))).toArray
end Go.Proofs.YticoiaibcgpbjaaGreatDoor

namespace Go.Proofs.YticoiaibcgpbjaaGreatDoor
open Go.RowKit Go.WideShapes Go.ChangeShapes Go.ChangeAt Go.Deep

/-- Whatever the form's reader reads at type t reads by E. -/
def Opens {α : Type} (t : TypeId) (E : Cod α) : Prop :=
  ∀ {H : Type} {enc : TypeId × Value → H} {w : World} {n : Nat} {cs : List Value} {x : DataW H × List MemPlace},
    DataW.trod enc Tryz.prog w 0 (fun _ => true) true n t cs = some x → w.noneFrozen x.2 → ∃ y fp, E.rd w cs y fp

theorem opens_int {t : TypeId} (ht : Tryz.prog.underlying t = some (.int .i64)) : Opens t fInt.cod := by
  intro H enc w n cs x h _
  obtain ⟨k, rfl, rfl, wk⟩ := DataW.trod_int ht h
  refine ⟨k, [], rfl, ?_, rfl⟩
  exact bounds_i64 wk
theorem opens_str {t : TypeId} (ht : Tryz.prog.underlying t = some .string) : Opens t fStr.cod := by
  intro H enc w n cs x h _
  obtain ⟨s, rfl, rfl, hs⟩ := DataW.trod_string ht h
  exact ⟨s, [], rfl, by unfold maxLen at hs; exact hs, rfl⟩
theorem opens_bool {t : TypeId} (ht : Tryz.prog.underlying t = some .bool) : Opens t fBool.cod := by
  intro H enc w n cs x h _
  obtain ⟨s, rfl, rfl⟩ := DataW.trod_bool ht h
  exact ⟨s, [], rfl, trivial, rfl⟩

theorem add_none (b off x y : Nat) : ((⟨b, off, none⟩ : Addr).add x).add y = ⟨b, off + x + y, none⟩ := by
  unfold Addr.add
  by_cases hx : x = 0 <;> by_cases hy : y = 0 <;> simp [hx, hy]

theorem opens_slice {α : Type} {E : Cod α} {t e : TypeId} (ht : Tryz.prog.underlying t = some (.slice e)) (hn : Tryz.prog.cellsOf e = E.n) (he : Opens e E) : Opens t E.slice := by
  intro H enc w n cs x h hfz
  rcases open_slice ht h with ⟨rfl, rfl⟩ | ⟨a, len, cap, m, n', D, Pl, rfl, hb, hl, hm, hmm, hx, hi⟩
  · exact ⟨[], [], _, rfl, none, 0, rfl, by simp, by simp [maxLen], .inl ⟨rfl, rfl⟩⟩
  · simp only [if_true] at hmm
    subst hmm
    rcases Nat.eq_zero_or_pos len with h0 | h0
    · subst h0
      exact ⟨[], [], _, rfl, some a, m, rfl, by simp, hm, .inl ⟨rfl, rfl⟩⟩
    · rw [hn] at hi
      have hspot : a = ⟨a.block, a.off, none⟩ := by
        obtain ⟨cs', hc, _⟩ := hi 0 (by omega)
        obtain ⟨_, hcl, hat⟩ := World.cells?_some hc
        have h1 := hat 0 E.pos
        have hps := E.pos
        rw [List.getElem?_eq_getElem (by omega)] at h1
        have h2 : w.cell? a = some cs'[0] := by simpa [Addr.add] using h1
        have := World.cell?_spot h2
        cases a; simp_all
      have hel : ∀ i : Fin len, ∃ p : α × List Nat × List Value, (∀ j, j < E.n → w.cell? ⟨a.block, a.off + i.1 * E.n + j, none⟩ = p.2.2[j]?) ∧ (∀ j, j < E.n → w.frozen? ⟨a.block, a.off + i.1 * E.n + j, none⟩ = false) ∧ E.rd w p.2.2 p.1 p.2.1 := by
        intro ⟨i, hil⟩
        obtain ⟨cs', hc, htr⟩ := hi i (by omega)
        obtain ⟨_, hcl, hat⟩ := World.cells?_some hc
        have hsub : ∀ pl ∈ Pl i, pl ∈ x.2 := by
          intro pl hpl
          rw [hx]
          exact List.mem_append_right _ (List.mem_flatMap.2 ⟨i, by simp; omega, hpl⟩)
        obtain ⟨y, fp, hy⟩ := he htr (fun b off hmem => hfz b off (hsub _ hmem))
        refine ⟨⟨y, fp, cs'⟩, fun j hj => ?_, fun j hj => ?_, hy⟩
        · have := hat j hj
          rw [hspot, add_none] at this
          exact this
        · refine hfz _ _ ?_
          rw [hx]
          refine List.mem_append_left _ ?_
          unfold MemPlace.row
          refine List.mem_map.2 ⟨i * E.n + j, ?_, by rw [Nat.add_assoc]⟩
          rw [List.mem_range, hn]
          have : (i + 1) * E.n ≤ m * E.n := Nat.mul_le_mul_right _ (by omega)
          rw [Nat.succ_mul] at this
          omega
      obtain ⟨f, hf⟩ := Classical.axiomOfChoice hel
      have hblk : a.block < w.heap.size := by
        obtain ⟨h1, _, h3⟩ := hf ⟨0, h0⟩
        have h1 := h1 0 E.pos
        have h4 := E.len h3
        have hps := E.pos
        rw [List.getElem?_eq_getElem (by omega)] at h1
        exact block_lt_of_cell (a := ⟨a.block, _, none⟩) h1
      refine ⟨List.ofFn fun i => (f i).1, a.block :: (List.range len).flatMap fun i => if h : i < len then (f ⟨i, h⟩).2.1 else [], _, rfl, some a, m, by simp, by simpa using hl, hm,
        .inr ⟨a.block, a.off, _, by rw [← hspot], hblk, by rw [List.length_ofFn], fun i hil => ?_⟩⟩
      rw [List.length_ofFn] at hil
      obtain ⟨h1, h2, h3⟩ := hf ⟨i, hil⟩
      refine ⟨(f ⟨i, hil⟩).2.2, h1, h2, ?_⟩
      simpa [hil] using h3

/-- A struct of fields of one cell each. -/
theorem opens_fields {t : TypeId} {fs : Array Field} (ht : Tryz.prog.underlying t = some (.struct fs)) (hone : oneCellFields Tryz.prog fs = true) (hC : Tryz.prog.cellsOf t = fs.size)
    {H : Type} {enc : TypeId × Value → H} {w : World} {n : Nat} {cs : List Value} {x : DataW H × List MemPlace} (h : DataW.trod enc Tryz.prog w 0 (fun _ => true) true n t cs = some x) (hfz : w.noneFrozen x.2) :
    cs.length = fs.size ∧ ∀ (j : Nat) (f : Field), fs[j]? = some f → ∃ (v : Value) (m : Nat) (y : DataW H × List MemPlace), cs[j]? = some v ∧ DataW.trod enc Tryz.prog w 0 (fun _ => true) true m f.type [v] = some y ∧ w.noneFrozen y.2 := by
  obtain ⟨xs, n', rfl, hx, hl, hxl, hf⟩ := DataW.trod_struct ht h
  refine ⟨hl.trans hC, fun j f hj => ?_⟩
  have hjl : j < fs.size := (Array.getElem?_eq_some_iff.1 hj).1
  obtain ⟨ho, hk⟩ := hone_of hone j f hj
  have h1 := hf j f hj
  rw [ho, hk] at h1
  have hcl : j < cs.length := by rw [hl, hC]; exact hjl
  have e1 : (cs.drop j).take 1 = [cs[j]] := by
    rw [List.drop_eq_getElem_cons hcl]; rfl
  rw [e1, List.getElem?_eq_getElem (by omega)] at h1
  refine ⟨cs[j], n', xs[j], List.getElem?_eq_getElem hcl, h1, fun b off hm => hfz b off ?_⟩
  rw [hx]
  exact List.mem_flatMap.2 ⟨xs[j], List.getElem_mem _, hm⟩

/-- An argument that came in: its value reads. -/
theorem Opens.arg {α : Type} {t : TypeId} {E : Cod α} (ho : Opens t E) {H : Type} {enc : TypeId × Value → H} {w : World} {v : Value} {d : DataW H} {ps : List MemPlace}
    (h : DataW.Trod enc Tryz.prog w 0 (fun _ => true) true t v d ps) (hfz : w.noneFrozen ps) : ∃ y fp, E.rd w v.cells.toList y fp := by
  obtain ⟨n, hn⟩ := h
  exact ho hn hfz
theorem Opens.sl {α : Type} {t : TypeId} {E : Cod α} (ho : Opens t E.slice) {H : Type} {enc : TypeId × Value → H} {w : World} {v : Value} {d : DataW H} {ps : List MemPlace}
    (h : DataW.Trod enc Tryz.prog w 0 (fun _ => true) true t v d ps) (hfz : w.noneFrozen ps) {A : Option Addr} {len cap : Nat} (hv : v = .slice A len cap) : ∃ y fp, Sl E w v y fp := by
  obtain ⟨y, fp, u, hu, hs⟩ := ho.arg h hfz
  subst hv
  simp [Value.cells] at hu
  subst hu
  exact ⟨y, fp, hs⟩

end Go.Proofs.YticoiaibcgpbjaaGreatDoor
