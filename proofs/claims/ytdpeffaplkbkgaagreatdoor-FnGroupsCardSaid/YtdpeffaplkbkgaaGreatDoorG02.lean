/- Parts of the proof: All, Cr, TString, So, De, Dz. -/
import Derived.Test.YtdpeffaplkbkgaaGreatDoorG01
import Derived.Sort.Walk0
import Derived.Laws.CopyOwn
import Derived.Lib.ItoaNum
import Derived.Laws.IdiomStrings
namespace Go.Proofs.YtdpeffaplkbkgaaGreatDoor
open Go.RowKit

/-! ### every index below n is in order -/
def allIdx (f : Nat → Bool) (n : Nat) : Bool := (List.range n).all f
theorem allIdx_zero {f : Nat → Bool} : allIdx f 0 = true := rfl
theorem allIdx_step {f : Nat → Bool} {k : Nat} (h : allIdx f k = true) (h1 : f k = true) : allIdx f (k + 1) = true := by
  unfold allIdx at *; rw [List.range_succ, List.all_append, h]; simp [h1]
theorem allIdx_true {f : Nat → Bool} {n : Nat} : allIdx f n = true ↔ ∀ i, i < n → f i = true := by
  unfold allIdx; rw [List.all_eq_true]; simp
theorem allIdx_bad {f : Nat → Bool} {k n : Nat} (h : k < n) (h1 : f k = false) : allIdx f n = false := by
  cases hh : allIdx f n with
  | false => rfl
  | true => rw [allIdx_true.1 hh k h] at h1; cases h1
theorem allIdx_full {f : Nat → Bool} {k n : Nat} (h : n ≤ k) (hk : k ≤ n) (h0 : allIdx f k = true) : allIdx f n = true := by
  have : k = n := by omega
  rw [← this]; exact h0
theorem allIdx_congr {f g : Nat → Bool} {n : Nat} (h : ∀ i, i < n → f i = g i) : allIdx f n = allIdx g n := by
  cases hh : allIdx g n with
  | true => rw [allIdx_true] at *; intro i hi; rw [h i hi]; exact hh i hi
  | false =>
    cases h2 : allIdx f n with
    | false => rfl
    | true =>
      have : allIdx g n = true := by rw [allIdx_true] at *; intro i hi; rw [← h i hi]; exact h2 i hi
      rw [this] at hh; cases hh
theorem all_eq_allIdx {α : Type} (p : α → Bool) (xs : List α) (d : α) : xs.all p = allIdx (fun i => p (xs.getD i d)) xs.length := by
  cases hh : allIdx (fun i => p (xs.getD i d)) xs.length with
  | true =>
    rw [allIdx_true] at hh
    rw [List.all_eq_true]
    intro x hx
    obtain ⟨i, hi, rfl⟩ := List.getElem_of_mem hx
    have := hh i hi
    simpa [List.getD_eq_getElem?_getD, hi] using this
  | false =>
    cases h2 : xs.all p with
    | false => rfl
    | true =>
      rw [List.all_eq_true] at h2
      have : allIdx (fun i => p (xs.getD i d)) xs.length = true := by
        rw [allIdx_true]; intro i hi
        have := h2 xs[i] (List.getElem_mem hi)
        simpa [List.getD_eq_getElem?_getD, hi] using this
      rw [this] at hh; cases hh
theorem getD_of_lt {α : Type} {xs : List α} {i : Nat} {d : α} (h : i < xs.length) : xs.getD i d = xs[i] := by
  simp [List.getD_eq_getElem?_getD, h]

/-! ### the order of strings -/
def ltS (a b : ByteArray) : Bool := Op.bytesLess a.toList b.toList
theorem ltS_eq (a b : ByteArray) : ltS a b = decide (a.data.toList < b.data.toList) := by
  unfold ltS; rw [bytesLess_eq, ByteArray.toList_eq, ByteArray.toList_eq]
theorem ltS_irrefl (a : ByteArray) : ltS a a = false := by
  rw [ltS_eq]; simp [List.lt_irrefl]
theorem ltS_trans {a b c : ByteArray} (h1 : ltS a b = true) (h2 : ltS b c = true) : ltS a c = true := by
  rw [ltS_eq, decide_eq_true_eq] at *; exact List.lt_trans h1 h2
theorem ltS_asymm {a b : ByteArray} (h : ltS a b = true) : ltS b a = false := by
  cases hh : ltS b a with
  | false => rfl
  | true => have := ltS_trans h hh; rw [ltS_irrefl] at this; cases this
theorem data_inj {a b : ByteArray} (h : a.data.toList = b.data.toList) : a = b := ByteArray.ext (Array.toList_inj.mp h)
theorem ltS_tri {a b : ByteArray} (h1 : ltS a b = false) (h2 : ltS b a = false) : a = b := by
  rw [ltS_eq, decide_eq_false_iff_not] at *
  exact data_inj (List.le_antisymm h2 h1)
theorem eqS_true {a b : ByteArray} : (a.toList == b.toList) = true ↔ a = b := by
  rw [beq_iff_eq]; exact ⟨bytes_toList_inj, fun h => by rw [h]⟩
theorem eqS_eq (a b : ByteArray) : (a.toList == b.toList) = decide (a = b) := by
  by_cases h : a = b
  · subst h; simp
  · rw [bytes_beq_false h]; simp [h]
theorem leS_eq (a b : ByteArray) : (Op.bytesLess a.toList b.toList || a.toList == b.toList) = !(ltS b a) := by
  cases h : ltS b a with
  | true =>
    have h1 : ltS a b = false := ltS_asymm h
    have h2 : ¬ a = b := fun e => by subst e; rw [ltS_irrefl] at h; cases h
    have : Op.bytesLess a.toList b.toList = false := h1
    rw [this, bytes_beq_false h2]; rfl
  | false =>
    cases h1 : ltS a b with
    | true => have : Op.bytesLess a.toList b.toList = true := h1; rw [this]; rfl
    | false =>
      have := ltS_tri h1 h
      subst this
      simp
end Go.Proofs.YtdpeffaplkbkgaaGreatDoor

namespace Go.Proofs.YtdpeffaplkbkgaaGreatDoor
open Go.RowKit
set_option linter.unusedVariables false

theorem run_copy_rowN {P : Program} (w : World) (dT sT ty elem : TypeId) (N g o dLen dCap : Nat) (a : Addr) (sLen sCap : Nat) (cur : Array Value) (t : TypeId) (cs : List Value)
    (hu : P.underlying dT = some (.slice elem)) (hs : (P.info? elem).map (·.size) = some N)
    (hg : w.heap[g]? = some (.cells cur t (0, 0))) (m : Nat) (hm : m = Nat.min sLen dLen) (hn : cs.length = m * N)
    (hsrc : ∀ j v, cs[j]? = some v → w.cell? (a.add j) = some v) (hfit : o + cs.length ≤ cur.size) (h1 : ∀ v ∈ cs, v.oneCell' = true) :
    (Builtin.copy_ #[dT, sT] ty #[.slice (some ⟨g, o, none⟩) dLen dCap, .slice (some a) sLen sCap]).run P w =
      .ok (goInt m) (w.setRow g (cur.toList.take o ++ cs ++ cur.toList.drop (o + cs.length)).toArray) := by
  have hl := run_loadCells_list (P := P) w a cs hsrc
  have hst := run_storeCells_at P g o t cs 0 cur w hg (by simpa using hfit) h1
  cases hq : P.info? elem with
  | none => simp [hq] at hs
  | some i =>
    have hi : i.size = N := by simpa [hq] using hs
    subst hm
    simp [Builtin.copy_, run_underlying hu, Builtin.lenOf, Builtin.firstCells, sizeOf, typeInfo, hq, hi, ← hn, hl, hst]

/-- copy at a single operation: the row behind it is a splice. -/
theorem wp_copy_at {P : Program} {w : World} {o : Oper} {a : Act} {K : Act → World → Prop} {Q : Exit → Act → World → Prop} (d s : Operand) (dT sT : TypeId)
    (ho : o.op = .call { callee := .builtin .copy, args := #[d, s], argTypes := #[dT, sT] }) (elem : TypeId) (hu : P.underlying dT = some (.slice elem)) (N : Nat) (hsz : (P.info? elem).map (·.size) = some N)
    (g off dLen dCap : Nat) (ad : Addr) (sLen sCap : Nat) (hd : a.eval d = .slice (some ⟨g, off, none⟩) dLen dCap) (hs : a.eval s = .slice (some ad) sLen sCap)
    (cur : List Value) (t : TypeId) (hg : w.heap[g]? = some (.cells cur.toArray t (0, 0))) (cs : List Value) (m : Nat) (hm : m = Nat.min sLen dLen) (hn : cs.length = m * N)
    (hsrc : ∀ j v, cs[j]? = some v → w.cell? (ad.add j) = some v) (hfit : off + cs.length ≤ cur.length) (h1 : ∀ v ∈ cs, v.oneCell' = true)
    (h : ∀ w', w'.heap[g]? = some (.cells (splice cur off cs).toArray t (0, 0)) → (∀ k, k ≠ g → w'.heap[k]? = w.heap[k]?) → Below g w w' → K (a.put o.dst (goInt m)) w') : o.wp P a w K Q := by
  have hrun := run_copy_rowN (P := P) w dT sT o.type elem N g off dLen dCap ad sLen sCap cur.toArray t cs hu hsz hg m hm hn hsrc (by simpa using hfit) h1
  unfold Oper.wp
  simp [execOp, ho, resolve, invoke, builtin, hd, hs, hrun, Result.andThen]
  refine h _ ?_ (fun k hk => setRow_other w g k _ hk) (below_setRow (Below.refl _ _) (Nat.le_refl _) _)
  simpa [splice] using setRow_heap w g _ _ t _ hg
theorem wpList_copy_at {P : Program} {w : World} {ops : Array Oper} {rest : List Oper} {o : Oper} {a : Act} {Q : Exit → Act → World → Prop} (hgd : o.guard = none) (d s : Operand) (dT sT : TypeId)
    (ho : o.op = .call { callee := .builtin .copy, args := #[d, s], argTypes := #[dT, sT] }) (elem : TypeId) (hu : P.underlying dT = some (.slice elem)) (N : Nat) (hsz : (P.info? elem).map (·.size) = some N)
    (g off dLen dCap : Nat) (ad : Addr) (sLen sCap : Nat) (hd : a.eval d = .slice (some ⟨g, off, none⟩) dLen dCap) (hs : a.eval s = .slice (some ad) sLen sCap)
    (cur : List Value) (t : TypeId) (hg : w.heap[g]? = some (.cells cur.toArray t (0, 0))) (cs : List Value) (m : Nat) (hm : m = Nat.min sLen dLen) (hn : cs.length = m * N)
    (hsrc : ∀ j v, cs[j]? = some v → w.cell? (ad.add j) = some v) (hfit : off + cs.length ≤ cur.length) (h1 : ∀ v ∈ cs, v.oneCell' = true)
    (h : ∀ w', w'.heap[g]? = some (.cells (splice cur off cs).toArray t (0, 0)) → (∀ k, k ≠ g → w'.heap[k]? = w.heap[k]?) → Below g w w' → wpList P ops Q rest (a.put o.dst (goInt m)) w') : wpList P ops Q (o :: rest) a w :=
  wpList_plain hgd fun _ hK => wp_copy_at d s dT sT ho elem hu N hsz g off dLen dCap ad sLen sCap hd hs cur t hg cs m hm hn hsrc hfit h1 fun w' a1 a2 a3 => hK _ _ (h w' a1 a2 a3)

/-- A row of the call's own, as its block stands. -/
theorem own_row {w : World} {base : Nat} {e : TypeId} {size g n cap : Nat} {xs : List Value} (h : w.ownsRow base e size (.slice (some ⟨g, 0, none⟩) n cap) n xs) :
    ∃ cur : List Value, w.heap[g]? = some (.cells cur.toArray e (0, 0)) ∧ cur.length = cap * size ∧ cur.take (n * size) = xs ∧ n ≤ cap ∧ cap ≤ maxLen ∧ base ≤ g := by
  obtain ⟨h1, h2⟩ := h
  rcases h2 with ⟨hv, _⟩ | ⟨g', cap', cur, hv, hg, hh, hnc, hcm, hsz, hxs⟩
  · cases hv
  · injection hv with hv1 _ hv2
    injection hv1 with hv1
    injection hv1 with hv1 _ _
    subst hv1 hv2
    exact ⟨cur.toList, by simpa using hh, by simpa using hsz, hxs, hnc, hcm, hg⟩
theorem own_of_row {w : World} {base : Nat} {e : TypeId} {size g n cap : Nat} {xs cur : List Value} (hh : w.heap[g]? = some (.cells cur.toArray e (0, 0))) (hb : base ≤ g) (hnc : n ≤ cap) (hcm : cap ≤ maxLen) (hsz : cur.length = cap * size) (hxs : cur.take (n * size) = xs) :
    w.ownsRow base e size (.slice (some ⟨g, 0, none⟩) n cap) n xs := by
  refine ⟨?_, .inr ⟨g, cap, cur.toArray, rfl, hb, hh, hnc, hcm, by simpa using hsz, by simpa using hxs⟩⟩
  rw [← hxs, List.length_take, hsz, Nat.min_eq_left (Nat.mul_le_mul_right _ hnc)]
theorem row_cell {w : World} {g : Nat} {e : TypeId} {cur : List Value} (hh : w.heap[g]? = some (.cells cur.toArray e (0, 0))) (j : Nat) : w.cell? ⟨g, j, none⟩ = cur[j]? := by
  simp [World.cell?, hh]
/-- Put in within the room: what stands behind is moved first. -/
theorem splice_shift {cur A t B : List Value} {p q r : Nat} (hc : cur.take (p + q) = A ++ B) (hA : A.length = p) (hB : B.length = q) (ht : t.length = r) (hl : p + r + q ≤ cur.length) :
    (splice (splice cur (p + r) B) p t).take (p + r + q) = A ++ (t ++ B) := by
  have hpA : cur.take p = A := by
    have := congrArg (List.take p) hc
    rw [List.take_take, Nat.min_eq_left (by omega), List.take_append_of_le_length (by omega), ← hA, List.take_length] at this
    rw [hA] at this; exact this
  have e1 : splice cur (p + r) B = cur.take (p + r) ++ (B ++ cur.drop (p + r + q)) := by rw [splice, hB]
  have hl1 : (cur.take (p + r)).length = p + r := by rw [List.length_take]; omega
  have e2 : (cur.take (p + r) ++ (B ++ cur.drop (p + r + q))).take p = A := by
    rw [List.take_append_of_le_length (by omega), List.take_take, Nat.min_eq_left (by omega), hpA]
  have e3 : (cur.take (p + r) ++ (B ++ cur.drop (p + r + q))).drop (p + r) = B ++ cur.drop (p + r + q) := by
    rw [List.drop_append_of_le_length (by omega), List.drop_of_length_le (by omega), List.nil_append]
  rw [e1, splice, ht, e2, e3, ← List.append_assoc, ← List.append_assoc, List.take_append_of_le_length (by simp; omega), List.take_of_length_le (by simp; omega), List.append_assoc]
/-- Put in into a new row: the element, then what stands behind. -/
theorem splice_fill {cur A t B : List Value} {p q r : Nat} (hc : cur.take p = A) (hA : A.length = p) (hB : B.length = q) (ht : t.length = r) (hl : p + r + q ≤ cur.length) :
    (splice (splice cur p t) (p + r) B).take (p + r + q) = A ++ (t ++ B) := by
  have e1 : splice cur p t = A ++ (t ++ cur.drop (p + r)) := by rw [splice, ht, hc]
  have e2 : (A ++ (t ++ cur.drop (p + r))).take (p + r) = A ++ t := by
    rw [← List.append_assoc, List.take_append_of_le_length (by simp; omega), List.take_of_length_le (by simp; omega)]
  rw [e1, splice, e2, ← List.append_assoc, List.take_append_of_le_length (by simp; omega), List.take_of_length_le (by simp; omega), List.append_assoc]
end Go.Proofs.YtdpeffaplkbkgaaGreatDoor

namespace Go.Proofs.YtdpeffaplkbkgaaGreatDoor
open Go.RowKit
set_option linter.unusedVariables false

def totString (x : ByteArray) : Nat := x.size
def totStringS (xs : List ByteArray) : Nat := xs.length + (xs.map totString).sum




def mkString (k : Int) : ByteArray := mt (k)
def marksString (k : Int) (n : Nat) : List ByteArray := (List.range n).map fun (i : Nat) => mkString (k + 1 * (i : Int))

theorem marksString_get (k0 : Int) (n i : Nat) (h : i < (marksString k0 n).length) : (marksString k0 n)[i] = mkString (k0 + 1 * (i : Int)) := by
  simp [marksString]
theorem marksString_len (k0 : Int) (n : Nat) : (marksString k0 n).length = n := by simp [marksString]



end Go.Proofs.YtdpeffaplkbkgaaGreatDoor

namespace Go.Proofs.YtdpeffaplkbkgaaGreatDoor
open Go.RowKit
set_option linter.unusedVariables false

/-! ### lists of strings in order -/
def Srt (L : List ByteArray) : Prop := L.Pairwise (fun a b => ltS b a = false)
def srtF (L : List ByteArray) : List ByteArray := L.mergeSort (fun a b => !ltS b a)
theorem leS_trans {a b c : ByteArray} (h1 : ltS b a = false) (h2 : ltS c b = false) : ltS c a = false := by
  cases h : ltS c a with
  | false => rfl
  | true =>
    cases h3 : ltS b c with
    | true => have := ltS_trans h3 h; rw [this] at h1; cases h1
    | false =>
      have := ltS_tri h3 h2
      subst this
      rw [h] at h1; cases h1
theorem leS_total (a b : ByteArray) : (!ltS b a || !ltS a b) = true := by
  cases h : ltS b a with
  | false => rfl
  | true => rw [ltS_asymm h]; rfl
theorem srtF_perm (L : List ByteArray) : (srtF L).Perm L := List.mergeSort_perm _ _
theorem srtF_srt (L : List ByteArray) : Srt (srtF L) := by
  have h := List.pairwise_mergeSort (le := fun a b => !ltS b a) (fun a b c h1 h2 => by simp at *; exact leS_trans h1 h2) leS_total L
  exact h.imp (fun h => by simpa using h)
theorem srt_unique {a b : List ByteArray} (ha : Srt a) (hb : Srt b) (h : a.Perm b) : a = b :=
  List.Perm.eq_of_pairwise (fun x y _ _ h1 h2 => ltS_tri h2 h1) ha hb h
theorem srtF_of {a L : List ByteArray} (ha : Srt a) (h : a.Perm L) : a = srtF L := srt_unique ha (srtF_srt L) (h.trans (srtF_perm L).symm)
theorem srtF_len (L : List ByteArray) : (srtF L).length = L.length := (srtF_perm L).length_eq
/-- x put in behind the first k of A. -/
theorem srt_insert {A : List ByteArray} {x : ByteArray} {k : Nat} (hA : Srt A) (h1 : ∀ y ∈ A.take k, ltS x y = false) (h2 : ∀ y ∈ A.drop k, ltS y x = false) : Srt (A.take k ++ x :: A.drop k) := by
  unfold Srt at *
  rw [List.pairwise_append, List.pairwise_cons]
  refine ⟨hA.take, ⟨h2, hA.drop⟩, ?_⟩
  intro a ha b hb
  rcases List.mem_cons.1 hb with rfl | hb
  · exact h1 a ha
  · rw [← List.take_append_drop k A, List.pairwise_append] at hA
    exact hA.2.2 a ha b hb
theorem srt_below {A : List ByteArray} {x : ByteArray} {k : Nat} (hA : Srt A) (hk : k < A.length) (h : ltS x A[k] = false) : ∀ y ∈ A.take (k + 1), ltS x y = false := by
  intro y hy
  obtain ⟨m, hm, rfl⟩ := List.getElem_of_mem hy
  simp at hm
  rw [List.getElem_take]
  rcases Nat.lt_or_ge m k with h2 | h2
  · exact leS_trans (List.pairwise_iff_getElem.1 hA m k (by omega) hk h2) h
  · obtain rfl : m = k := by omega
    exact h
theorem srt_take1 : ∀ L : List ByteArray, Srt (L.take 1)
  | [] => List.Pairwise.nil
  | x :: L => by simp [Srt]
theorem gtS_cases (a b : ByteArray) : (ltS b a = false ∧ Op.bytesLess a.toList b.toList = true) ∨ (ltS b a = false ∧ Op.bytesLess a.toList b.toList = false ∧ (a.toList == b.toList) = true) ∨ (ltS b a = true ∧ Op.bytesLess a.toList b.toList = false ∧ (a.toList == b.toList) = false) := by
  cases h : ltS b a with
  | true =>
    refine .inr (.inr ⟨rfl, ltS_asymm h, bytes_beq_false (fun e => ?_)⟩)
    subst e; rw [ltS_irrefl] at h; cases h
  | false =>
    cases h1 : ltS a b with
    | true => exact .inl ⟨rfl, h1⟩
    | false => exact .inr (.inl ⟨rfl, h1, eqS_true.2 (ltS_tri h1 h)⟩)
/-- The rows of the insertion: x at place k of A, R behind. -/
def insL (A : List ByteArray) (x : ByteArray) (R : List ByteArray) (k : Nat) : List ByteArray := A.take k ++ x :: (A.drop k ++ R)
theorem insL_len {A R : List ByteArray} {x : ByteArray} {k : Nat} (hk : k ≤ A.length) : (insL A x R k).length = A.length + 1 + R.length := by
  unfold insL; simp; omega
theorem insL_at {A R : List ByteArray} {x : ByteArray} {k : Nat} (hk : k ≤ A.length) : (insL A x R k)[k]? = some x := by
  unfold insL; rw [List.getElem?_append_right (by simp; omega)]; simp [Nat.min_eq_left hk]
theorem insL_before {A R : List ByteArray} {x : ByteArray} {k : Nat} (hk : k + 1 ≤ A.length) : (insL A x R (k + 1))[k]? = some A[k] := by
  unfold insL; rw [List.getElem?_append_left (by simp; omega)]; simp
theorem insL_swap {A R : List ByteArray} {x : ByteArray} {k : Nat} (hk : k + 1 ≤ A.length) : ((insL A x R (k + 1)).set (k + 1) A[k]).set k x = insL A x R k := by
  apply List.ext_getElem?
  intro j
  have hl : (A.take (k + 1)).length = k + 1 := by simp; omega
  have hl2 : (A.take k).length = k := by simp; omega
  have hd : A.drop k = A[k] :: A.drop (k + 1) := List.drop_eq_getElem_cons (by omega)
  unfold insL
  rw [List.getElem?_set, List.getElem?_set]
  simp only [List.length_set, List.length_append, hl, List.length_cons, List.length_drop]
  by_cases h1 : k = j
  · subst h1
    rw [if_pos rfl, if_pos (by omega), List.getElem?_append_right (by omega), hl2]
    simp
  · rw [if_neg h1]
    by_cases h2 : k + 1 = j
    · subst h2
      rw [if_pos rfl, if_pos (by omega), List.getElem?_append_right (by omega), hl2, hd]
      generalize A[k] = a
      generalize A.drop (k + 1) = D
      simp
    · rw [if_neg h2]
      rcases Nat.lt_or_ge j k with h3 | h3
      · rw [List.getElem?_append_left (by omega), List.getElem?_append_left (by omega), List.getElem?_take, List.getElem?_take, if_pos (by omega), if_pos h3]
      · rw [List.getElem?_append_right (by omega), List.getElem?_append_right (by omega), hl, hl2, hd]
        obtain ⟨d, rfl⟩ : ∃ d, j = k + 2 + d := ⟨j - k - 2, by omega⟩
        rw [show k + 2 + d - (k + 1) = d + 1 by omega, show k + 2 + d - k = d + 1 + 1 by omega]
        generalize A[k] = a
        generalize A.drop (k + 1) = D
        simp
theorem insL_perm {A R : List ByteArray} {x : ByteArray} {k : Nat} : (insL A x R k).Perm (A ++ x :: R) := by
  unfold insL
  have h1 : (A.take k ++ x :: (A.drop k ++ R)).Perm (x :: (A.take k ++ (A.drop k ++ R))) := List.perm_middle
  have h2 : (A ++ x :: R).Perm (x :: (A ++ R)) := List.perm_middle
  rw [← List.append_assoc, List.take_append_drop] at h1
  exact h1.trans h2.symm
theorem insL_app {A R : List ByteArray} {x : ByteArray} {k : Nat} : insL A x [] k ++ R = insL A x R k := by unfold insL; simp
theorem insL_full {A R : List ByteArray} {x : ByteArray} : insL A x R A.length = A ++ x :: R := by unfold insL; simp

/-! ### a place of a row of the call's own -/
theorem flat1_set {α : Type} {E : Flat α} (h1 : E.n = 1) : ∀ (L : List α) (k : Nat) (y : α) (u : Value), E.enc y = [u] → (L.flatMap E.enc).set k u = (L.set k y).flatMap E.enc
  | [], k, y, u, hu => by simp
  | x :: L, 0, y, u, hu => by
    have hl := E.len x
    rw [h1] at hl
    obtain ⟨a, ha⟩ := List.length_eq_one_iff.1 hl
    simp [ha, hu]
  | x :: L, k + 1, y, u, hu => by
    have hl := E.len x
    rw [h1] at hl
    obtain ⟨a, ha⟩ := List.length_eq_one_iff.1 hl
    have ih := flat1_set h1 L k y u hu
    simp [ha, ih]
theorem Own.set1 {α : Type} {E : Flat α} (h1 : E.n = 1) {w : World} {base : Nat} {e : TypeId} {g n cap : Nat} {L : List α} (h : Own E w base e (.slice (some ⟨g, 0, none⟩) n cap) L) (k : Nat) (y : α) (u : Value) (hu : E.enc y = [u]) :
    Own E (w.setCell ⟨g, k, none⟩ u) base e (.slice (some ⟨g, 0, none⟩) n cap) (L.set k y) := by
  have hn : n = L.length := by
    rcases h.2 with ⟨hv, _⟩ | ⟨g', cap', cur, hv, _⟩
    · cases hv
    · injection hv
  have h' : w.ownsRow base e E.n (.slice (some ⟨g, 0, none⟩) L.length cap) L.length (L.flatMap E.enc) := by rw [hn] at h; exact h
  have h2 := (h'.stored k u).1
  rw [flat1_set h1 L k y u hu] at h2
  show World.ownsRow _ base e E.n _ (L.set k y).length _
  rw [List.length_set, hn]
  exact h2
theorem Own.cellS {w : World} {base : Nat} {e : TypeId} {g n cap : Nat} {L : List ByteArray} (h : Own fStr w base e (.slice (some ⟨g, 0, none⟩) n cap) L) {k : Nat} {x : ByteArray} (hx : L[k]? = some x) : w.cell? ⟨g, k, none⟩ = some (.string x) := by
  have hn : n = L.length := by
    rcases h.2 with ⟨hv, _⟩ | ⟨g', cap', cur, hv, _⟩
    · cases hv
    · injection hv
  have h' : w.ownsRow base e 1 (.slice (some ⟨g, 0, none⟩) L.length cap) L.length (L.flatMap fStr.enc) := by rw [hn] at h; exact h
  have hk : k < L.length := by
    rcases Nat.lt_or_ge k L.length with h | h
    · exact h
    · rw [List.getElem?_eq_none h] at hx; cases hx
  rw [h'.cellAt k (by omega)]
  have := flat_get fStr.enc 1 L (fun x _ => fStr.len x) k hk 0 (by omega)
  simp only [Nat.mul_one, Nat.add_zero] at this
  rw [this]
  have e1 : L[k] = x := by rw [List.getElem?_eq_getElem hk] at hx; exact Option.some.inj hx
  rw [e1]; rfl
theorem Own.frozenS {α : Type} {E : Flat α} {w : World} {base : Nat} {e : TypeId} {g n cap : Nat} {L : List α} (h : Own E w base e (.slice (some ⟨g, 0, none⟩) n cap) L) (k : Nat) : w.frozen? ⟨g, k, none⟩ = false := by
  have hn : n = L.length := by
    rcases h.2 with ⟨hv, _⟩ | ⟨g', cap', cur, hv, _⟩
    · cases hv
    · injection hv
  have h' : w.ownsRow base e E.n (.slice (some ⟨g, 0, none⟩) L.length cap) L.length (L.flatMap E.enc) := by rw [hn] at h; exact h
  exact h'.frozenAt k
/-- The end of a call that hands back a row of its own. -/
def OwnRS {α : Type} (E : Flat α) (T : TypeId) (w : World) (xs : List α) (e : Ending) (w' : World) : Prop := ∃ v, e = .returned v ∧ Own E w' w.heap.size T v xs ∧ Below w.heap.size w w'
theorem infoStr3 : (Tryz.prog.info? 9).map (fun i => (i.zero, i.size, i.bytes)) = some (some (.string ⟨#[]⟩), 1, 16) := by kernel_rfl

end Go.Proofs.YtdpeffaplkbkgaaGreatDoor

namespace Go.Proofs.YtdpeffaplkbkgaaGreatDoor
open Go.RowKit
set_option linter.unusedVariables false

/-- The digits, none for 0. -/
def dig (u : Nat) : List UInt8 := if h : u = 0 then [] else dig (u / 10) ++ [UInt8.ofNat (48 + u % 10)]
termination_by u
decreasing_by omega
theorem dig_zero : dig 0 = [] := by rw [dig, dif_pos rfl]
theorem dig_step {u : Nat} (h : u ≠ 0) : dig u = dig (u / 10) ++ [UInt8.ofNat (48 + u % 10)] := by rw [dig, dif_neg h]
theorem dig_dec : ∀ (u : Nat), u ≠ 0 → Lib.decDigits u = dig u := by
  intro u
  induction u using Nat.strongRecOn with
  | _ u ih =>
    intro h
    rw [dig_step h, Lib.decDigits]
    by_cases h1 : u < 10
    · rw [dif_pos h1, Nat.div_eq_of_lt h1, dig_zero, Nat.mod_eq_of_lt h1]; rfl
    · rw [dif_neg h1, ih (u / 10) (by omega) (by omega)]
theorem dig_len : ∀ (k u : Nat), u < 10 ^ k → (dig u).length ≤ k
  | 0, u, h => by rw [Nat.pow_zero] at h; obtain rfl : u = 0 := (by omega); rw [dig_zero]; exact Nat.le_refl _
  | k + 1, u, h => by
    by_cases h0 : u = 0
    · subst h0; rw [dig_zero]; simp
    · rw [dig_step h0, List.length_append]
      have := dig_len k (u / 10) (by rw [Nat.pow_succ] at h; omega)
      simp; omega
def decS (n : Int) : ByteArray := ⟨(Lib.itoa n).toArray⟩
theorem decS_zero : decS 0 = ⟨#[48]⟩ := by unfold decS Lib.itoa; rw [if_neg (by decide), show (0 : Int).toNat = 0 from rfl, Lib.decDigits, dif_pos (by decide)]; rfl
theorem itoa_ne {n : Int} (h : n ≠ 0) : Lib.itoa n = (if n < 0 then [45] else []) ++ dig n.natAbs := by
  unfold Lib.itoa
  by_cases h1 : n < 0
  · rw [if_pos h1, if_pos h1, dig_dec _ (by omega)]; rfl
  · rw [if_neg h1, if_neg h1, show n.toNat = n.natAbs by omega, dig_dec _ (by omega)]; rfl
theorem Own.cellB {w : World} {base : Nat} {e : TypeId} {g n cap : Nat} {L : List UInt8} (h : Own fByte w base e (.slice (some ⟨g, 0, none⟩) n cap) L) {k : Nat} {x : UInt8} (hx : L[k]? = some x) : w.cell? ⟨g, k, none⟩ = some (.int .u8 x.toNat) := by
  have hn : n = L.length := by
    rcases h.2 with ⟨hv, _⟩ | ⟨g', cap', cur, hv, _⟩
    · cases hv
    · injection hv
  have h' : w.ownsRow base e 1 (.slice (some ⟨g, 0, none⟩) L.length cap) L.length (L.flatMap fByte.enc) := by rw [hn] at h; exact h
  have hk : k < L.length := by
    rcases Nat.lt_or_ge k L.length with h | h
    · exact h
    · rw [List.getElem?_eq_none h] at hx; cases hx
  rw [h'.cellAt k (by omega)]
  have := flat_get fByte.enc 1 L (fun x _ => fByte.len x) k hk 0 (by omega)
  simp only [Nat.mul_one, Nat.add_zero] at this
  rw [this]
  have e1 : L[k] = x := by rw [List.getElem?_eq_getElem hk] at hx; exact Option.some.inj hx
  rw [e1]; rfl
set_option maxRecDepth 100000 in
theorem infoU8d : (Tryz.prog.info? 5).map (fun i => (i.zero, i.size, i.bytes)) = some (some (.int .u8 0), 1, 1) := by kernel_rfl
set_option maxRecDepth 100000 in
/-- What a row of bytes of the call's own is as a text. -/
theorem Own.text {w : World} {base : Nat} {v : Value} {L : List UInt8} (h : Own fByte w base 5 v L) : (convert 22 9 v).run Tryz.prog w = .ok (.string ⟨L.toArray⟩) w := by
  obtain ⟨A, cap, rfl⟩ := h.form
  cases A with
  | none =>
    rcases h.2 with ⟨hv, hz⟩ | ⟨g', cap', cur, hv, _⟩
    · have : L = [] := List.eq_nil_of_length_eq_zero hz
      subst this
      show _ = Result.ok (Value.string ByteArray.empty) w
      exact run_convert_bytes_nil w _ _ Tryz.underlying22 Tryz.underlying5 _ _ _ Tryz.underlying9
    · cases hv
  | some A =>
    rcases h.2 with ⟨hv, _⟩ | ⟨g', cap', cur, hv, _⟩
    · cases hv
    · injection hv with h1 h2 h3
      injection h1 with h1
      subst h1
      refine run_convert_bytes_back w _ _ _ _ cap L Tryz.underlying22 Tryz.underlying5 Tryz.underlying9 (fun j hj => ?_)
      have h4 := h.cellB (k := j) (x := L[j]) (by simp [hj])
      have e : (⟨g', 0, none⟩ : Addr).add j = ⟨g', j, none⟩ := by unfold Addr.add; split <;> simp_all
      rw [e]; exact h4
theorem dig_pos {u : Nat} (h : u ≠ 0) : 0 < (dig u).length := by rw [dig_step h]; simp
theorem Own.addr {α : Type} {E : Flat α} {w : World} {base : Nat} {e : TypeId} {v : Value} {L : List α} (h : Own E w base e v L) (hne : 0 < L.length) : ∃ g cap, v = .slice (some ⟨g, 0, none⟩) L.length cap := by
  rcases h.2 with ⟨hv, hz⟩ | ⟨g', cap', cur, hv, _⟩
  · omega
  · exact ⟨g', cap', hv⟩
theorem digit_neg (u : Int) (h : u.tmod 10 < 0) : wrap64 (48 + wrap64 (-u.tmod 10)) % 256 = ((UInt8.ofNat (48 + u.natAbs % 10)).toNat : Int) := by
  have h1 : (u.tmod 10).natAbs = u.natAbs % 10 := Int.natAbs_tmod u 10
  rw [UInt8.toNat_ofNat']
  generalize u.tmod 10 = t at *
  generalize u.natAbs = a at *
  unfold wrap64
  omega
theorem digit_pos (u : Int) (h : ¬ u.tmod 10 < 0) : wrap64 (48 + u.tmod 10) % 256 = ((UInt8.ofNat (48 + u.natAbs % 10)).toNat : Int) := by
  have h1 : (u.tmod 10).natAbs = u.natAbs % 10 := Int.natAbs_tmod u 10
  rw [UInt8.toNat_ofNat']
  generalize u.tmod 10 = t at *
  generalize u.natAbs = a at *
  unfold wrap64
  omega
theorem dig_push {n u : Nat} {D : List UInt8} (hu : u ≠ 0) (h : dig n = dig u ++ D.reverse) : dig n = dig (u / 10) ++ (D ++ [UInt8.ofNat (48 + u % 10)]).reverse := by
  rw [h, dig_step hu]; simp
theorem dig_dlen {n u : Nat} {D : List UInt8} (hn : n ≤ 9223372036854775808) (h : dig n = dig u ++ D.reverse) : D.length ≤ 20 := by
  have h1 := dig_len 20 n (by omega)
  rw [h, List.length_append, List.length_reverse] at h1; omega
set_option maxRecDepth 100000 in
set_option maxHeartbeats 2000000 in
theorem l01Dec_any (n : Int) (w : World) (h0 : -9223372036854775808 ≤ n) (h1 : n ≤ 9223372036854775807) :
    Calls Tryz.prog 44 #[.int .i64 n] w fun e w' => e = .returned (.string (decS n)) ∧ Below w.heap.size w w' := by
  by_cases hz : n = 0
  · have e0 : (n == 0) = true := by rw [beq_iff_eq]; exact hz
    go_enter Tryz.func44, Tryz.ntmps44
    go_wp2
    go_ret
    exact ⟨by rw [show decS n = ⟨#[48]⟩ from by rw [hz]; exact decS_zero]; rfl, Below.refl _ _⟩
  · obtain ⟨i0, hi, hz0, hz1, hz2⟩ := info_parts infoU8d
    have hB0 : Below w.heap.size w (w.alloc (.cells #[] 5)) := (Below.refl _ _).alloc (Nat.le_refl _) _
    have e0 : (n == 0) = false := by rw [beq_eq_false_iff_ne]; exact hz
    go_enter Tryz.func44, Tryz.ntmps44
    go_wp2
    go_loopw [3, 4] (fun v m wr => ∃ (u : Int) (D : List UInt8), m = .int .i64 u ∧ (-9223372036854775808 ≤ u ∧ u ≤ 9223372036854775807) ∧ D.length ≤ 20 ∧ Hid (dig n.natAbs = dig u.natAbs ++ D.reverse) ∧ Own fByte wr w.heap.size 5 v D ∧ Below w.heap.size w wr) (fun _ m _ => (intOf m).natAbs)
    case atStart => exact ⟨n, [], rfl, ⟨h0, h1⟩, by simp, by show _ = _; simp, Own.lit0m fByte (Nat.le_refl _), hB0⟩
    case round =>
      obtain ⟨u, D, rfl, ⟨hu0, hu1⟩, hD, HS, ho, hb⟩ := hrel
      have hoW : wr.ownsRow w.heap.size 5 1 u3 D.length (D.flatMap fByte.enc) := ho
      have hs2 := hb.size
      by_cases hu : u = 0
      · subst hu
        have HZ : Hid (dig n.natAbs = D.reverse) := by have := HS.out; rw [show (0 : Int).natAbs = 0 from rfl, dig_zero] at this; exact this
        have e1 : ((0 : Int) == 0) = true := rfl
        by_cases hn : n < 0
        · clear ho
          go_wp2_with (at_builtin; refine wpList_append_one rfl _ _ 22 rfl w.heap.size 5 i0 (.int .u8 0) 1 1 Tryz.underlying22 hi hz0 hz1 hz2 rfl (by decide) u3 D.length _ rfl hoW [.int .u8 (45)] rfl (by intro u hu; rw [List.mem_singleton] at hu; subst hu; rfl) rfl (by omega) (by decide) hs2 ?_)
          intro v' w1 hown hbu _ _
          have hbu' := hb.trans hbu
          have hoD : Own fByte w1 w.heap.size 5 v' (D ++ [45]) := Own.push _ rfl hown
          clear hown
          obtain ⟨DD, hDD⟩ : ∃ E, E = D ++ [45] := ⟨_, rfl⟩
          have hDl : DD.length ≤ 21 := by rw [hDD]; simp; omega
          have hDp : 0 < DD.length := by rw [hDD]; simp
          rw [← hDD] at hoD
          have HDD := Lib.hid hDD
          clear hDD
          obtain ⟨oa, oc, rfl⟩ := hoD.addr hDp
          obtain ⟨W2, rfl⟩ : ∃ W, W = w1 := ⟨w1, rfl⟩
          go_wp2
          have hBW : Below W2.heap.size W2 (W2.alloc (.cells #[] 5)) := (Below.refl _ _).alloc (Nat.le_refl _) _
          go_loopw [6, 7] (fun v j wr => ∃ (k : Nat) (O : List UInt8), k ≤ DD.length ∧ j = .int .i64 ((k : Int) - 1) ∧ O.length ≤ 30 ∧ Hid (O = (DD.drop k).reverse) ∧ Own fByte wr W2.heap.size 5 v O ∧ Below W2.heap.size W2 wr) (fun _ j _ => (intOf j + 1).toNat)
          case atStart => exact ⟨DD.length, [], Nat.le_refl _, by first | rfl | (simp; done) | go_num, by simp, by show _ = _; simp, Own.lit0m fByte (Nat.le_refl _), hBW⟩
          case round =>
            obtain ⟨k, O, hk, rfl, hO, HO, hoO, hb2⟩ := hrel
            by_cases hk0 : k = 0
            · subst hk0
              have hfin : O = Lib.itoa n := by rw [HO.out, List.drop_zero]; rw [itoa_ne hz, if_pos (by omega), HZ.out, HDD.out]; simp
              have hcv := hoO.text
              have HF := Lib.hid hfin
              clear hfin
              go_wp2
              go_ret
              exact ⟨by rw [HF.out]; rfl, hbu'.trans (hb2.mono hbu'.size)⟩
            · obtain ⟨k, rfl⟩ : ∃ q, k = q + 1 := ⟨k - 1, by omega⟩
              have hkl : k < DD.length := by omega
              have hc0 := (hoD.below hb2).cellB (k := k) (x := DD[k]) (List.getElem?_eq_getElem hkl)
              have hoW : wr.ownsRow W2.heap.size 5 1 u6 O.length (O.flatMap fByte.enc) := hoO
              have hs2 := hb2.size
              have HO2 : Hid (O ++ [DD[k]] = (DD.drop k).reverse) := by
                show _ = _
                rw [HO.out, List.drop_eq_getElem_cons hkl, List.reverse_cons]
              have HOL : (O ++ [DD[k]]).length ≤ 30 := by rw [HO2.out]; simp; omega
              clear hoO
              rw [show (((k + 1 : Nat) : Int) - 1) = (k : Int) by omega]
              go_wp2_with (at_builtin; refine wpList_append_one rfl _ _ 22 rfl W2.heap.size 5 i0 (.int .u8 0) 1 1 Tryz.underlying22 hi hz0 hz1 hz2 rfl (by decide) u6 O.length _ rfl hoW [.int .u8 (DD[k].toNat : Int)] rfl (by intro u hu; rw [List.mem_singleton] at hu; subst hu; rfl) rfl (by omega) (by decide) hs2 ?_)
              intro v'' w3 hown hbu2 _ _
              have hb3 := hb2.trans hbu2
              have hoO3 : Own fByte w3 W2.heap.size 5 v'' (O ++ [DD[k]]) := Own.push _ rfl hown
              clear hown
              go_wp2
              go_roundw
              case measure => simp [intOf]
              case rel => exact ⟨k, O ++ [DD[k]], by omega, by go_num, HOL, HO2, hoO3, hb3⟩
        · have hoD := ho
          clear ho hoW
          have hDp : 0 < D.length := by have := dig_pos (u := n.natAbs) (by omega); rw [HZ.out] at this; simpa using this
          obtain ⟨oa, oc, rfl⟩ := hoD.addr hDp
          obtain ⟨W2, rfl⟩ : ∃ W, W = wr := ⟨wr, rfl⟩
          go_wp2
          have hBW : Below W2.heap.size W2 (W2.alloc (.cells #[] 5)) := (Below.refl _ _).alloc (Nat.le_refl _) _
          go_loopw [6, 7] (fun v j wr => ∃ (k : Nat) (O : List UInt8), k ≤ D.length ∧ j = .int .i64 ((k : Int) - 1) ∧ O.length ≤ 30 ∧ Hid (O = (D.drop k).reverse) ∧ Own fByte wr W2.heap.size 5 v O ∧ Below W2.heap.size W2 wr) (fun _ j _ => (intOf j + 1).toNat)
          case atStart => exact ⟨D.length, [], Nat.le_refl _, by first | rfl | (simp; done) | go_num, by simp, by show _ = _; simp, Own.lit0m fByte (Nat.le_refl _), hBW⟩
          case round =>
            obtain ⟨k, O, hk, rfl, hO, HO, hoO, hb2⟩ := hrel
            by_cases hk0 : k = 0
            · subst hk0
              have hfin : O = Lib.itoa n := by rw [HO.out, List.drop_zero]; rw [itoa_ne hz, if_neg (by omega), HZ.out]; rfl
              have hcv := hoO.text
              have HF := Lib.hid hfin
              clear hfin
              go_wp2
              go_ret
              exact ⟨by rw [HF.out]; rfl, hb.trans (hb2.mono hb.size)⟩
            · obtain ⟨k, rfl⟩ : ∃ q, k = q + 1 := ⟨k - 1, by omega⟩
              have hkl : k < D.length := by omega
              have hc0 := (hoD.below hb2).cellB (k := k) (x := D[k]) (List.getElem?_eq_getElem hkl)
              have hoW : wr.ownsRow W2.heap.size 5 1 u6 O.length (O.flatMap fByte.enc) := hoO
              have hs2 := hb2.size
              have HO2 : Hid (O ++ [D[k]] = (D.drop k).reverse) := by
                show _ = _
                rw [HO.out, List.drop_eq_getElem_cons hkl, List.reverse_cons]
              have HOL : (O ++ [D[k]]).length ≤ 30 := by rw [HO2.out]; simp; omega
              clear hoO
              rw [show (((k + 1 : Nat) : Int) - 1) = (k : Int) by omega]
              go_wp2_with (at_builtin; refine wpList_append_one rfl _ _ 22 rfl W2.heap.size 5 i0 (.int .u8 0) 1 1 Tryz.underlying22 hi hz0 hz1 hz2 rfl (by decide) u6 O.length _ rfl hoW [.int .u8 (D[k].toNat : Int)] rfl (by intro u hu; rw [List.mem_singleton] at hu; subst hu; rfl) rfl (by omega) (by decide) hs2 ?_)
              intro v'' w3 hown hbu2 _ _
              have hb3 := hb2.trans hbu2
              have hoO3 : Own fByte w3 W2.heap.size 5 v'' (O ++ [D[k]]) := Own.push _ rfl hown
              clear hown
              go_wp2
              go_roundw
              case measure => simp [intOf]
              case rel => exact ⟨k, O ++ [D[k]], by omega, by go_num, HOL, HO2, hoO3, hb3⟩
      · have e1 : (u == 0) = false := by rw [beq_eq_false_iff_ne]; exact hu
        have hd1 : (u.tdiv 10).natAbs = u.natAbs / 10 := Int.natAbs_tdiv u 10
        have hd2 : -9223372036854775808 ≤ u.tdiv 10 ∧ u.tdiv 10 ≤ 9223372036854775807 := by generalize u.tdiv 10 = t at *; omega
        have HS2 : Hid (dig n.natAbs = dig (u.tdiv 10).natAbs ++ (D ++ [UInt8.ofNat (48 + u.natAbs % 10)]).reverse) := by show _ = _; rw [hd1]; exact dig_push (by omega) HS.out
        have HL : (D ++ [UInt8.ofNat (48 + u.natAbs % 10)]).length ≤ 20 := dig_dlen (by omega) HS2.out
        by_cases hs : u.tmod 10 < 0
        · clear ho
          go_wp2_with (at_builtin; refine wpList_append_one rfl _ _ 22 rfl w.heap.size 5 i0 (.int .u8 0) 1 1 Tryz.underlying22 hi hz0 hz1 hz2 rfl (by decide) u3 D.length _ rfl hoW [.int .u8 (wrap64 (48 + wrap64 (-u.tmod 10)) % 256)] rfl (by intro u hu; rw [List.mem_singleton] at hu; subst hu; rfl) rfl (by omega) (by decide) hs2 ?_)
          intro v' w1 hown hbu _ _
          have hbu' := hb.trans hbu
          have ev : wrap64 (48 + wrap64 (-u.tmod 10)) % 256 = ((UInt8.ofNat (48 + u.natAbs % 10)).toNat : Int) := digit_neg u hs
          have ho2 : Own fByte w1 w.heap.size 5 v' (D ++ [UInt8.ofNat (48 + u.natAbs % 10)]) := by rw [ev] at hown; exact Own.push _ rfl hown
          clear hown
          go_wp2
          go_roundw
          case measure => show (u.tdiv 10).natAbs < u.natAbs; rw [hd1]; omega
          case rel => exact ⟨u.tdiv 10, D ++ [UInt8.ofNat (48 + u.natAbs % 10)], by go_num, hd2, HL, HS2, ho2, hbu'⟩
        · clear ho
          go_wp2_with (at_builtin; refine wpList_append_one rfl _ _ 22 rfl w.heap.size 5 i0 (.int .u8 0) 1 1 Tryz.underlying22 hi hz0 hz1 hz2 rfl (by decide) u3 D.length _ rfl hoW [.int .u8 (wrap64 (48 + u.tmod 10) % 256)] rfl (by intro u hu; rw [List.mem_singleton] at hu; subst hu; rfl) rfl (by omega) (by decide) hs2 ?_)
          intro v' w1 hown hbu _ _
          have hbu' := hb.trans hbu
          have ev : wrap64 (48 + u.tmod 10) % 256 = ((UInt8.ofNat (48 + u.natAbs % 10)).toNat : Int) := digit_pos u (by omega)
          have ho2 : Own fByte w1 w.heap.size 5 v' (D ++ [UInt8.ofNat (48 + u.natAbs % 10)]) := by rw [ev] at hown; exact Own.push _ rfl hown
          clear hown
          go_wp2
          go_roundw
          case measure => show (u.tdiv 10).natAbs < u.natAbs; rw [hd1]; omega
          case rel => exact ⟨u.tdiv 10, D ++ [UInt8.ofNat (48 + u.natAbs % 10)], by go_num, hd2, HL, HS2, ho2, hbu'⟩

end Go.Proofs.YtdpeffaplkbkgaaGreatDoor

namespace Go.Proofs.YtdpeffaplkbkgaaGreatDoor
open Go.RowKit
set_option linter.unusedVariables false

theorem decS_size (n : Int) : (decS n).size = (Lib.itoa n).length := by unfold decS; show (Lib.itoa n).toArray.size = _; simp
theorem itoa_len20 {n : Int} (h0 : -9223372036854775808 ≤ n) (h1 : n ≤ 9223372036854775807) : (Lib.itoa n).length ≤ 21 := by
  by_cases h : n = 0
  · subst h; rw [← decS_size, decS_zero]; decide
  · rw [itoa_ne h, List.length_append]
    have := dig_len 20 n.natAbs (by omega)
    split <;> simp <;> omega
end Go.Proofs.YtdpeffaplkbkgaaGreatDoor
