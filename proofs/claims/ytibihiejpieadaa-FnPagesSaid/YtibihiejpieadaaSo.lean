
/- Sorted strings: plain laws; the reference's insertion. Written by wip/gen/so.py. -/
import Derived.Test.YtibihiejpieadaaAp
import Derived.Test.YtibihiejpieadaaAll
import Derived.Test.YtibihiejpieadaaCr
import Derived.Test.YtibihiejpieadaaTString
namespace Go.Proofs.Ytibihiejpieadaa
open Go.RowKit
set_option linter.unusedVariables false

/-! ### lists of strings in order -/
def Srt (L : List ByteArray) : Prop := L.Pairwise (fun a b => ltS b a = false)
def srtF (L : List ByteArray) : List ByteArray := L.mergeSort (fun a b => !ltS b a)
theorem leS_trans {a b c : ByteArray} (h1 : ltS b a = false) (h2 : ltS c b = false) : ltS c a = false := by
  cases h : ltS c a with
  | false => rfl
  | true =>
    cases h3 : ltS b c with
    | true => have := ltS_trans h3 h; rw [this] at h1; cases h1
    | false =>
      have := ltS_tri h3 h2
      subst this
      rw [h] at h1; cases h1
theorem leS_total (a b : ByteArray) : (!ltS b a || !ltS a b) = true := by
  cases h : ltS b a with
  | false => rfl
  | true => rw [ltS_asymm h]; rfl
theorem srtF_perm (L : List ByteArray) : (srtF L).Perm L := List.mergeSort_perm _ _
theorem srtF_srt (L : List ByteArray) : Srt (srtF L) := by
  have h := List.pairwise_mergeSort (le := fun a b => !ltS b a) (fun a b c h1 h2 => by simp at *; exact leS_trans h1 h2) leS_total L
  exact h.imp (fun h => by simpa using h)
theorem srt_unique {a b : List ByteArray} (ha : Srt a) (hb : Srt b) (h : a.Perm b) : a = b :=
  List.Perm.eq_of_pairwise (fun x y _ _ h1 h2 => ltS_tri h2 h1) ha hb h
theorem srtF_of {a L : List ByteArray} (ha : Srt a) (h : a.Perm L) : a = srtF L := srt_unique ha (srtF_srt L) (h.trans (srtF_perm L).symm)
theorem srtF_len (L : List ByteArray) : (srtF L).length = L.length := (srtF_perm L).length_eq
/-- x put in behind the first k of A. -/
theorem srt_insert {A : List ByteArray} {x : ByteArray} {k : Nat} (hA : Srt A) (h1 : ∀ y ∈ A.take k, ltS x y = false) (h2 : ∀ y ∈ A.drop k, ltS y x = false) : Srt (A.take k ++ x :: A.drop k) := by
  unfold Srt at *
  rw [List.pairwise_append, List.pairwise_cons]
  refine ⟨hA.take, ⟨h2, hA.drop⟩, ?_⟩
  intro a ha b hb
  rcases List.mem_cons.1 hb with rfl | hb
  · exact h1 a ha
  · rw [← List.take_append_drop k A, List.pairwise_append] at hA
    exact hA.2.2 a ha b hb
theorem srt_below {A : List ByteArray} {x : ByteArray} {k : Nat} (hA : Srt A) (hk : k < A.length) (h : ltS x A[k] = false) : ∀ y ∈ A.take (k + 1), ltS x y = false := by
  intro y hy
  obtain ⟨m, hm, rfl⟩ := List.getElem_of_mem hy
  simp at hm
  rw [List.getElem_take]
  rcases Nat.lt_or_ge m k with h2 | h2
  · exact leS_trans (List.pairwise_iff_getElem.1 hA m k (by omega) hk h2) h
  · obtain rfl : m = k := by omega
    exact h
theorem srt_take1 : ∀ L : List ByteArray, Srt (L.take 1)
  | [] => List.Pairwise.nil
  | x :: L => by simp [Srt]
theorem gtS_cases (a b : ByteArray) : (ltS b a = false ∧ Op.bytesLess a.toList b.toList = true) ∨ (ltS b a = false ∧ Op.bytesLess a.toList b.toList = false ∧ (a.toList == b.toList) = true) ∨ (ltS b a = true ∧ Op.bytesLess a.toList b.toList = false ∧ (a.toList == b.toList) = false) := by
  cases h : ltS b a with
  | true =>
    refine .inr (.inr ⟨rfl, ltS_asymm h, bytes_beq_false (fun e => ?_)⟩)
    subst e; rw [ltS_irrefl] at h; cases h
  | false =>
    cases h1 : ltS a b with
    | true => exact .inl ⟨rfl, h1⟩
    | false => exact .inr (.inl ⟨rfl, h1, eqS_true.2 (ltS_tri h1 h)⟩)
/-- The rows of the insertion: x at place k of A, R behind. -/
def insL (A : List ByteArray) (x : ByteArray) (R : List ByteArray) (k : Nat) : List ByteArray := A.take k ++ x :: (A.drop k ++ R)
theorem insL_len {A R : List ByteArray} {x : ByteArray} {k : Nat} (hk : k ≤ A.length) : (insL A x R k).length = A.length + 1 + R.length := by
  unfold insL; simp; omega
theorem insL_at {A R : List ByteArray} {x : ByteArray} {k : Nat} (hk : k ≤ A.length) : (insL A x R k)[k]? = some x := by
  unfold insL; rw [List.getElem?_append_right (by simp; omega)]; simp [Nat.min_eq_left hk]
theorem insL_before {A R : List ByteArray} {x : ByteArray} {k : Nat} (hk : k + 1 ≤ A.length) : (insL A x R (k + 1))[k]? = some A[k] := by
  unfold insL; rw [List.getElem?_append_left (by simp; omega)]; simp
theorem insL_swap {A R : List ByteArray} {x : ByteArray} {k : Nat} (hk : k + 1 ≤ A.length) : ((insL A x R (k + 1)).set (k + 1) A[k]).set k x = insL A x R k := by
  apply List.ext_getElem?
  intro j
  have hl : (A.take (k + 1)).length = k + 1 := by simp; omega
  have hl2 : (A.take k).length = k := by simp; omega
  have hd : A.drop k = A[k] :: A.drop (k + 1) := List.drop_eq_getElem_cons (by omega)
  unfold insL
  rw [List.getElem?_set, List.getElem?_set]
  simp only [List.length_set, List.length_append, hl, List.length_cons, List.length_drop]
  by_cases h1 : k = j
  · subst h1
    rw [if_pos rfl, if_pos (by omega), List.getElem?_append_right (by omega), hl2]
    simp
  · rw [if_neg h1]
    by_cases h2 : k + 1 = j
    · subst h2
      rw [if_pos rfl, if_pos (by omega), List.getElem?_append_right (by omega), hl2, hd]
      generalize A[k] = a
      generalize A.drop (k + 1) = D
      simp
    · rw [if_neg h2]
      rcases Nat.lt_or_ge j k with h3 | h3
      · rw [List.getElem?_append_left (by omega), List.getElem?_append_left (by omega), List.getElem?_take, List.getElem?_take, if_pos (by omega), if_pos h3]
      · rw [List.getElem?_append_right (by omega), List.getElem?_append_right (by omega), hl, hl2, hd]
        obtain ⟨d, rfl⟩ : ∃ d, j = k + 2 + d := ⟨j - k - 2, by omega⟩
        rw [show k + 2 + d - (k + 1) = d + 1 by omega, show k + 2 + d - k = d + 1 + 1 by omega]
        generalize A[k] = a
        generalize A.drop (k + 1) = D
        simp
theorem insL_perm {A R : List ByteArray} {x : ByteArray} {k : Nat} : (insL A x R k).Perm (A ++ x :: R) := by
  unfold insL
  have h1 : (A.take k ++ x :: (A.drop k ++ R)).Perm (x :: (A.take k ++ (A.drop k ++ R))) := List.perm_middle
  have h2 : (A ++ x :: R).Perm (x :: (A ++ R)) := List.perm_middle
  rw [← List.append_assoc, List.take_append_drop] at h1
  exact h1.trans h2.symm
theorem insL_app {A R : List ByteArray} {x : ByteArray} {k : Nat} : insL A x [] k ++ R = insL A x R k := by unfold insL; simp
theorem insL_full {A R : List ByteArray} {x : ByteArray} : insL A x R A.length = A ++ x :: R := by unfold insL; simp

/-! ### a place of a row of the call's own -/
theorem flat1_set {α : Type} {E : Flat α} (h1 : E.n = 1) : ∀ (L : List α) (k : Nat) (y : α) (u : Value), E.enc y = [u] → (L.flatMap E.enc).set k u = (L.set k y).flatMap E.enc
  | [], k, y, u, hu => by simp
  | x :: L, 0, y, u, hu => by
    have hl := E.len x
    rw [h1] at hl
    obtain ⟨a, ha⟩ := List.length_eq_one_iff.1 hl
    simp [ha, hu]
  | x :: L, k + 1, y, u, hu => by
    have hl := E.len x
    rw [h1] at hl
    obtain ⟨a, ha⟩ := List.length_eq_one_iff.1 hl
    have ih := flat1_set h1 L k y u hu
    simp [ha, ih]
theorem Own.set1 {α : Type} {E : Flat α} (h1 : E.n = 1) {w : World} {base : Nat} {e : TypeId} {g n cap : Nat} {L : List α} (h : Own E w base e (.slice (some ⟨g, 0, none⟩) n cap) L) (k : Nat) (y : α) (u : Value) (hu : E.enc y = [u]) :
    Own E (w.setCell ⟨g, k, none⟩ u) base e (.slice (some ⟨g, 0, none⟩) n cap) (L.set k y) := by
  have hn : n = L.length := by
    rcases h.2 with ⟨hv, _⟩ | ⟨g', cap', cur, hv, _⟩
    · cases hv
    · injection hv
  have h' : w.ownsRow base e E.n (.slice (some ⟨g, 0, none⟩) L.length cap) L.length (L.flatMap E.enc) := by rw [hn] at h; exact h
  have h2 := (h'.stored k u).1
  rw [flat1_set h1 L k y u hu] at h2
  show World.ownsRow _ base e E.n _ (L.set k y).length _
  rw [List.length_set, hn]
  exact h2
theorem Own.cellS {w : World} {base : Nat} {e : TypeId} {g n cap : Nat} {L : List ByteArray} (h : Own fStr w base e (.slice (some ⟨g, 0, none⟩) n cap) L) {k : Nat} {x : ByteArray} (hx : L[k]? = some x) : w.cell? ⟨g, k, none⟩ = some (.string x) := by
  have hn : n = L.length := by
    rcases h.2 with ⟨hv, _⟩ | ⟨g', cap', cur, hv, _⟩
    · cases hv
    · injection hv
  have h' : w.ownsRow base e 1 (.slice (some ⟨g, 0, none⟩) L.length cap) L.length (L.flatMap fStr.enc) := by rw [hn] at h; exact h
  have hk : k < L.length := by
    rcases Nat.lt_or_ge k L.length with h | h
    · exact h
    · rw [List.getElem?_eq_none h] at hx; cases hx
  rw [h'.cellAt k (by omega)]
  have := flat_get fStr.enc 1 L (fun x _ => fStr.len x) k hk 0 (by omega)
  simp only [Nat.mul_one, Nat.add_zero] at this
  rw [this]
  have e1 : L[k] = x := by rw [List.getElem?_eq_getElem hk] at hx; exact Option.some.inj hx
  rw [e1]; rfl
theorem Own.frozenS {α : Type} {E : Flat α} {w : World} {base : Nat} {e : TypeId} {g n cap : Nat} {L : List α} (h : Own E w base e (.slice (some ⟨g, 0, none⟩) n cap) L) (k : Nat) : w.frozen? ⟨g, k, none⟩ = false := by
  have hn : n = L.length := by
    rcases h.2 with ⟨hv, _⟩ | ⟨g', cap', cur, hv, _⟩
    · cases hv
    · injection hv
  have h' : w.ownsRow base e E.n (.slice (some ⟨g, 0, none⟩) L.length cap) L.length (L.flatMap E.enc) := by rw [hn] at h; exact h
  exact h'.frozenAt k
/-- The end of a call that hands back a row of its own. -/
def OwnRS {α : Type} (E : Flat α) (T : TypeId) (w : World) (xs : List α) (e : Ending) (w' : World) : Prop := ∃ v, e = .returned v ∧ Own E w' w.heap.size T v xs ∧ Below w.heap.size w w'
theorem infoStr3 : (Try.prog.info? 9).map (fun i => (i.zero, i.size, i.bytes)) = some (some (.string ⟨#[]⟩), 1, 16) := by kernel_rfl

end Go.Proofs.Ytibihiejpieadaa
