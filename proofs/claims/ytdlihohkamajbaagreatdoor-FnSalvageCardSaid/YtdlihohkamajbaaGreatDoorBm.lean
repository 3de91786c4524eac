/- Contracts: MergeBlocks. Written by wip/gen/bm.py. -/
import Derived.Test.YtdlihohkamajbaaGreatDoorBj
namespace Go.Proofs.YtdlihohkamajbaaGreatDoor
open Go.RowKit
set_option linter.unusedVariables false

theorem ordered_pairwise {xs : List DBlock} : Ordered xs ↔ xs.Pairwise (fun a b => beforeB a b = true) := by
  rw [List.pairwise_iff_getElem]
  constructor
  · intro h i j hi hj hij; exact h.lt' hij hj
  · intro h m hm; exact h m (m + 1) (by omega) hm (by omega)
theorem mem_take_get {α : Type} {xs : List α} {k : Nat} {x : α} (h : x ∈ xs.take k) : ∃ m, ∃ hm : m < xs.length, m < k ∧ xs[m] = x := by
  obtain ⟨m, hm, rfl⟩ := List.getElem_of_mem h
  simp at hm
  exact ⟨m, by omega, by omega, by simp⟩
theorem mem_drop_get {α : Type} {xs : List α} {k : Nat} {x : α} (h : x ∈ xs.drop k) : ∃ m, ∃ hm : m < xs.length, k ≤ m ∧ xs[m] = x := by
  obtain ⟨m, hm, rfl⟩ := List.getElem_of_mem h
  simp at hm
  exact ⟨k + m, by omega, by omega, by simp⟩
theorem beforeB_at {xs : List DBlock} {t : DBlock} {m : Nat} (hm : m < xs.length) (h : m < atB xs t) : beforeB xs[m] t = true := (takeWhile_spec (fun x => beforeB x t) xs).2.1 m hm h
theorem after_sk {xs : List DBlock} (h : Ordered xs) {t : DBlock} {m : Nat} (hm : m < xs.length) (hs : skB xs t ≤ m) : beforeB t xs[m] = true := by
  unfold skB at hs
  cases hk : hasKey xs t with
  | true =>
    rw [hk] at hs
    simp only [if_true] at hs
    obtain ⟨hlt, hkey⟩ := hasKey_some hk
    unfold keyB at hkey
    simp only [Bool.and_eq_true, decide_eq_true_eq] at hkey
    rw [← beforeB_key hkey.1 hkey.2]
    exact h.lt' (by omega) hm
  | false =>
    rw [hk] at hs
    simp only [Bool.false_eq_true, if_false] at hs
    have hlt : atB xs t < xs.length := by omega
    have h1 : beforeB xs[atB xs t] t = false := (takeWhile_spec (fun x => beforeB x t) xs).2.2 hlt
    have h2 : beforeB t xs[atB xs t] = true := by
      cases h3 : beforeB t xs[atB xs t] with
      | true => rfl
      | false =>
        obtain ⟨e1, e2⟩ := beforeB_tri h1 h3
        have := hasKey_none h hk _ hlt
        unfold keyB at this
        simp [e1, e2] at this
    rcases Nat.lt_or_ge (atB xs t) m with h4 | h4
    · exact beforeB_trans h2 (h.lt' h4 hm)
    · obtain rfl : m = atB xs t := by omega
      exact h2
theorem putF_ordered {xs : List DBlock} (h : Ordered xs) (t : DBlock) : Ordered (putF xs t) := by
  rw [ordered_pairwise]
  have hp := ordered_pairwise.1 h
  unfold putF
  rw [List.pairwise_append]
  refine ⟨hp.take, ?_, ?_⟩
  · rw [List.pairwise_cons]
    refine ⟨fun x hx => ?_, hp.drop⟩
    obtain ⟨m, hm, hk, rfl⟩ := mem_drop_get hx
    exact after_sk h hm hk
  · intro a ha b hb
    obtain ⟨m, hm, hk, rfl⟩ := mem_take_get ha
    have h1 := beforeB_at hm hk
    rcases List.mem_cons.1 hb with rfl | hb
    · exact h1
    · obtain ⟨m', hm', hk', rfl⟩ := mem_drop_get hb
      exact beforeB_trans h1 (after_sk h hm' hk')
/-- All blocks of ys put into xs. -/
def mgF (xs ys : List DBlock) : List DBlock := ys.foldl putF xs
theorem mgF_step {xs ys : List DBlock} {k : Nat} (hk : k < ys.length) : mgF xs (ys.take (k + 1)) = putF (mgF xs (ys.take k)) ys[k] := by
  unfold mgF; rw [List.take_succ_eq_append_getElem hk, List.foldl_append]; rfl
theorem mgF_ordered {xs : List DBlock} (h : Ordered xs) : ∀ ys : List DBlock, Ordered (mgF xs ys) := by
  intro ys
  induction ys generalizing xs with
  | nil => exact h
  | cons y ys ih => exact ih (putF_ordered h y)
theorem putF_len1 {xs : List DBlock} {t : DBlock} : (putF xs t).length ≤ xs.length + 1 := by
  unfold putF skB
  have := atB_le xs t
  split <;> (simp; omega)
theorem mgF_len {xs : List DBlock} : ∀ ys : List DBlock, (mgF xs ys).length ≤ xs.length + ys.length := by
  intro ys
  induction ys generalizing xs with
  | nil => simp [mgF]
  | cons y ys ih =>
    have h1 := @ih (putF xs y)
    have h2 := @putF_len1 xs y
    show (mgF (putF xs y) ys).length ≤ _
    simp; omega
theorem mgF_ok {xs ys : List DBlock} (h : ∀ x ∈ xs, fBlock.ok x) (hy : ∀ y ∈ ys, fBlock.ok y) : ∀ x ∈ mgF xs ys, fBlock.ok x := by
  induction ys generalizing xs with
  | nil => exact h
  | cons y ys ih => exact ih (putF_ok h (hy y (by simp))) (fun z hz => hy z (by simp [hz]))
def mbOk (xs ys : List DBlock) : Bool := blocksB xs && blocksB ys
def mbF (xs ys : List DBlock) : List DBlock := if mbOk xs ys && decide ((mgF xs ys).length ≤ 32) then mgF xs ys else []
theorem mbF_len {xs ys : List DBlock} : (mbF xs ys).length ≤ 100000000000 := by
  unfold mbF; split
  · rename_i h
    simp only [Bool.and_eq_true, decide_eq_true_eq] at h
    omega
  · simp
def mbC (xs ys : List DBlock) : Int := if mbOk xs ys then (if (mgF xs ys).length ≤ 32 then 0 else 5) else 1

end Go.Proofs.YtdlihohkamajbaaGreatDoor
