/- Plain laws on lists of blocks in order. No function of the program is named here. -/
import Derived.Test.YtdlihohkamajbaaGreatDoorBk
namespace Go.Proofs.YtdlihohkamajbaaGreatDoor
set_option linter.unusedVariables false

theorem beforeB_irrefl (a : DBlock) : beforeB a a = false := by unfold beforeB; rw [ltS_irrefl, ltS_irrefl]; simp
theorem beforeB_trans {a b c : DBlock} (h1 : beforeB a b = true) (h2 : beforeB b c = true) : beforeB a c = true := by
  unfold beforeB at *
  simp only [Bool.or_eq_true, Bool.and_eq_true, decide_eq_true_eq] at *
  rcases h1 with h1 | ⟨e1, h1⟩ <;> rcases h2 with h2 | ⟨e2, h2⟩
  · exact .inl (ltS_trans h1 h2)
  · exact .inl (e2 ▸ h1)
  · exact .inl (e1 ▸ h2)
  · exact .inr ⟨e1.trans e2, ltS_trans h1 h2⟩
theorem beforeB_key {a b c : DBlock} (hk : a.kind = b.kind) (hn : a.name = b.name) : beforeB a c = beforeB b c := by unfold beforeB; rw [hk, hn]
theorem beforeB_key' {a b c : DBlock} (hk : a.kind = b.kind) (hn : a.name = b.name) : beforeB c a = beforeB c b := by unfold beforeB; rw [hk, hn]
theorem beforeB_asymm {a b : DBlock} (h : beforeB a b = true) : beforeB b a = false := by
  cases hh : beforeB b a with
  | false => rfl
  | true => have := beforeB_trans h hh; rw [beforeB_irrefl] at this; cases this
theorem beforeB_tri {a b : DBlock} (h1 : beforeB a b = false) (h2 : beforeB b a = false) : a.kind = b.kind ∧ a.name = b.name := by
  unfold beforeB at *
  simp only [Bool.or_eq_false_iff, Bool.and_eq_false_iff, decide_eq_false_iff_not] at *
  have hk := ltS_tri h1.1 h2.1
  refine ⟨hk, ?_⟩
  rcases h1.2 with h | h
  · exact absurd hk h
  · rcases h2.2 with h' | h'
    · exact absurd hk.symm h'
    · exact ltS_tri h h'
/-- In order, strictly. -/
def Ordered (xs : List DBlock) : Prop := ∀ m, (h : m + 1 < xs.length) → beforeB (xs[m]'(by omega)) xs[m + 1] = true
theorem Ordered.lt {xs : List DBlock} (h : Ordered xs) : ∀ (d i : Nat) (hj : i + d + 1 < xs.length), beforeB (xs[i]'(by omega)) (xs[i + d + 1]'hj) = true
  | 0, i, hj => h i hj
  | d + 1, i, hj => beforeB_trans (Ordered.lt h d i (by omega)) (h (i + d + 1) hj)
theorem Ordered.lt' {xs : List DBlock} (h : Ordered xs) {i j : Nat} (hij : i < j) (hj : j < xs.length) : beforeB (xs[i]'(by omega)) xs[j] = true := by
  obtain ⟨d, rfl⟩ : ∃ d, j = i + d + 1 := ⟨j - i - 1, by omega⟩
  exact Ordered.lt h d i hj
theorem blocksB_ordered {xs : List DBlock} (h : blocksB xs = true) : Ordered xs := fun m hm => blocksB_two h hm
/-- Where t would stand. -/
def atB (xs : List DBlock) (t : DBlock) : Nat := (xs.takeWhile (fun x => beforeB x t)).length
theorem takeWhile_len {α : Type} (p : α → Bool) : ∀ (xs : List α) (i : Nat), i ≤ xs.length → (∀ m (h : m < xs.length), m < i → p xs[m] = true) → (∀ h : i < xs.length, p xs[i] = false) → (xs.takeWhile p).length = i
  | [], i, hi, _, _ => by simp at hi; subst hi; rfl
  | x :: xs, 0, _, _, h2 => by
    have := h2 (by simp)
    simp at this
    simp [List.takeWhile_cons, this]
  | x :: xs, i + 1, hi, h1, h2 => by
    have h0 := h1 0 (by simp) (by omega)
    simp at h0
    rw [List.takeWhile_cons, h0]
    simp only [if_true, List.length_cons]
    rw [takeWhile_len p xs i (by simpa using hi) (fun m h hm => by have := h1 (m + 1) (by simpa using h) (by omega); simpa using this) (fun h => by have := h2 (by simpa using h); simpa using this)]
theorem takeWhile_spec {α : Type} (p : α → Bool) : ∀ (xs : List α), (xs.takeWhile p).length ≤ xs.length ∧ (∀ m (h : m < xs.length), m < (xs.takeWhile p).length → p xs[m] = true) ∧ (∀ h : (xs.takeWhile p).length < xs.length, p xs[(xs.takeWhile p).length] = false)
  | [] => by simp
  | x :: xs => by
    obtain ⟨h1, h2, h3⟩ := takeWhile_spec p xs
    cases hp : p x with
    | false => simp [List.takeWhile_cons, hp]
    | true =>
      simp only [List.takeWhile_cons, hp, if_true, List.length_cons]
      refine ⟨by omega, ?_, ?_⟩
      · intro m h hm
        cases m with
        | zero => simpa using hp
        | succ m => simpa using h2 m (by simpa using h) (by omega)
      · intro h
        simpa using h3 (by simpa using h)
def keyB (x : DBlock) (k n : ByteArray) : Bool := decide (x.kind = k) && decide (x.name = n)
def hasKey (xs : List DBlock) (t : DBlock) : Bool := match xs[atB xs t]? with | some x => keyB x t.kind t.name | none => false
theorem atB_le (xs : List DBlock) (t : DBlock) : atB xs t ≤ xs.length := (takeWhile_spec _ xs).1
theorem atB_key {xs : List DBlock} (h : Ordered xs) {t : DBlock} {m : Nat} (hm : m < xs.length) (hk : keyB xs[m] t.kind t.name = true) : atB xs t = m := by
  unfold keyB at hk
  simp only [Bool.and_eq_true, decide_eq_true_eq] at hk
  refine takeWhile_len _ xs m (by omega) (fun i hi him => ?_) (fun h' => ?_)
  · rw [← beforeB_key' hk.1 hk.2]; exact h.lt' him hm
  · rw [beforeB_key hk.1 hk.2, beforeB_irrefl]
theorem hasKey_none {xs : List DBlock} (h : Ordered xs) {t : DBlock} (hn : hasKey xs t = false) : ∀ m (hm : m < xs.length), keyB xs[m] t.kind t.name = false := by
  intro m hm
  cases hk : keyB xs[m] t.kind t.name with
  | false => rfl
  | true =>
    have e := atB_key h hm hk
    unfold hasKey at hn
    rw [e] at hn
    simp [hm, hk] at hn
theorem hasKey_some {xs : List DBlock} {t : DBlock} (hn : hasKey xs t = true) : ∃ h : atB xs t < xs.length, keyB xs[atB xs t] t.kind t.name = true := by
  unfold hasKey at hn
  by_cases h : atB xs t < xs.length
  · refine ⟨h, ?_⟩
    simpa [h] using hn
  · rw [List.getElem?_eq_none (by omega)] at hn; cases hn
theorem keyB_cmp (x t : DBlock) : keyB x t.kind t.name = decide (cmpB x t = 0) := by
  rw [Bool.eq_iff_iff, decide_eq_true_eq, cmpB_zero]; simp [keyB]
end Go.Proofs.YtdlihohkamajbaaGreatDoor
