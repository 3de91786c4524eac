
/- Masses that run: plain laws. By hand. -/
import Derived.Test.YtpebibegdeioeaaSeg
namespace Go.Proofs.Ytpebibegdeioeaa
open Go.RowKit
set_option linter.unusedVariables false

def addAt (M : List Int) (t : Nat) (n : Int) : List Int := M.set t (M.getD t 0 + n)
def sumL : List Int → Int
  | [] => 0
  | a :: l => a + sumL l
theorem addAt_len (M : List Int) (t : Nat) (n : Int) : (addAt M t n).length = M.length := by unfold addAt; rw [List.length_set]
theorem addAt_get (M : List Int) (t : Nat) (n : Int) (i : Nat) : (addAt M t n).getD i 0 = if i = t ∧ t < M.length then M.getD t 0 + n else M.getD i 0 := by
  unfold addAt
  by_cases h : i = t
  · subst h
    by_cases h2 : i < M.length
    · rw [if_pos ⟨rfl, h2⟩, List.getD_eq_getElem?_getD, List.getElem?_set_self h2]; rfl
    · rw [if_neg (fun h => h2 h.2), List.getD_eq_getElem?_getD, List.getElem?_eq_none (by rw [List.length_set]; omega), List.getD_eq_getElem?_getD, List.getElem?_eq_none (by omega)]
  · rw [if_neg (fun h2 => h h2.1), List.getD_eq_getElem?_getD, List.getElem?_set_ne (fun e => h e.symm), ← List.getD_eq_getElem?_getD]
theorem sumL_append (l m : List Int) : sumL (l ++ m) = sumL l + sumL m := by
  induction l with
  | nil => simp [sumL]
  | cons a l ih => simp only [List.cons_append, sumL, ih]; omega
theorem sumL_addAt {M : List Int} {t : Nat} (n : Int) (h : t < M.length) : sumL (addAt M t n) = sumL M + n := by
  unfold addAt
  induction M generalizing t with
  | nil => simp at h
  | cons a l ih =>
    cases t with
    | zero => simp only [List.getD_cons_zero, List.set_cons_zero, sumL]; omega
    | succ t =>
      have := ih (t := t) (by simpa using h)
      simp only [List.getD_cons_succ, List.set_cons_succ, sumL, this]; omega
theorem addAt_zero (M : List Int) (t : Nat) : addAt M t 0 = M := by
  unfold addAt
  by_cases h : t < M.length
  · rw [Int.add_zero, List.getD_eq_getElem?_getD, List.getElem?_eq_getElem h]
    exact List.set_getElem_self h
  · rw [List.set_eq_of_length_le (by omega)]
def nnL (M : List Int) : Prop := ∀ i, 0 ≤ M.getD i 0
theorem nnL_addAt {M : List Int} {t : Nat} {n : Int} (h : nnL M) (hn : 0 ≤ n) : nnL (addAt M t n) := by
  intro i
  rw [addAt_get]
  split
  · have := h t; omega
  · exact h i
theorem nnL_cons {a : Int} {l : List Int} (h : nnL (a :: l)) : 0 ≤ a ∧ nnL l := ⟨h 0, fun i => h (i + 1)⟩
theorem sumL_nn {M : List Int} (h : nnL M) : 0 ≤ sumL M := by
  induction M with
  | nil => exact Int.le_refl _
  | cons a l ih =>
    have ⟨h1, h2⟩ := nnL_cons h
    have := ih h2
    simp only [sumL]; omega
theorem get_le_sumL {M : List Int} (h : nnL M) (i : Nat) : M.getD i 0 ≤ sumL M := by
  induction M generalizing i with
  | nil => simp [sumL]
  | cons a l ih =>
    have ⟨h1, h2⟩ := nnL_cons h
    have h3 := sumL_nn h2
    cases i with
    | zero => simp only [List.getD_cons_zero, sumL]; omega
    | succ i => have := ih h2 i; simp only [List.getD_cons_succ, sumL]; omega
theorem sumL_zero_iff {M : List Int} (h : nnL M) : sumL M = 0 ↔ ∀ i, M.getD i 0 = 0 := by
  constructor
  · intro hs i
    have h1 := get_le_sumL h i
    have h2 := h i
    omega
  · intro hz
    induction M with
    | nil => rfl
    | cons a l ih =>
      have h1 := hz 0
      have h2 := ih (nnL_cons h).2 (fun i => hz (i + 1))
      simp only [List.getD_cons_zero] at h1
      simp only [sumL]; omega
theorem sumL_replicate (n : Nat) : sumL (List.replicate n 0) = 0 := by
  induction n with
  | zero => rfl
  | succ n ih => rw [List.replicate_succ]; simp only [sumL, ih]; omega
theorem nnL_replicate (n : Nat) : nnL (List.replicate n 0) := by
  intro i
  rw [List.getD_eq_getElem?_getD, List.getElem?_replicate]
  split <;> simp
theorem sumL_take_succ {M : List Int} {k : Nat} (h : k < M.length) : sumL (M.take (k + 1)) = sumL (M.take k) + M[k] := by
  rw [List.take_succ_eq_append_getElem h, sumL_append]; simp [sumL]
theorem sumL_take_le {M : List Int} (h : nnL M) (k : Nat) : sumL (M.take k) ≤ sumL M := by
  have h1 := congrArg sumL (List.take_append_drop k M)
  rw [sumL_append] at h1
  have h2 : nnL (M.drop k) := fun i => by
    have := h (k + i)
    rw [List.getD_eq_getElem?_getD] at this ⊢
    rwa [List.getElem?_drop]
  have := sumL_nn h2
  omega
theorem nnL_take {M : List Int} (h : nnL M) (k : Nat) : nnL (M.take k) := by
  intro i
  have := h i
  rw [List.getD_eq_getElem?_getD] at this ⊢
  rw [List.getElem?_take]
  split
  · exact this
  · exact Int.le_refl _

/-- The slopes of ways. -/
def slpS (W : List (Nat × Int)) : Int := sumL (W.map Prod.snd)
/-- What the ways get. -/
def shS (m tot : Int) (W : List (Nat × Int)) : Int := sumL (W.map fun x => m * x.2 / tot)
def spreadF (m tot : Int) (W : List (Nat × Int)) (M : List Int) : List Int := W.foldl (fun M x => addAt M x.1 (m * x.2 / tot)) M
/-- The first one of the steepest ways. -/
def bestW : List (Nat × Int) → Nat × Int → Nat × Int
  | [], b => b
  | x :: l, b => bestW l (if b.2 < x.2 then x else b)
def passF (m : Int) (W : List (Nat × Int)) (M : List Int) : List Int :=
  match W with
  | [] => M
  | x :: l => addAt (spreadF m (slpS (x :: l)) (x :: l) M) (bestW (x :: l) x).1 (m - shS m (slpS (x :: l)) (x :: l))
theorem spread_len (m tot : Int) (W : List (Nat × Int)) (M : List Int) : (spreadF m tot W M).length = M.length := by
  unfold spreadF
  induction W generalizing M with
  | nil => rfl
  | cons x l ih => rw [List.foldl_cons, ih, addAt_len]
theorem spread_snoc (m tot : Int) (W : List (Nat × Int)) (M : List Int) {k : Nat} (h : k < W.length) : spreadF m tot (W.take (k + 1)) M = addAt (spreadF m tot (W.take k) M) W[k].1 (m * W[k].2 / tot) := by
  unfold spreadF
  rw [List.take_succ_eq_append_getElem h, List.foldl_append]; rfl
theorem shS_snoc (m tot : Int) (W : List (Nat × Int)) {k : Nat} (h : k < W.length) : shS m tot (W.take (k + 1)) = shS m tot (W.take k) + m * W[k].2 / tot := by
  unfold shS
  rw [List.take_succ_eq_append_getElem h, List.map_append, sumL_append]; simp [sumL]
theorem slpS_snoc (W : List (Nat × Int)) {k : Nat} (h : k < W.length) : slpS (W.take (k + 1)) = slpS (W.take k) + W[k].2 := by
  unfold slpS
  rw [List.take_succ_eq_append_getElem h, List.map_append, sumL_append]; simp [sumL]
theorem bestW_snoc (W : List (Nat × Int)) (b : Nat × Int) {k : Nat} (h : k < W.length) : bestW (W.take (k + 1)) b = if (bestW (W.take k) b).2 < W[k].2 then W[k] else bestW (W.take k) b := by
  induction W generalizing b k with
  | nil => simp at h
  | cons x l ih =>
    cases k with
    | zero => simp [bestW]
    | succ k => simp only [List.take_succ_cons, bestW, List.getElem_cons_succ]; exact ih _ (by simpa using h)
theorem bestW_mem (W : List (Nat × Int)) (b : Nat × Int) : bestW W b = b ∨ bestW W b ∈ W := by
  induction W generalizing b with
  | nil => exact .inl rfl
  | cons x l ih =>
    simp only [bestW]
    rcases ih (if b.2 < x.2 then x else b) with h | h
    · rw [h]; split
      · exact .inr (by simp)
      · exact .inl rfl
    · exact .inr (by simp [h])
theorem sumL_spread (m tot : Int) (W : List (Nat × Int)) (M : List Int) (h : ∀ x ∈ W, x.1 < M.length) : sumL (spreadF m tot W M) = sumL M + shS m tot W := by
  unfold spreadF shS
  induction W generalizing M with
  | nil => simp [sumL]
  | cons x l ih =>
    rw [List.foldl_cons, ih _ (fun y hy => by rw [addAt_len]; exact h y (by simp [hy])), sumL_addAt _ (h x (by simp)), List.map_cons]
    simp only [sumL]; omega
theorem nnL_spread {m tot : Int} {W : List (Nat × Int)} {M : List Int} (hm : 0 ≤ m) (ht : 0 ≤ tot) (hw : ∀ x ∈ W, 0 < x.2) (h : nnL M) : nnL (spreadF m tot W M) := by
  unfold spreadF
  induction W generalizing M with
  | nil => exact h
  | cons x l ih =>
    rw [List.foldl_cons]
    exact ih (fun y hy => hw y (by simp [hy])) (nnL_addAt h (Int.ediv_nonneg (Int.mul_nonneg hm (by have := hw x (by simp); omega)) ht))
theorem nnL_slopes {W : List (Nat × Int)} (hw : ∀ x ∈ W, 0 < x.2) : nnL (W.map Prod.snd) := by
  intro i
  rw [List.getD_eq_getElem?_getD, List.getElem?_map]
  by_cases h : i < W.length
  · rw [List.getElem?_eq_getElem h]
    have := hw _ (List.getElem_mem h)
    show 0 ≤ (W[i]).2
    omega
  · rw [List.getElem?_eq_none (by omega)]; exact Int.le_refl _
theorem slpS_nn {W : List (Nat × Int)} (hw : ∀ x ∈ W, 0 < x.2) : 0 ≤ slpS W := sumL_nn (nnL_slopes hw)
theorem slpS_pos {W : List (Nat × Int)} (hw : ∀ x ∈ W, 0 < x.2) (hne : W ≠ []) : 0 < slpS W := by
  cases W with
  | nil => exact absurd rfl hne
  | cons x l =>
    have h1 := hw x (by simp)
    have h2 := slpS_nn (W := l) (fun y hy => hw y (by simp [hy]))
    unfold slpS at *
    rw [List.map_cons]
    simp only [sumL]; omega
/-- The shares are no more than the mass. -/
theorem shS_mul (m tot : Int) (hm : 0 ≤ m) (ht : 0 < tot) (W : List (Nat × Int)) (hw : ∀ x ∈ W, 0 < x.2) : 0 ≤ shS m tot W ∧ shS m tot W * tot ≤ m * slpS W := by
  unfold shS slpS
  induction W with
  | nil => simp [sumL]
  | cons x l ih =>
    obtain ⟨h1, h2⟩ := ih (fun y hy => hw y (by simp [hy]))
    have h3 := hw x (by simp)
    have h4 : 0 ≤ m * x.2 / tot := Int.ediv_nonneg (Int.mul_nonneg hm (by omega)) (by omega)
    have h5 : m * x.2 / tot * tot ≤ m * x.2 := Int.ediv_mul_le _ (by omega)
    rw [List.map_cons, List.map_cons]
    simp only [sumL]
    refine ⟨by omega, ?_⟩
    rw [Int.add_mul, Int.mul_add]
    omega
theorem shS_le {m : Int} {W : List (Nat × Int)} (hm : 0 ≤ m) (hw : ∀ x ∈ W, 0 < x.2) (hne : W ≠ []) (k : Nat) : 0 ≤ shS m (slpS W) (W.take k) ∧ shS m (slpS W) (W.take k) ≤ m := by
  have ht := slpS_pos hw hne
  obtain ⟨h1, h2⟩ := shS_mul m (slpS W) hm ht (W.take k) (fun x hx => hw x (List.mem_of_mem_take hx))
  refine ⟨h1, ?_⟩
  have h3 : slpS (W.take k) ≤ slpS W := by
    unfold slpS
    rw [List.map_take]
    exact sumL_take_le (nnL_slopes hw) k
  have h4 : m * slpS (W.take k) ≤ m * slpS W := Int.mul_le_mul_of_nonneg_left h3 hm
  exact Int.le_of_mul_le_mul_right (Int.le_trans h2 h4) ht
theorem pass_len (m : Int) (W : List (Nat × Int)) (M : List Int) : (passF m W M).length = M.length := by
  cases W with
  | nil => rfl
  | cons x l => unfold passF; rw [addAt_len, spread_len]
theorem pass_sum {m : Int} {W : List (Nat × Int)} {M : List Int} (hne : W ≠ []) (h : ∀ x ∈ W, x.1 < M.length) : sumL (passF m W M) = sumL M + m := by
  cases W with
  | nil => exact absurd rfl hne
  | cons x l =>
    unfold passF
    have hb : (bestW (x :: l) x).1 < M.length := by
      rcases bestW_mem (x :: l) x with e | e
      · rw [e]; exact h x (by simp)
      · exact h _ e
    rw [sumL_addAt _ (by rw [spread_len]; exact hb), sumL_spread _ _ _ _ h]
    omega
theorem pass_nn {m : Int} {W : List (Nat × Int)} {M : List Int} (hm : 0 ≤ m) (hw : ∀ x ∈ W, 0 < x.2) (h : nnL M) : nnL (passF m W M) := by
  cases W with
  | nil => exact h
  | cons x l =>
    unfold passF
    have h1 := shS_le hm hw (by simp) (x :: l).length
    rw [List.take_length] at h1
    exact nnL_addAt (nnL_spread hm (slpS_nn hw) hw h) (by omega)
theorem spread_zero (tot : Int) (W : List (Nat × Int)) (M : List Int) : spreadF 0 tot W M = M := by
  unfold spreadF
  induction W generalizing M with
  | nil => rfl
  | cons x l ih => rw [List.foldl_cons, Int.zero_mul, Int.zero_ediv, addAt_zero]; exact ih M
theorem shS_zero (tot : Int) (W : List (Nat × Int)) : shS 0 tot W = 0 := by
  unfold shS
  induction W with
  | nil => rfl
  | cons x l ih =>
    rw [List.map_cons]
    show 0 * x.2 / tot + sumL _ = 0
    rw [ih, Int.zero_mul, Int.zero_ediv]; rfl
theorem pass_zero (W : List (Nat × Int)) (M : List Int) : passF 0 W M = M := by
  cases W with
  | nil => rfl
  | cons x l =>
    show addAt (spreadF 0 (slpS (x :: l)) (x :: l) M) _ (0 - shS 0 (slpS (x :: l)) (x :: l)) = M
    rw [spread_zero, shS_zero, Int.sub_zero, addAt_zero]
theorem spread_where {m tot : Int} (W : List (Nat × Int)) (M : List Int) (i : Nat) (h : (spreadF m tot W M).getD i 0 ≠ M.getD i 0) : ∃ x ∈ W, x.1 = i := by
  unfold spreadF at h
  induction W generalizing M with
  | nil => exact absurd rfl h
  | cons x l ih =>
    rw [List.foldl_cons] at h
    by_cases hx : x.1 = i
    · exact ⟨x, by simp, hx⟩
    · have h2 : (addAt M x.1 (m * x.2 / tot)).getD i 0 = M.getD i 0 := by rw [addAt_get, if_neg (fun e => hx e.1.symm)]
      obtain ⟨y, hy, hi⟩ := ih (addAt M x.1 (m * x.2 / tot)) (by rw [h2]; exact h)
      exact ⟨y, by simp [hy], hi⟩
theorem pass_where {m : Int} {W : List (Nat × Int)} {M : List Int} {i : Nat} (h : (passF m W M).getD i 0 ≠ M.getD i 0) : m ≠ 0 ∧ ∃ x ∈ W, x.1 = i := by
  refine ⟨fun e => by subst e; rw [pass_zero] at h; exact h rfl, ?_⟩
  cases W with
  | nil => exact absurd rfl h
  | cons x l =>
    unfold passF at h
    rw [addAt_get] at h
    by_cases hb : i = (bestW (x :: l) x).1
    · rcases bestW_mem (x :: l) x with e | e
      · exact ⟨x, by simp, by rw [hb, e]⟩
      · exact ⟨_, e, hb.symm⟩
    · rw [if_neg (fun e => hb e.1)] at h
      exact spread_where _ _ _ h

/-- Where masses go on to from each cell. -/
structure WaysOk (N : Nat) (W : Nat → List (Nat × Int)) (h : Nat → Int) : Prop where
  lt : ∀ c, c < N → ∀ x ∈ W c, x.1 < N
  pos : ∀ c, c < N → ∀ x ∈ W c, 0 < x.2
  low : ∀ c, c < N → ∀ x ∈ W c, h x.1 < h c
  nn : ∀ c, c < N → 0 ≤ h c
def movF (W : Nat → List (Nat × Int)) (ms : List Int) : Nat → List Int
  | 0 => List.replicate ms.length 0
  | c + 1 => passF (ms.getD c 0) (W c) (movF W ms c)
def setF (W : Nat → List (Nat × Int)) (ms : List Int) : Nat → List Int
  | 0 => List.replicate ms.length 0
  | c + 1 => if W c = [] then addAt (setF W ms c) c (ms.getD c 0) else setF W ms c
theorem mov_len (W : Nat → List (Nat × Int)) (ms : List Int) (c : Nat) : (movF W ms c).length = ms.length := by
  induction c with
  | zero => simp [movF]
  | succ c ih => simp only [movF]; rw [pass_len, ih]
theorem set_len (W : Nat → List (Nat × Int)) (ms : List Int) (c : Nat) : (setF W ms c).length = ms.length := by
  induction c with
  | zero => simp [setF]
  | succ c ih =>
    simp only [setF]
    split
    · rw [addAt_len, ih]
    · exact ih
theorem take_sum_getD {ms : List Int} {c : Nat} (h : c < ms.length) : sumL (ms.take (c + 1)) = sumL (ms.take c) + ms.getD c 0 := by
  rw [sumL_take_succ h, List.getD_eq_getElem?_getD, List.getElem?_eq_getElem h]; rfl
theorem movset {N : Nat} {W : Nat → List (Nat × Int)} {h : Nat → Int} {ms : List Int} (hw : WaysOk N W h) (hl : ms.length = N) (hn : nnL ms) (c : Nat) (hc : c ≤ N) :
    nnL (movF W ms c) ∧ nnL (setF W ms c) ∧ sumL (movF W ms c) + sumL (setF W ms c) = sumL (ms.take c) := by
  induction c with
  | zero => exact ⟨nnL_replicate _, nnL_replicate _, by simp only [movF, setF, List.take_zero, sumL_replicate, sumL]; rfl⟩
  | succ c ih =>
    obtain ⟨h1, h2, h3⟩ := ih (by omega)
    have hcm := hn c
    refine ⟨pass_nn hcm (hw.pos c (by omega)) h1, ?_, ?_⟩
    · simp only [setF]
      split
      · exact nnL_addAt h2 hcm
      · exact h2
    · rw [take_sum_getD (by omega)]
      simp only [movF, setF]
      by_cases e : W c = []
      · rw [if_pos e, e, sumL_addAt _ (by rw [set_len]; omega)]
        show sumL (movF W ms c) + _ = _
        omega
      · rw [if_neg e, pass_sum e (fun x hx => by rw [mov_len, hl]; exact hw.lt c (by omega) x hx)]
        omega
/-- What has moved stands lower than something that stood before. -/
theorem mov_low {N : Nat} {W : Nat → List (Nat × Int)} {h : Nat → Int} {ms : List Int} (hw : WaysOk N W h) (c : Nat) (hc : c ≤ N) (i : Nat) (hi : (movF W ms c).getD i 0 ≠ 0) : ∃ k, k < c ∧ ms.getD k 0 ≠ 0 ∧ h i < h k := by
  induction c with
  | zero =>
    exfalso
    apply hi
    simp only [movF]
    rw [List.getD_eq_getElem?_getD, List.getElem?_replicate]
    split <;> rfl
  | succ c ih =>
    simp only [movF] at hi
    by_cases e : (movF W ms c).getD i 0 = 0
    · have hi2 : (passF (ms.getD c 0) (W c) (movF W ms c)).getD i 0 ≠ (movF W ms c).getD i 0 := by rw [e]; exact hi
      obtain ⟨h1, x, hx, rfl⟩ := pass_where hi2
      exact ⟨c, by omega, h1, hw.low c (by omega) x hx⟩
    · obtain ⟨k, h1, h2, h3⟩ := ih (by omega) e
      exact ⟨k, by omega, h2, h3⟩

def nowF (W : Nat → List (Nat × Int)) (ms : List Int) : Nat → List Int
  | 0 => ms
  | t + 1 => movF W (nowF W ms t) ms.length
def sttF (W : Nat → List (Nat × Int)) (ms : List Int) : Nat → List Int
  | 0 => List.replicate ms.length 0
  | t + 1 => List.zipWith (· + ·) (sttF W ms t) (setF W (nowF W ms t) ms.length)
def arrF (W : Nat → List (Nat × Int)) (ms : List Int) : Nat → List Int
  | 0 => ms.map fun m => if 0 < m then 0 else -1
  | t + 1 => List.zipWith (fun a m => if a < 0 ∧ 0 < m then ((t + 1 : Nat) : Int) else a) (arrF W ms t) (nowF W ms (t + 1))
theorem now_len (W : Nat → List (Nat × Int)) (ms : List Int) (t : Nat) : (nowF W ms t).length = ms.length := by
  induction t with
  | zero => rfl
  | succ t ih => simp only [nowF]; rw [mov_len, ih]
theorem stt_len (W : Nat → List (Nat × Int)) (ms : List Int) (t : Nat) : (sttF W ms t).length = ms.length := by
  induction t with
  | zero => simp [sttF]
  | succ t ih => simp only [sttF]; rw [List.length_zipWith, ih, set_len, now_len]; omega
theorem arr_len (W : Nat → List (Nat × Int)) (ms : List Int) (t : Nat) : (arrF W ms t).length = ms.length := by
  induction t with
  | zero => simp [arrF]
  | succ t ih => simp only [arrF]; rw [List.length_zipWith, ih, now_len]; omega
theorem sumL_zip (a b : List Int) (h : a.length = b.length) : sumL (List.zipWith (· + ·) a b) = sumL a + sumL b := by
  induction a generalizing b with
  | nil => cases b with
    | nil => rfl
    | cons y l => simp at h
  | cons x l ih => cases b with
    | nil => simp at h
    | cons y m =>
      have := ih m (by simpa using h)
      simp only [List.zipWith_cons_cons, sumL, this]; omega
theorem nnL_zip {a b : List Int} (h1 : nnL a) (h2 : nnL b) : nnL (List.zipWith (· + ·) a b) := by
  intro i
  rw [List.getD_eq_getElem?_getD, List.getElem?_zipWith]
  have p := h1 i
  have q := h2 i
  rw [List.getD_eq_getElem?_getD] at p q
  cases ha : a[i]? <;> cases hb : b[i]? <;> simp_all <;> omega
theorem now_all {N : Nat} {W : Nat → List (Nat × Int)} {h : Nat → Int} {ms : List Int} (hw : WaysOk N W h) (hl : ms.length = N) (hn : nnL ms) (t : Nat) :
    nnL (nowF W ms t) ∧ nnL (sttF W ms t) ∧ sumL (nowF W ms t) + sumL (sttF W ms t) = sumL ms := by
  induction t with
  | zero => exact ⟨hn, nnL_replicate _, by simp only [nowF, sttF, sumL_replicate]; omega⟩
  | succ t ih =>
    obtain ⟨h1, h2, h3⟩ := ih
    have hl2 : (nowF W ms t).length = N := by rw [now_len, hl]
    obtain ⟨h4, h5, h6⟩ := movset hw hl2 h1 N (Nat.le_refl _)
    rw [List.take_of_length_le (by omega)] at h6
    rw [← hl] at h4 h5 h6
    refine ⟨h4, nnL_zip h2 h5, ?_⟩
    simp only [nowF, sttF]
    rw [sumL_zip _ _ (by rw [stt_len, set_len, now_len])]
    omega
theorem now_high {N : Nat} {W : Nat → List (Nat × Int)} {h : Nat → Int} {ms : List Int} (hw : WaysOk N W h) (hl : ms.length = N) (B : Int) (hB : ∀ c, c < N → h c ≤ B) (t : Nat) :
    ∀ i, i < N → (nowF W ms t).getD i 0 ≠ 0 → h i + (t : Int) ≤ B := by
  induction t with
  | zero => intro i hi _; have := hB i hi; omega
  | succ t ih =>
    intro i hi hne
    simp only [nowF] at hne
    obtain ⟨k, h1, h2, h3⟩ := mov_low hw _ (by omega) i hne
    have := ih k (by omega) h2
    omega
/-- The masses come to rest. -/
theorem now_rests {N : Nat} {W : Nat → List (Nat × Int)} {h : Nat → Int} {ms : List Int} (hw : WaysOk N W h) (hl : ms.length = N) (hn : nnL ms) (B : Nat) (hB : ∀ c, c < N → h c ≤ (B : Int)) :
    ∃ T, T ≤ B + 1 ∧ sumL (nowF W ms T) = 0 ∧ ∀ t, t < T → 0 < sumL (nowF W ms t) := by
  have hz : sumL (nowF W ms (B + 1)) = 0 := by
    obtain ⟨h1, _, _⟩ := now_all hw hl hn (B + 1)
    refine (sumL_zero_iff h1).2 (fun i => ?_)
    by_cases hi : i < N
    · by_cases hne : (nowF W ms (B + 1)).getD i 0 = 0
      · exact hne
      · have h2 := now_high hw hl (B : Int) hB (B + 1) i hi hne
        have h3 := hw.nn i hi
        omega
    · rw [List.getD_eq_getElem?_getD, List.getElem?_eq_none (by rw [now_len, hl]; omega)]; rfl
  have hex : ∀ n, sumL (nowF W ms n) = 0 → ∃ T, T ≤ n ∧ sumL (nowF W ms T) = 0 ∧ ∀ t, t < T → 0 < sumL (nowF W ms t) := by
    intro n
    induction n using Nat.strongRecOn with
    | ind n ih =>
      intro h0
      by_cases hall : ∀ t, t < n → 0 < sumL (nowF W ms t)
      · exact ⟨n, Nat.le_refl _, h0, hall⟩
      · have hx : ∃ t, t < n ∧ sumL (nowF W ms t) = 0 := by
          refine Classical.byContradiction (fun hc => hall (fun t ht => ?_))
          have h1 := sumL_nn (now_all hw hl hn t).1
          by_cases e : sumL (nowF W ms t) = 0
          · exact absurd ⟨t, ht, e⟩ hc
          · omega
        obtain ⟨t, ht, e⟩ := hx
        obtain ⟨T, a, b, c⟩ := ih t ht e
        exact ⟨T, by omega, b, c⟩
  exact hex (B + 1) hz
end Go.Proofs.Ytpebibegdeioeaa
