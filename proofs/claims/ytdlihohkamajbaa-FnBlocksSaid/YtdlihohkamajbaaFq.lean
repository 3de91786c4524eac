/- FnBlocks: plain laws. Written by wip/gen/fq.py. -/
import Derived.Test.YtdlihohkamajbaaDl
import Derived.Test.YtdlihohkamajbaaBo
namespace Go.Proofs.Ytdlihohkamajbaa
open Go.RowKit
set_option linter.unusedVariables false

def newK : ByteArray := ⟨#[110, 101, 119]⟩
def x0N : ByteArray := ⟨#[120]⟩
def x0D : DBlock := ⟨newK, x0N, ⟨#[116]⟩⟩
def keyD (k n : ByteArray) : DBlock := ⟨k, n, ⟨#[]⟩⟩
theorem kindL_new {k : ByteArray} (h : k ∈ kindL) : ¬ k = newK := by
  have h1 : ∀ x ∈ kindL, ¬ x = newK := by decide
  exact h1 _ h
theorem find_mem {zs : List DBlock} (ho : Ordered zs) {t : DBlock} (ht : t ∈ zs) : hasKey zs ⟨t.kind, t.name, ⟨#[]⟩⟩ = true ∧ zs.getD (atB zs ⟨t.kind, t.name, ⟨#[]⟩⟩) b0 = t ∧ zs[atB zs ⟨t.kind, t.name, ⟨#[]⟩⟩]? = some t := by
  obtain ⟨m, hm, rfl⟩ := List.getElem_of_mem ht
  have e := atB_key ho (t := ⟨zs[m].kind, zs[m].name, ⟨#[]⟩⟩) hm (by unfold keyB; simp)
  refine ⟨?_, ?_, ?_⟩
  · unfold hasKey; rw [e, List.getElem?_eq_getElem hm]; unfold keyB; simp
  · rw [e, List.getD_eq_getElem?_getD, List.getElem?_eq_getElem hm]; rfl
  · rw [e, List.getElem?_eq_getElem hm]
theorem named_mem {zs : List DBlock} (hv : blocksB zs = true) {t : DBlock} (ht : t ∈ zs) : bnC zs t.kind t.name = 0 ∧ bnF zs t.kind t.name = t.text := by
  obtain ⟨h1, h2, _⟩ := find_mem (blocksB_ordered hv) ht
  unfold bnC bnF
  rw [hv, h1, h2]; exact ⟨rfl, rfl⟩
theorem put_mem (zs : List DBlock) (t : DBlock) : t ∈ putF zs t := by unfold putF; simp
theorem put_keep {zs : List DBlock} (ho : Ordered zs) {y t : DBlock} (hy : y ∈ zs) (hk : keyB y t.kind t.name = false) : y ∈ putF zs t := by
  obtain ⟨m, hm, rfl⟩ := List.getElem_of_mem hy
  unfold putF
  rw [List.mem_append, List.mem_cons]
  rcases Nat.lt_or_ge m (atB zs t) with h | h
  · left
    rw [List.mem_iff_getElem]
    exact ⟨m, by rw [List.length_take]; omega, by rw [List.getElem_take]⟩
  · right; right
    have hs : skB zs t ≤ m := by
      unfold skB
      split
      · rename_i hh
        obtain ⟨hlt, hkk⟩ := hasKey_some hh
        rcases Nat.lt_or_ge (atB zs t) m with h2 | h2
        · omega
        · obtain e : m = atB zs t := by omega
          subst e; rw [hkk] at hk; cases hk
      · exact h
    rw [List.mem_iff_getElem]
    exact ⟨m - skB zs t, by rw [List.length_drop]; omega, by rw [List.getElem_drop]; congr 1; omega⟩
theorem before_key {a b : DBlock} (h : beforeB a b = true) : keyB a b.kind b.name = false := by
  cases hk : keyB a b.kind b.name with
  | false => rfl
  | true =>
    unfold keyB at hk
    simp only [Bool.and_eq_true, decide_eq_true_eq] at hk
    rw [beforeB_key hk.1 hk.2, beforeB_irrefl] at h
    cases h
theorem mg_has {L O : List DBlock} (hL : Ordered L) (hO : Ordered O) : ∀ k, k ≤ O.length → ∀ j (hj : j < k) (hl : j < O.length), O[j] ∈ mgF L (O.take k)
  | 0, _, j, hj, _ => by omega
  | k + 1, hk, j, hj, hl => by
    rw [mgF_step (by omega)]
    rcases Nat.lt_or_ge j k with h | h
    · exact put_keep (mgF_ordered hL _) (mg_has hL hO k (by omega) j h hl) (before_key (hO.lt' h (by omega)))
    · obtain rfl : j = k := by omega
      exact put_mem _ _
theorem mg_mem {L O : List DBlock} (hL : Ordered L) (hO : Ordered O) {y : DBlock} (hy : y ∈ O) : y ∈ mgF L O := by
  obtain ⟨m, hm, rfl⟩ := List.getElem_of_mem hy
  have := mg_has hL hO O.length (Nat.le_refl _) m hm hm
  rwa [List.take_length] at this
theorem mg_all {P : DBlock → Prop} {L : List DBlock} : ∀ O : List DBlock, (∀ x ∈ L, P x) → (∀ x ∈ O, P x) → ∀ x ∈ mgF L O, P x := by
  intro O
  induction O generalizing L with
  | nil => intro h _; exact h
  | cons y O ih =>
    intro h1 h2
    refine ih (L := putF L y) (fun x hx => ?_) (fun x hx => h2 x (by simp [hx]))
    rcases dPut_mem hx with hx | rfl
    · exact h1 x hx
    · exact h2 _ (by simp)
theorem fb_put {L : List DBlock} (h : drawOk L) (hl : L.length ≤ 5) : pbC L x0D = 0 ∧ pbF L x0D = putF L x0D ∧ blocksB (putF L x0D) = true ∧ hasKey L x0D = false := by
  have hb : blockB x0D = true := by decide
  have h1 := @putF_len1 L x0D
  have hc : pbC L x0D = 0 := by unfold pbC pbOk; rw [h.1, hb, Bool.and_self, if_pos rfl]; exact if_pos (by omega)
  obtain ⟨_, _, h3⟩ := pbC_zero hc
  refine ⟨hc, h3, dBlocks_put h.1 hb (by omega), ?_⟩
  cases hk : hasKey L x0D with
  | false => rfl
  | true =>
    obtain ⟨hlt, hkk⟩ := hasKey_some hk
    unfold keyB at hkk
    simp only [Bool.and_eq_true, decide_eq_true_eq] at hkk
    exact absurd hkk.1 (kindL_new (h.2 _ (List.getElem_mem hlt)))
theorem fb_named {L : List DBlock} (h : drawOk L) (hl : L.length ≤ 5) : bnC (putF L x0D) newK x0N = 0 ∧ bnF (putF L x0D) newK x0N = ⟨#[116]⟩ :=
  named_mem (t := x0D) (fb_put h hl).2.2.1 (put_mem _ _)
theorem fb_drop {L : List DBlock} (h : drawOk L) (hl : L.length ≤ 5) : dbC (putF L x0D) newK x0N = 0 ∧ dbF (putF L x0D) newK x0N = L := by
  obtain ⟨_, _, hv, hk⟩ := fb_put h hl
  obtain ⟨h1, _, _⟩ := find_mem (blocksB_ordered hv) (put_mem L x0D)
  have h1' : hasKey (putF L x0D) ⟨newK, x0N, ⟨#[]⟩⟩ = true := h1
  have hat := atB_le L x0D
  have hN : putF L x0D = L.take (atB L x0D) ++ x0D :: L.drop (atB L x0D) := by unfold putF skB; rw [hk]; rfl
  have hlen : (L.take (atB L x0D)).length = atB L x0D := by rw [List.length_take]; omega
  have ea : atB (putF L x0D) ⟨newK, x0N, ⟨#[]⟩⟩ = atB L x0D := by
    have hm : atB L x0D < (putF L x0D).length := by rw [hN, List.length_append, hlen, List.length_cons]; omega
    refine atB_key (blocksB_ordered hv) hm ?_
    have e : (putF L x0D)[atB L x0D] = x0D := by
      rw [List.getElem_of_eq hN, List.getElem_append_right (by omega)]
      simp [hlen]
    rw [e]; decide
  refine ⟨by unfold dbC; rw [hv, h1']; rfl, ?_⟩
  unfold dbF
  rw [hv, h1', ea]
  rw [if_pos (by rfl)]
  have e1 : (putF L x0D).take (atB L x0D) = L.take (atB L x0D) := by rw [hN, List.take_append_of_le_length (by omega), List.take_of_length_le (by omega)]
  have e2 : (putF L x0D).drop (atB L x0D + 1) = L.drop (atB L x0D) := by
    rw [hN, List.drop_append, List.drop_of_length_le (by omega), hlen, show atB L x0D + 1 - atB L x0D = 1 by omega]; rfl
  rw [e1, e2, List.take_append_drop]
theorem fb_merge {L O : List DBlock} (h : drawOk L) (hl : L.length ≤ 5) (h2 : drawOk O) (hl2 : O.length ≤ 5) : mbC L O = 0 ∧ mbF L O = mgF L O ∧ blocksB (mgF L O) = true ∧ (mgF L O).length ≤ L.length + O.length := by
  have hlen := mgF_len (xs := L) O
  have hok : mbOk L O = true := by unfold mbOk; rw [h.1, h2.1]; rfl
  refine ⟨by unfold mbC; rw [hok, if_pos rfl]; exact if_pos (by omega), by unfold mbF; rw [hok, decide_eq_true (show (mgF L O).length ≤ 32 by omega)]; rfl, ?_, hlen⟩
  exact dBlocks_of (mg_all O (fun x hx => dBlocks_at h.1 hx) (fun x hx => dBlocks_at h2.1 hx)) (mgF_ordered (blocksB_ordered h.1) O) (by omega)
theorem fb_each {L O : List DBlock} (h : drawOk L) (hl : L.length ≤ 5) (h2 : drawOk O) (hl2 : O.length ≤ 5) {y : DBlock} (hy : y ∈ O) : bnC (mgF L O) y.kind y.name = 0 ∧ bnF (mgF L O) y.kind y.name = y.text :=
  named_mem (fb_merge h hl h2 hl2).2.2.1 (mg_mem (blocksB_ordered h.1) (blocksB_ordered h2.1) hy)
theorem fb_kind {L : List DBlock} (h : drawOk L) (hl : L.length ≤ 5) : bkC (putF L x0D) = 0 ∧ (bkF (putF L x0D) newK).length = 1 := by
  obtain ⟨_, _, hv, hk⟩ := fb_put h hl
  refine ⟨by unfold bkC; rw [hv]; rfl, ?_⟩
  have hN : putF L x0D = L.take (atB L x0D) ++ x0D :: L.drop (atB L x0D) := by unfold putF skB; rw [hk]; rfl
  have hf : ∀ l : List DBlock, (∀ x ∈ l, x.kind ∈ kindL) → l.filter (fun x : DBlock => decide (x.kind = newK)) = [] := fun l hl => by
    rw [List.filter_eq_nil_iff]; intro x hx; simpa using kindL_new (hl x hx)
  unfold bkF
  rw [hv, if_pos rfl, List.length_map, hN, List.filter_append, List.filter_cons_of_pos (by decide), hf _ (fun x hx => h.2 x (List.mem_of_mem_take hx)), hf _ (fun x hx => h.2 x (List.mem_of_mem_drop hx))]
  rfl

end Go.Proofs.Ytdlihohkamajbaa
