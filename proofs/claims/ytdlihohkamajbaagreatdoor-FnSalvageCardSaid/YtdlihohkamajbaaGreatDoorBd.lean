/- Contracts: a copy of blocks, DropBlock. Written by wip/gen/bd.py. -/
import Derived.Test.YtdlihohkamajbaaGreatDoorBn
import Derived.Test.YtdlihohkamajbaaGreatDoorAp
namespace Go.Proofs.YtdlihohkamajbaaGreatDoor
open Go.RowKit
set_option linter.unusedVariables false

theorem infoBlock2 : (Tryz.prog.info? 52).map (fun i => (i.zero, i.size, i.bytes)) = some (some (.agg #[.string ⟨#[]⟩, .string ⟨#[]⟩, .string ⟨#[]⟩]), 3, 48) := by kernel_rfl
/-- A row of the call's own that holds the list. -/
def OwnR {α : Type} (E : Flat α) (T : TypeId) (w : World) (xs : List α) (e : Ending) (w' : World) : Prop := ∃ v, e = .returned v ∧ Own E w' w.heap.size T v xs ∧ Below w.heap.size w w'
set_option maxRecDepth 100000 in
set_option maxHeartbeats 1000000 in
theorem cloneB_any (v : Value) (xs : List DBlock) (fp : List Nat) (w : World) (hx : Sl fBlock.cod w v xs fp) (hl : xs.length ≤ 1000000) :
    Calls Tryz.prog 79 #[v] w fun e w' => OwnR fBlock 52 w xs e w' := by
  obtain ⟨A, cap, rfl, hlen, hcap⟩ := hx.form
  obtain ⟨i0, hi, hz0, hz1, hz2⟩ := info_parts infoBlock2
  have hsrc := (hx.below' ((Below.refl _ _).alloc (Nat.le_refl _) (.cells #[] 52))).src
  have ho := Own.lit0 fBlock w 52
  have hb0 : Below w.heap.size w (w.alloc (.cells #[] 52)) := (Below.refl _ _).alloc (Nat.le_refl _) _
  have hs2 := hb0.size
  have q22 : ∀ (w : World) (a : Option Addr) (n c n' c' : Nat), (binOp .eql 24 (.slice a n c) (.slice none n' c')).run Tryz.prog w = .ok (.bool a.isNone) w := fun w a n c n' c' => Lib.run_eql_slice_nil w _ _ a n c n' c' Tryz.underlying24
  cases A with
  | none =>
    have hnil : xs = [] := by
      rcases Nat.eq_zero_or_pos xs.length with h0 | h0
      · exact List.eq_nil_of_length_eq_zero h0
      · obtain ⟨b, off, hA, _⟩ := hx.cells h0
        cases hA
    subst hnil
    go_enter Tryz.func79, Tryz.ntmps79
    go_wp2
    go_ret
    exact ⟨_, rfl, Own.nil _ _ _ _, Below.refl _ _⟩
  | some ad =>
    go_enter Tryz.func79, Tryz.ntmps79
    go_wp2_with (at_builtin; refine wpList_append_src (E := fBlock) rfl _ _ 24 rfl w.heap.size 52 i0 (.agg #[.string ⟨#[]⟩, .string ⟨#[]⟩, .string ⟨#[]⟩]) 48 Tryz.underlying24 hi hz0 hz1 hz2 rfl (.slice (some ⟨w.heap.size, 0, none⟩) 0 0) [] rfl ho _ xs rfl hsrc (by simp; omega) (by decide) hs2 ?_)
    intro v' u hown hbu
    try rw [List.nil_append] at hown
    go_wp2
    go_ret
    exact ⟨_, rfl, hown, hb0.trans hbu⟩

def dbC (xs : List DBlock) (k n : ByteArray) : Int := if blocksB xs then (if hasKey xs ⟨k, n, ⟨#[]⟩⟩ then 0 else 3) else 1
def dbF (xs : List DBlock) (k n : ByteArray) : List DBlock := if blocksB xs && hasKey xs ⟨k, n, ⟨#[]⟩⟩ then xs.take (atB xs ⟨k, n, ⟨#[]⟩⟩) ++ xs.drop (atB xs ⟨k, n, ⟨#[]⟩⟩ + 1) else []
theorem dbF_ok {xs : List DBlock} {k n : ByteArray} (h : ∀ x ∈ xs, fBlock.ok x) : ∀ x ∈ dbF xs k n, fBlock.ok x := by
  unfold dbF; split
  · intro x hx
    rcases List.mem_append.1 hx with hx | hx
    · exact h x (List.mem_of_mem_take hx)
    · exact h x (List.mem_of_mem_drop hx)
  · simp
theorem dbF_len {xs : List DBlock} {k n : ByteArray} (h : xs.length ≤ 1048576) : (dbF xs k n).length ≤ 100000000000 := by
  unfold dbF; split
  · simp; omega
  · simp

theorem own_mono {w : World} {base base' : Nat} {e : TypeId} {size : Nat} {v : Value} {n : Nat} {xs : List Value} (h : w.ownsRow base e size v n xs) (hb : base' ≤ base) : w.ownsRow base' e size v n xs := by
  obtain ⟨h1, h2⟩ := h
  refine ⟨h1, ?_⟩
  rcases h2 with h2 | ⟨g, cap, cur, hv, hg, r⟩
  · exact .inl h2
  · exact .inr ⟨g, cap, cur, hv, by omega, r⟩
theorem own_open {w : World} {base : Nat} {e : TypeId} {size : Nat} {v : Value} {n : Nat} {xs : List Value} (h : w.ownsRow base e size v n xs) (hn : 0 < n) :
    ∃ g cap, v = .slice (some ⟨g, 0, none⟩) n cap ∧ base ≤ g ∧ g < w.heap.size ∧ n ≤ cap ∧ cap ≤ 9223372036854775807 := by
  obtain ⟨h1, h2⟩ := h
  rcases h2 with ⟨_, h0⟩ | ⟨g, cap, cur, hv, hg, hh, hnc, hcm, _, _⟩
  · omega
  · refine ⟨g, cap, hv, hg, ?_, hnc, by unfold maxLen at hcm; exact hcm⟩
    rcases Nat.lt_or_ge g w.heap.size with hlt | hge
    · exact hlt
    · rw [Array.getElem?_eq_none hge] at hh; cases hh

end Go.Proofs.YtdlihohkamajbaaGreatDoor
