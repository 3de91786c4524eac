
/- Rows of numbers: a row of the call's own whose elements are rows of numbers of the call's own, each in a block of its own. Written by wip/gen/pgi.py out of XPg. -/
import Derived.Test.YtjfaafoldllppaaPg
namespace Go.Proofs.Ytjfaafoldllppaa
open Go.RowKit
set_option linter.unusedVariables false

structure PgW (w : World) (B : Nat) (v : Value) (n : Nat) (V : Nat → Value) (X : Nat → List Int) (G : Nat → Nat) : Prop where
  own : w.ownsRow B 50 1 v n ((List.range n).map V)
  row : ∀ i, i < n → Own fInt w B 2 (V i) (X i)
  blk : ∀ i, i < n → (V i).ownBlock = some (G i)
  inj : ∀ i j, i < n → j < n → G i = G j → i = j
  ap : ∀ i, i < n → v.ownBlock ≠ some (G i)
section
variable {w w' u : World} {B n : Nat} {v v' : Value} {V : Nat → Value} {X : Nat → List Int} {G : Nat → Nat}
theorem PgW.gl (h : PgW w B v n V X G) {i : Nat} (hi : i < n) : B ≤ G i ∧ G i < w.heap.size := own_at (h.row i hi) (h.blk i hi)
theorem PgW.below (h : PgW w B v n V X G) (hb : Below w.heap.size w w') : PgW w' B v n V X G :=
  ⟨ownsRow_belowR h.own hb, fun i hi => (h.row i hi).below hb, h.blk, h.inj, h.ap⟩
theorem PgW.nil {c : Nat} (hw : w.ownsRow B 50 1 v 0 []) : PgW w B v 0 (fun _ => undef) (fun _ => []) (fun _ => 0) :=
  ⟨hw, fun i hi => absurd hi (Nat.not_lt_zero i), fun i hi => absurd hi (Nat.not_lt_zero i), fun i j hi => absurd hi (Nat.not_lt_zero i), fun i hi => absurd hi (Nat.not_lt_zero i)⟩
theorem PgW.congr {X' : Nat → List Int} (h : PgW w B v n V X G) (hx : ∀ i, i < n → X i = X' i) : PgW w B v n V X' G :=
  ⟨h.own, fun i hi => by rw [← hx i hi]; exact h.row i hi, h.blk, h.inj, h.ap⟩
theorem PgW.form (h : PgW w B v n V X G) : ∃ A cap, v = .slice A n cap := by
  rcases h.own.2 with ⟨hv, h0⟩ | ⟨g, cap, cur, hv, _⟩
  · exact ⟨none, 0, by rw [hv, h0]⟩
  · exact ⟨_, cap, hv⟩
theorem PgW.addr (h : PgW w B v n V X G) (h0 : 0 < n) : ∃ g cap, v = .slice (some ⟨g, 0, none⟩) n cap ∧ B ≤ g ∧ g < w.heap.size := by
  rcases h.own.2 with ⟨hv, h1⟩ | ⟨g, cap, cur, hv, hg, hh, _⟩
  · omega
  · refine ⟨g, cap, hv, hg, ?_⟩
    rcases Nat.lt_or_ge g w.heap.size with hlt | hge
    · exact hlt
    · rw [Array.getElem?_eq_none hge] at hh; cases hh
theorem PgW.last (h : PgW w B v n V X G) {i : Nat} (hi : i < n) (h0 : 0 < (X i).length) : ∃ c, V i = .slice (some ⟨G i, 0, none⟩) (X i).length c := by
  have hb := h.blk i hi
  rcases (h.row i hi).2 with ⟨hv, h1⟩ | ⟨g, cap, cur, hv, _⟩
  · omega
  · rw [hv] at hb
    injection hb with hb
    have hb : g = G i := hb
    subst hb
    exact ⟨cap, hv⟩
/-- One page more. -/
theorem PgW.push {r : List Int} {y : Value} {gy : Nat} (h : PgW w B v n V X G) (hy : Own fInt w B 2 y r) (hgy : y.ownBlock = some gy) (hne : ∀ i, i < n → G i ≠ gy) (hvy : v.ownBlock ≠ some gy)
    (hown : u.ownsRow B 50 1 v' (n + 1) ((List.range n).map V ++ [y])) (hg : w.grownBy u v.ownBlock) (hl : v'.ownBlock = v.ownBlock ∨ v'.ownBlock = some w.heap.size) :
    PgW u B v' (n + 1) (fun i => if i = n then y else V i) (fun i => if i = n then r else X i) (fun i => if i = n then gy else G i) := by
  have keep : ∀ {z : Value} {q : List Int} {b : Nat}, Own fInt w B 2 z q → z.ownBlock = some b → v.ownBlock ≠ some b → Own fInt u B 2 z q := fun hz hb hne => own_stays hz fun k hk hkl => hg.block k hkl (fun e => hne (by rw [← e]; rw [hb] at hk; exact hk.symm))
  have apart : ∀ {b : Nat}, b < w.heap.size → v.ownBlock ≠ some b → v'.ownBlock ≠ some b := fun hb hne => by
    rcases hl with e | e
    · rw [e]; exact hne
    · rw [e]; intro h2; injection h2 with h2; omega
  have hyl := own_at hy hgy
  refine ⟨?_, fun i hi => ?_, fun i hi => ?_, fun i j hi hj e => ?_, fun i hi => ?_⟩
  · have em : (List.range (n + 1)).map (fun i => if i = n then y else V i) = (List.range n).map V ++ [y] := by
      rw [List.range_succ, List.map_append, List.map_cons, List.map_nil, if_pos rfl]
      congr 1
      exact List.map_congr_left (fun i hi => if_neg (by have : i < n := by simpa using hi
                                                        omega))
    rw [em]
    exact hown
  · by_cases e : i = n
    · rw [if_pos e, if_pos e]; exact keep hy hgy hvy
    · rw [if_neg e, if_neg e]; exact keep (h.row i (by omega)) (h.blk i (by omega)) (h.ap i (by omega))
  · by_cases e : i = n
    · rw [if_pos e, if_pos e]; exact hgy
    · rw [if_neg e, if_neg e]; exact h.blk i (by omega)
  · by_cases e1 : i = n <;> by_cases e2 : j = n
    · omega
    · rw [if_pos e1, if_neg e2] at e; exact absurd e.symm (hne j (by omega))
    · rw [if_neg e1, if_pos e2] at e; exact absurd e (hne i (by omega))
    · rw [if_neg e1, if_neg e2] at e; exact h.inj i j (by omega) (by omega) e
  · by_cases e : i = n
    · rw [if_pos e]; exact apart hyl.2 hvy
    · rw [if_neg e]; exact apart (h.gl (by omega)).2 (h.ap i (by omega))
/-- The last page grows: its row went to y, in the world u; its place is stored. -/
theorem PgW.grow {g cap : Nat} {r : List Int} {y : Value} {gy : Nat} (h : PgW w B (.slice (some ⟨g, 0, none⟩) (n + 1) cap) (n + 1) V X G) (hy : Own fInt u B 2 y r) (hgy : y.ownBlock = some gy)
    (hg : w.grownBy u (V n).ownBlock) (hl : y.ownBlock = (V n).ownBlock ∨ y.ownBlock = some w.heap.size) :
    PgW (u.setCell ⟨g, n, none⟩ y) B (.slice (some ⟨g, 0, none⟩) (n + 1) cap) (n + 1) (fun i => if i = n then y else V i) (fun i => if i = n then r else X i) (fun i => if i = n then gy else G i) := by
  obtain ⟨g', cap', hv, hgB, hgl⟩ := h.addr (by omega)
  injection hv with hv1 _ hv2
  injection hv1 with hv1
  injection hv1 with hv1
  subst hv1 hv2
  have hbn := h.blk n (by omega)
  have hgn : g ≠ G n := fun e => h.ap n (by omega) (by rw [← e]; rfl)
  have hgu : u.heap[g]? = w.heap[g]? := hg.block g hgl (by rw [hbn]; intro e; injection e with e; exact hgn e)
  have hgGi : ∀ i, i < n + 1 → g ≠ G i := fun i hi e => h.ap i hi (by rw [← e]; rfl)
  have hgy' : gy = G n ∨ gy = w.heap.size := by
    rcases hl with e | e
    · rw [hgy, hbn] at e; injection e with e; exact .inl e
    · rw [hgy] at e; injection e with e; exact .inr e
  have hne : g ≠ gy := by
    rcases hgy' with e | e
    · rw [e]; exact hgn
    · omega
  have hset : ∀ k, k < u.heap.size → k ≠ g → (u.setCell ⟨g, n, none⟩ y).heap[k]? = u.heap[k]? := fun k hkl hk => ((Only.refl [g] u).set n y).block k hkl (by rw [List.mem_singleton]; exact hk)
  refine ⟨?_, fun i hi => ?_, fun i hi => ?_, fun i j hi hj e => ?_, fun i hi => ?_⟩
  · have hu : u.ownsRow B 50 1 (.slice (some ⟨g, 0, none⟩) (n + 1) cap) (n + 1) ((List.range (n + 1)).map V) := by
      obtain ⟨h1, h2⟩ := h.own
      refine ⟨h1, ?_⟩
      rcases h2 with ⟨hv, _⟩ | ⟨g2, c2, cur, hv, q1, q2, q3⟩
      · cases hv
      · injection hv with e1 _ e2
        injection e1 with e1
        injection e1 with e1
        subst e1 e2
        exact .inr ⟨g, cap, cur, rfl, q1, by rw [hgu]; exact q2, q3⟩
    have h2 := (hu.stored n y).1
    have em : ((List.range (n + 1)).map V).set n y = (List.range (n + 1)).map (fun i => if i = n then y else V i) := by
      refine List.ext_getElem (by simp) (fun i h1 h2 => ?_)
      rw [List.getElem_set]
      simp only [List.length_map, List.length_range] at h2
      by_cases e : n = i
      · subst e; simp
      · rw [if_neg e]; simp [Ne.symm e]
    rw [em] at h2
    exact h2
  · by_cases e : i = n
    · rw [if_pos e, if_pos e]
      exact own_stays hy (fun k hk hkl => hset k hkl (fun e2 => by rw [hgy] at hk; injection hk with hk; exact hne (by rw [← e2, ← hk])))
    · rw [if_neg e, if_neg e]
      have hGi : G i ≠ G n := fun e2 => e (h.inj i n (by omega) (by omega) e2)
      have h1 : Own fInt u B 2 (V i) (X i) := own_stays (h.row i (by omega)) (fun k hk hkl => hg.block k hkl (by
        rw [h.blk i (by omega)] at hk; injection hk with hk
        rw [hbn, ← hk]; intro e2; injection e2 with e2; exact hGi e2))
      exact own_stays h1 (fun k hk hkl => hset k hkl (fun e2 => by
        rw [h.blk i (by omega)] at hk; injection hk with hk
        exact hgGi i (by omega) (by rw [← e2, ← hk])))
  · by_cases e : i = n
    · rw [if_pos e, if_pos e]; exact hgy
    · rw [if_neg e, if_neg e]; exact h.blk i (by omega)
  · have hlt : ∀ k, k < n → G k ≠ gy := fun k hk e => by
      rcases hgy' with e2 | e2
      · have := h.inj k n (by omega) (by omega) (e.trans e2); omega
      · have := (h.gl (i := k) (by omega)).2; omega
    by_cases e1 : i = n <;> by_cases e2 : j = n
    · omega
    · rw [if_pos e1, if_neg e2] at e; exact absurd e.symm (hlt j (by omega))
    · rw [if_neg e1, if_pos e2] at e; exact absurd e (hlt i (by omega))
    · rw [if_neg e1, if_neg e2] at e; exact h.inj i j (by omega) (by omega) e
  · show some g ≠ _
    by_cases e : i = n
    · rw [if_pos e]; intro e3; injection e3 with e3; exact hne e3
    · rw [if_neg e]; intro e3; injection e3 with e3; exact hgGi i (by omega) e3
/-- It reads as a slice of slices. -/
theorem PgW.sl {xss : List (List Int)} (h : PgW w B v n V X G) (hx : xss = (List.range n).map X) (hok : ∀ i, i < n → ∀ x ∈ X i, fInt.ok x) : ∃ fp, Sl fInt.cod.slice w v xss fp ∧ (∀ b ∈ fp, B ≤ b) ∧ fp.Nodup := by
  have hxl : xss.length = n := by rw [hx]; simp
  rcases Nat.eq_zero_or_pos n with h0 | h0
  · subst h0
    obtain ⟨A, cap, rfl⟩ := h.form
    have : xss = [] := List.eq_nil_of_length_eq_zero hxl
    subst this
    have hc : 0 ≤ cap ∧ cap ≤ maxLen := by
      rcases h.own.2 with ⟨hv, _⟩ | ⟨g, c, cur, hv, _, _, _, hcm, _⟩
      · injection hv with _ _ e; subst e; simp [maxLen]
      · injection hv with _ _ e; subst e; exact ⟨Nat.zero_le _, hcm⟩
    exact ⟨[], ⟨A, cap, rfl, hc.1, hc.2, .inl ⟨rfl, rfl⟩⟩, by simp, by simp⟩
  · obtain ⟨g, cap, rfl, hgB, hgl⟩ := h.addr h0
    have hex : ∀ i, ∃ f : List Nat, i < n → Sl fInt.cod w (V i) (X i) f ∧ (∀ b ∈ f, B ≤ b) ∧ f.Nodup ∧ ∀ b ∈ f, (V i).ownBlock = some b := fun i => by
      by_cases hi : i < n
      · obtain ⟨f, hf⟩ := own_fp (h.row i hi) (hok i hi)
        exact ⟨f, fun _ => hf⟩
      · exact ⟨[], fun h => absurd h hi⟩
    obtain ⟨F, hF⟩ := Classical.axiomOfChoice hex
    have hFG : ∀ i, i < n → ∀ b ∈ F i, b = G i := fun i hi b hb => by
      have h1 := (hF i hi).2.2.2 b hb
      rw [h.blk i hi] at h1
      injection h1 with h1; exact h1.symm
    obtain ⟨hcn, hcm⟩ : n ≤ cap ∧ cap ≤ maxLen := by
      rcases h.own.2 with ⟨hv, _⟩ | ⟨g', c, cur, hv, _, _, hnc, hcm, _⟩
      · cases hv
      · injection hv with _ _ e; subst e; exact ⟨hnc, hcm⟩
    have hr : NRows fInt.cod w g 0 n V X F := ⟨fun i hi => by
      rw [Nat.zero_add, h.own.cellAt i (by omega), List.getElem?_map, List.getElem?_range hi]; rfl, fun i _ => by rw [Nat.zero_add]; exact h.own.frozenAt i, fun i hi => (hF i hi).1⟩
    refine ⟨g :: (List.range n).flatMap F, hr.sl hgl hxl (fun i hi => by rw [List.getElem_of_eq hx]; simp) hcn hcm, ?_, ?_⟩
    · intro b hb
      rcases List.mem_cons.1 hb with rfl | hb
      · exact hgB
      · obtain ⟨i, hi, hb⟩ := List.mem_flatMap.1 hb
        exact (hF i (by simpa using hi)).2.1 b hb
    · rw [List.nodup_cons]
      constructor
      · intro hb
        obtain ⟨i, hi, hb⟩ := List.mem_flatMap.1 hb
        have hi : i < n := by simpa using hi
        have := hFG i hi g hb
        exact h.ap i hi (by rw [← this]; rfl)
      · unfold List.Nodup
        rw [List.pairwise_flatMap]
        refine ⟨fun i hi => (hF i (by simpa using hi)).2.2.1, ?_⟩
        refine (List.pairwise_lt_range).imp_of_mem ?_
        intro i j hi hj hij b hb c hc e
        have hi : i < n := by simpa using hi
        have hj : j < n := by simpa using hj
        have e1 := hFG i hi b hb
        have e2 := hFG j hj c hc
        have := h.inj i j hi hj (by rw [← e1, ← e2, e])
        omega
end
end Go.Proofs.Ytjfaafoldllppaa
