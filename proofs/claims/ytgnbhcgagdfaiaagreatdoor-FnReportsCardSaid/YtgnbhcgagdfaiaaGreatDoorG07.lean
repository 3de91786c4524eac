/- Parts of the proof: Jr, Pg, Pgi, Ss, Sv, Cl, TBool, Jo, Fk, Ig, Jp. -/
import Derived.Test.YtgnbhcgagdfaiaaGreatDoorG04
import Derived.Test.YtgnbhcgagdfaiaaGreatDoorG06
import Derived.Test.YtgnbhcgagdfaiaaGreatDoorG03
import Derived.Test.YtgnbhcgagdfaiaaGreatDoorG01
import Derived.Test.YtgnbhcgagdfaiaaGreatDoorG02
import Derived.RangeFuncBox
import Derived.RangeFuncLeaves
import Derived.Shelf.Abstract
import Derived.OwnWalkIn
import Derived.TacticsInMore
import Derived.LoopNIn
import Derived.LoopIn
import Derived.Maps.AppendAt
import Derived.Sort.OwnSorted
import Derived.Deep.AppendLies
import Derived.Lib.AppendZerosOnto
import Derived.Lib.Overlaps
import Derived.Laws.Externs
import Derived.Deep.RegionHeld
namespace Go.Proofs.YtgnbhcgagdfaiaaGreatDoor
open Go.RowKit
set_option linter.unusedVariables false

def adjR (xs : List DRegion) (a b : Nat) : Bool := decide (a < xs.length) && decide (b < xs.length) && decide ((xs.getD a rg0).level = (xs.getD b rg0).level) && memS (xs.getD b rg0).id (xs.getD a rg0).near
theorem regs_head {xs : List DRegion} (h : regionsB xs = true) {i : Nat} (hi : i < xs.length) : rgHead xs i = true := by
  unfold regionsB at h
  rw [Bool.and_eq_true] at h
  have h1 := allIdx_true.1 h.1 i hi
  rw [rgOk_at hi, Bool.and_eq_true] at h1
  exact h1.1
theorem regs_near {xs : List DRegion} (h : regionsB xs = true) {i : Nat} (hi : i < xs.length) {s : ByteArray} (hs : s ∈ xs[i].near) : isNearB xs s xs[i].id = true := by
  unfold regionsB at h
  rw [Bool.and_eq_true] at h
  have h1 := allIdx_true.1 h.1 i hi
  rw [rgOk_at hi, Bool.and_eq_true] at h1
  obtain ⟨k, hk, rfl⟩ := List.getElem_of_mem hs
  have h2 := allIdx_true.1 h1.2 k hk
  unfold nrOk at h2
  rw [Bool.and_eq_true] at h2
  have h3 := h2.2
  rw [getD_of_lt hk] at h3
  exact h3
theorem regs_len {xs : List DRegion} (h : regionsB xs = true) : xs.length ≤ 8 := by
  unfold regionsB at h
  rw [Bool.and_eq_true] at h
  exact of_decide_eq_true h.2
theorem regs_rise {xs : List DRegion} (h : regionsB xs = true) {i j : Nat} (hi : i < xs.length) (hj : j < i) : ltS (xs[j]'(by omega)).id xs[i].id = true := by
  have h1 := heads_rise i (fun j hj => regs_head h (by omega)) hi j hj
  rw [getD_of_lt hi, getD_of_lt (show j < xs.length by omega)] at h1
  exact h1
theorem regs_id {xs : List DRegion} (h : regionsB xs = true) {i j : Nat} (hi : i < xs.length) (hj : j < xs.length) (e : xs[i].id = xs[j].id) : i = j := by
  rcases Nat.lt_trichotomy i j with h1 | h1 | h1
  · have h2 := regs_rise h hj h1
    rw [e, ltS_irrefl] at h2; cases h2
  · exact h1
  · have h2 := regs_rise h hi h1
    rw [e, ltS_irrefl] at h2; cases h2
theorem regs_level {xs : List DRegion} (h : regionsB xs = true) {i : Nat} (hi : i < xs.length) : 1 ≤ xs[i].level ∧ xs[i].level ≤ 5 := by
  have h1 := regs_head h hi
  unfold rgHead at h1
  simp only [Bool.and_eq_true, getD_of_lt hi] at h1
  exact inB_true.1 h1.1.2
theorem regs_name {xs : List DRegion} (h : regionsB xs = true) {i : Nat} (hi : i < xs.length) : nameB xs[i].id = true := by
  have h1 := regs_head h hi
  unfold rgHead at h1
  simp only [Bool.and_eq_true, getD_of_lt hi] at h1
  exact h1.1.1
/-- A name that is near is that of a region, and of one alone. -/
theorem find_near {xs : List DRegion} (h : regionsB xs = true) {i : Nat} (hi : i < xs.length) {s : ByteArray} (hs : s ∈ xs[i].near) {r : Int} (hf : FindR xs s r) : ∃ k : Nat, ∃ hk : k < xs.length, r = k ∧ xs[k].id = s := by
  have hn := regs_near h hi hs
  rcases hf with ⟨_, h0⟩ | ⟨k, rfl, hk, he, _⟩
  · rw [isNearB_none h0] at hn; cases hn
  · exact ⟨k, hk, rfl, he⟩
theorem near_back {xs : List DRegion} (h : regionsB xs = true) {i j : Nat} (hi : i < xs.length) (hj : j < xs.length) (hs : xs[j].id ∈ xs[i].near) : xs[i].id ∈ xs[j].near := by
  have hn := regs_near h hi hs
  rw [isNearB_at hj rfl (fun m hm e => by have := regs_id h (by omega) hj e; omega)] at hn
  exact memS_true.1 hn
theorem adjR_graph {xs : List DRegion} (h : regionsB xs = true) : Graph (adjR xs) xs.length where
  sym := fun x y hxy => by
    unfold adjR at *
    simp only [Bool.and_eq_true, decide_eq_true_eq] at *
    obtain ⟨⟨⟨hx, hy⟩, hl⟩, hn⟩ := hxy
    refine ⟨⟨⟨hy, hx⟩, hl.symm⟩, ?_⟩
    rw [memS_true] at *
    rw [getD_of_lt hx, getD_of_lt hy] at *
    exact near_back h hx hy hn
  lt := fun x y hxy => by
    unfold adjR at hxy
    simp only [Bool.and_eq_true, decide_eq_true_eq] at hxy
    exact hxy.1.1
theorem adjR_at {xs : List DRegion} {a b : Nat} (ha : a < xs.length) (hb : b < xs.length) : adjR xs a b = (decide (xs[a].level = xs[b].level) && memS xs[b].id xs[a].near) := by
  unfold adjR
  rw [decide_eq_true ha, decide_eq_true hb, getD_of_lt ha, getD_of_lt hb]; rfl
/-- All that is reached has the same level. -/
theorem rch_level {xs : List DRegion} {a b : Nat} (h : Rch (adjR xs) a b) : (xs.getD b rg0).level = (xs.getD a rg0).level :=
  h (fun x => (xs.getD x rg0).level = (xs.getD a rg0).level) (fun x y hx hxy => by
    unfold adjR at hxy
    simp only [Bool.and_eq_true, decide_eq_true_eq] at hxy
    exact hxy.1.2.symm.trans hx) rfl
end Go.Proofs.YtgnbhcgagdfaiaaGreatDoor

namespace Go.Proofs.YtgnbhcgagdfaiaaGreatDoor
open Go.RowKit
set_option linter.unusedVariables false

/-- The j-th of the pieces of m elements. -/
def pgAt {α : Type} (m : Nat) (xs : List α) (j : Nat) : List α := (xs.drop (j * m)).take m
def pgN (m k : Nat) : Nat := (k + m - 1) / m
def pgAll (m : Nat) (hd : ByteArray) (xs : List ByteArray) : List (List ByteArray) := (List.range (pgN m xs.length)).map fun j => hd :: pgAt m xs j
theorem pgN_zero {m : Nat} (hm : 0 < m) : pgN m 0 = 0 := by unfold pgN; exact Nat.div_eq_of_lt (by omega)
theorem pgN_full {m k q : Nat} (hm : 0 < m) (hk : k = q * m) : pgN m k = q ∧ pgN m (k + 1) = q + 1 := by
  subst hk
  unfold pgN
  constructor
  · rw [show q * m + m - 1 = (m - 1) + m * q by rw [Nat.mul_comm]; omega, Nat.add_mul_div_left _ _ hm, Nat.div_eq_of_lt (by omega)]; omega
  · rw [show q * m + 1 + m - 1 = 0 + m * (q + 1) by rw [Nat.mul_succ, Nat.mul_comm]; omega, Nat.add_mul_div_left _ _ hm]; simp
theorem pgN_part {m k q r : Nat} (hm : 0 < m) (hk : k = q * m + r) (hr0 : 0 < r) (hr : r ≤ m) : pgN m k = q + 1 := by
  subst hk
  unfold pgN
  rw [show q * m + r + m - 1 = (r - 1) + m * (q + 1) by rw [Nat.mul_succ, Nat.mul_comm]; omega, Nat.add_mul_div_left _ _ hm, Nat.div_eq_of_lt (by omega)]; omega
theorem pgAt_take_old {α : Type} {m k k' j : Nat} {xs : List α} (h1 : (j + 1) * m ≤ k) (h2 : (j + 1) * m ≤ k') : pgAt m (xs.take k) j = pgAt m (xs.take k') j := by
  unfold pgAt
  rw [Nat.succ_mul] at h1 h2
  rw [List.drop_take, List.drop_take, List.take_take, List.take_take, Nat.min_eq_left (by omega), Nat.min_eq_left (by omega)]
theorem pgAt_last {α : Type} {m k j r : Nat} {xs : List α} (hk : k = j * m + r) (hr : r ≤ m) (hl : k ≤ xs.length) : pgAt m (xs.take k) j = (xs.drop (j * m)).take r := by
  unfold pgAt
  rw [List.drop_take, List.take_take, hk, Nat.add_sub_cancel_left, Nat.min_eq_right hr]
theorem pgAt_len {α : Type} {m k j r : Nat} {xs : List α} (hk : k = j * m + r) (hr : r ≤ m) (hl : k ≤ xs.length) : (pgAt m (xs.take k) j).length = r := by
  rw [pgAt_last hk hr hl, List.length_take, List.length_drop]; omega
theorem pgAt_snoc {α : Type} {m k j r : Nat} {xs : List α} (hk : k = j * m + r) (hr : r < m) (hl : k < xs.length) : pgAt m (xs.take (k + 1)) j = pgAt m (xs.take k) j ++ [xs[k]] := by
  rw [pgAt_last (r := r + 1) (by omega) (by omega) (by omega), pgAt_last (r := r) hk (by omega) (by omega), List.take_add_one, List.getElem?_drop, ← hk, List.getElem?_eq_getElem hl]; rfl
theorem pgAt_first {α : Type} {m k j : Nat} {xs : List α} (hk : k = j * m) (hm : 0 < m) (hl : k < xs.length) : pgAt m (xs.take (k + 1)) j = [xs[k]] := by
  rw [pgAt_snoc (r := 0) (by omega) hm hl]
  have h0 := pgAt_len (m := m) (k := k) (j := j) (r := 0) (xs := xs) (by omega) (by omega) (by omega)
  rw [List.eq_nil_of_length_eq_zero h0]; rfl

theorem own_stays {α : Type} {E : Flat α} {w w' : World} {B : Nat} {e : TypeId} {v : Value} {L : List α} (h : Own E w B e v L) (hk : ∀ k, v.ownBlock = some k → k < w.heap.size → w'.heap[k]? = w.heap[k]?) : Own E w' B e v L := by
  obtain ⟨h1, h2⟩ := h
  refine ⟨h1, ?_⟩
  rcases h2 with h2 | ⟨g, cap, cur, hv, hg, hh, r⟩
  · exact .inl h2
  · have hgl : g < w.heap.size := by
      rcases Nat.lt_or_ge g w.heap.size with hlt | hge
      · exact hlt
      · rw [Array.getElem?_eq_none hge] at hh; cases hh
    exact .inr ⟨g, cap, cur, hv, hg, by rw [hk g (by rw [hv]; rfl) hgl]; exact hh, r⟩
theorem own_at {α : Type} {E : Flat α} {w : World} {B : Nat} {e : TypeId} {v : Value} {L : List α} (h : Own E w B e v L) {g : Nat} (hg : v.ownBlock = some g) : B ≤ g ∧ g < w.heap.size := by
  rcases h.2 with ⟨hv, _⟩ | ⟨g', cap, cur, hv, hg', hh, _⟩
  · rw [hv] at hg; cases hg
  · rw [hv] at hg
    injection hg with hg
    have hg : g' = g := hg
    subst hg
    refine ⟨hg', ?_⟩
    rcases Nat.lt_or_ge g' w.heap.size with hlt | hge
    · exact hlt
    · rw [Array.getElem?_eq_none hge] at hh; cases hh
theorem own_fp {α : Type} {E : Flat α} {w : World} {base : Nat} {e : TypeId} {v : Value} {L : List α} (h : Own E w base e v L) (hok : ∀ x ∈ L, E.ok x) :
    ∃ fp, Sl E.cod w v L fp ∧ (∀ b ∈ fp, base ≤ b) ∧ fp.Nodup ∧ ∀ b ∈ fp, v.ownBlock = some b := by
  obtain ⟨fp, h1, h2, h3⟩ := Sl.of_own (n := L.length) rfl h hok
  rcases Nat.eq_zero_or_pos L.length with h0 | h0
  · obtain rfl := List.eq_nil_of_length_eq_zero h0
    refine ⟨[], ?_, by simp, by simp, by simp⟩
    obtain ⟨A, cap, hv, hl, hc, _⟩ := h1
    exact ⟨A, cap, hv, hl, hc, .inl ⟨rfl, rfl⟩⟩
  · refine ⟨fp, h1, h2, h3, fun b hb => ?_⟩
    obtain ⟨A, cap, rfl, _, _⟩ := h1.form
    obtain ⟨b', off, hA, hfp, _⟩ := h1.cells h0
    subst hA
    rw [hfp] at hb
    rw [List.mem_singleton] at hb
    subst hb
    rfl
structure PgV (w : World) (B : Nat) (v : Value) (n : Nat) (V : Nat → Value) (X : Nat → List ByteArray) (G : Nat → Nat) : Prop where
  own : w.ownsRow B 24 1 v n ((List.range n).map V)
  row : ∀ i, i < n → Own fStr w B 9 (V i) (X i)
  blk : ∀ i, i < n → (V i).ownBlock = some (G i)
  inj : ∀ i j, i < n → j < n → G i = G j → i = j
  ap : ∀ i, i < n → v.ownBlock ≠ some (G i)
section
variable {w w' u : World} {B n : Nat} {v v' : Value} {V : Nat → Value} {X : Nat → List ByteArray} {G : Nat → Nat}
theorem PgV.gl (h : PgV w B v n V X G) {i : Nat} (hi : i < n) : B ≤ G i ∧ G i < w.heap.size := own_at (h.row i hi) (h.blk i hi)
theorem PgV.below (h : PgV w B v n V X G) (hb : Below w.heap.size w w') : PgV w' B v n V X G :=
  ⟨ownsRow_belowR h.own hb, fun i hi => (h.row i hi).below hb, h.blk, h.inj, h.ap⟩
theorem PgV.nil {c : Nat} (hw : w.ownsRow B 24 1 v 0 []) : PgV w B v 0 (fun _ => undef) (fun _ => []) (fun _ => 0) :=
  ⟨hw, fun i hi => absurd hi (Nat.not_lt_zero i), fun i hi => absurd hi (Nat.not_lt_zero i), fun i j hi => absurd hi (Nat.not_lt_zero i), fun i hi => absurd hi (Nat.not_lt_zero i)⟩
theorem PgV.congr {X' : Nat → List ByteArray} (h : PgV w B v n V X G) (hx : ∀ i, i < n → X i = X' i) : PgV w B v n V X' G :=
  ⟨h.own, fun i hi => by rw [← hx i hi]; exact h.row i hi, h.blk, h.inj, h.ap⟩
theorem PgV.form (h : PgV w B v n V X G) : ∃ A cap, v = .slice A n cap := by
  rcases h.own.2 with ⟨hv, h0⟩ | ⟨g, cap, cur, hv, _⟩
  · exact ⟨none, 0, by rw [hv, h0]⟩
  · exact ⟨_, cap, hv⟩
theorem PgV.addr (h : PgV w B v n V X G) (h0 : 0 < n) : ∃ g cap, v = .slice (some ⟨g, 0, none⟩) n cap ∧ B ≤ g ∧ g < w.heap.size := by
  rcases h.own.2 with ⟨hv, h1⟩ | ⟨g, cap, cur, hv, hg, hh, _⟩
  · omega
  · refine ⟨g, cap, hv, hg, ?_⟩
    rcases Nat.lt_or_ge g w.heap.size with hlt | hge
    · exact hlt
    · rw [Array.getElem?_eq_none hge] at hh; cases hh
theorem PgV.last (h : PgV w B v n V X G) {i : Nat} (hi : i < n) (h0 : 0 < (X i).length) : ∃ c, V i = .slice (some ⟨G i, 0, none⟩) (X i).length c := by
  have hb := h.blk i hi
  rcases (h.row i hi).2 with ⟨hv, h1⟩ | ⟨g, cap, cur, hv, _⟩
  · omega
  · rw [hv] at hb
    injection hb with hb
    have hb : g = G i := hb
    subst hb
    exact ⟨cap, hv⟩
/-- One page more. -/
theorem PgV.push {r : List ByteArray} {y : Value} {gy : Nat} (h : PgV w B v n V X G) (hy : Own fStr w B 9 y r) (hgy : y.ownBlock = some gy) (hne : ∀ i, i < n → G i ≠ gy) (hvy : v.ownBlock ≠ some gy)
    (hown : u.ownsRow B 24 1 v' (n + 1) ((List.range n).map V ++ [y])) (hg : w.grownBy u v.ownBlock) (hl : v'.ownBlock = v.ownBlock ∨ v'.ownBlock = some w.heap.size) :
    PgV u B v' (n + 1) (fun i => if i = n then y else V i) (fun i => if i = n then r else X i) (fun i => if i = n then gy else G i) := by
  have keep : ∀ {z : Value} {q : List ByteArray} {b : Nat}, Own fStr w B 9 z q → z.ownBlock = some b → v.ownBlock ≠ some b → Own fStr u B 9 z q := fun hz hb hne => own_stays hz fun k hk hkl => hg.block k hkl (fun e => hne (by rw [← e]; rw [hb] at hk; exact hk.symm))
  have apart : ∀ {b : Nat}, b < w.heap.size → v.ownBlock ≠ some b → v'.ownBlock ≠ some b := fun hb hne => by
    rcases hl with e | e
    · rw [e]; exact hne
    · rw [e]; intro h2; injection h2 with h2; omega
  have hyl := own_at hy hgy
  refine ⟨?_, fun i hi => ?_, fun i hi => ?_, fun i j hi hj e => ?_, fun i hi => ?_⟩
  · have em : (List.range (n + 1)).map (fun i => if i = n then y else V i) = (List.range n).map V ++ [y] := by
      rw [List.range_succ, List.map_append, List.map_cons, List.map_nil, if_pos rfl]
      congr 1
      exact List.map_congr_left (fun i hi => if_neg (by have : i < n := by simpa using hi
                                                        omega))
    rw [em]
    exact hown
  · by_cases e : i = n
    · rw [if_pos e, if_pos e]; exact keep hy hgy hvy
    · rw [if_neg e, if_neg e]; exact keep (h.row i (by omega)) (h.blk i (by omega)) (h.ap i (by omega))
  · by_cases e : i = n
    · rw [if_pos e, if_pos e]; exact hgy
    · rw [if_neg e, if_neg e]; exact h.blk i (by omega)
  · by_cases e1 : i = n <;> by_cases e2 : j = n
    · omega
    · rw [if_pos e1, if_neg e2] at e; exact absurd e.symm (hne j (by omega))
    · rw [if_neg e1, if_pos e2] at e; exact absurd e (hne i (by omega))
    · rw [if_neg e1, if_neg e2] at e; exact h.inj i j (by omega) (by omega) e
  · by_cases e : i = n
    · rw [if_pos e]; exact apart hyl.2 hvy
    · rw [if_neg e]; exact apart (h.gl (by omega)).2 (h.ap i (by omega))
/-- The last page grows: its row went to y, in the world u; its place is stored. -/
theorem PgV.grow {g cap : Nat} {r : List ByteArray} {y : Value} {gy : Nat} (h : PgV w B (.slice (some ⟨g, 0, none⟩) (n + 1) cap) (n + 1) V X G) (hy : Own fStr u B 9 y r) (hgy : y.ownBlock = some gy)
    (hg : w.grownBy u (V n).ownBlock) (hl : y.ownBlock = (V n).ownBlock ∨ y.ownBlock = some w.heap.size) :
    PgV (u.setCell ⟨g, n, none⟩ y) B (.slice (some ⟨g, 0, none⟩) (n + 1) cap) (n + 1) (fun i => if i = n then y else V i) (fun i => if i = n then r else X i) (fun i => if i = n then gy else G i) := by
  obtain ⟨g', cap', hv, hgB, hgl⟩ := h.addr (by omega)
  injection hv with hv1 _ hv2
  injection hv1 with hv1
  injection hv1 with hv1
  subst hv1 hv2
  have hbn := h.blk n (by omega)
  have hgn : g ≠ G n := fun e => h.ap n (by omega) (by rw [← e]; rfl)
  have hgu : u.heap[g]? = w.heap[g]? := hg.block g hgl (by rw [hbn]; intro e; injection e with e; exact hgn e)
  have hgGi : ∀ i, i < n + 1 → g ≠ G i := fun i hi e => h.ap i hi (by rw [← e]; rfl)
  have hgy' : gy = G n ∨ gy = w.heap.size := by
    rcases hl with e | e
    · rw [hgy, hbn] at e; injection e with e; exact .inl e
    · rw [hgy] at e; injection e with e; exact .inr e
  have hne : g ≠ gy := by
    rcases hgy' with e | e
    · rw [e]; exact hgn
    · omega
  have hset : ∀ k, k < u.heap.size → k ≠ g → (u.setCell ⟨g, n, none⟩ y).heap[k]? = u.heap[k]? := fun k hkl hk => ((Only.refl [g] u).set n y).block k hkl (by rw [List.mem_singleton]; exact hk)
  refine ⟨?_, fun i hi => ?_, fun i hi => ?_, fun i j hi hj e => ?_, fun i hi => ?_⟩
  · have hu : u.ownsRow B 24 1 (.slice (some ⟨g, 0, none⟩) (n + 1) cap) (n + 1) ((List.range (n + 1)).map V) := by
      obtain ⟨h1, h2⟩ := h.own
      refine ⟨h1, ?_⟩
      rcases h2 with ⟨hv, _⟩ | ⟨g2, c2, cur, hv, q1, q2, q3⟩
      · cases hv
      · injection hv with e1 _ e2
        injection e1 with e1
        injection e1 with e1
        subst e1 e2
        exact .inr ⟨g, cap, cur, rfl, q1, by rw [hgu]; exact q2, q3⟩
    have h2 := (hu.stored n y).1
    have em : ((List.range (n + 1)).map V).set n y = (List.range (n + 1)).map (fun i => if i = n then y else V i) := by
      refine List.ext_getElem (by simp) (fun i h1 h2 => ?_)
      rw [List.getElem_set]
      simp only [List.length_map, List.length_range] at h2
      by_cases e : n = i
      · subst e; simp
      · rw [if_neg e]; simp [Ne.symm e]
    rw [em] at h2
    exact h2
  · by_cases e : i = n
    · rw [if_pos e, if_pos e]
      exact own_stays hy (fun k hk hkl => hset k hkl (fun e2 => by rw [hgy] at hk; injection hk with hk; exact hne (by rw [← e2, ← hk])))
    · rw [if_neg e, if_neg e]
      have hGi : G i ≠ G n := fun e2 => e (h.inj i n (by omega) (by omega) e2)
      have h1 : Own fStr u B 9 (V i) (X i) := own_stays (h.row i (by omega)) (fun k hk hkl => hg.block k hkl (by
        rw [h.blk i (by omega)] at hk; injection hk with hk
        rw [hbn, ← hk]; intro e2; injection e2 with e2; exact hGi e2))
      exact own_stays h1 (fun k hk hkl => hset k hkl (fun e2 => by
        rw [h.blk i (by omega)] at hk; injection hk with hk
        exact hgGi i (by omega) (by rw [← e2, ← hk])))
  · by_cases e : i = n
    · rw [if_pos e, if_pos e]; exact hgy
    · rw [if_neg e, if_neg e]; exact h.blk i (by omega)
  · have hlt : ∀ k, k < n → G k ≠ gy := fun k hk e => by
      rcases hgy' with e2 | e2
      · have := h.inj k n (by omega) (by omega) (e.trans e2); omega
      · have := (h.gl (i := k) (by omega)).2; omega
    by_cases e1 : i = n <;> by_cases e2 : j = n
    · omega
    · rw [if_pos e1, if_neg e2] at e; exact absurd e.symm (hlt j (by omega))
    · rw [if_neg e1, if_pos e2] at e; exact absurd e (hlt i (by omega))
    · rw [if_neg e1, if_neg e2] at e; exact h.inj i j (by omega) (by omega) e
  · show some g ≠ _
    by_cases e : i = n
    · rw [if_pos e]; intro e3; injection e3 with e3; exact hne e3
    · rw [if_neg e]; intro e3; injection e3 with e3; exact hgGi i (by omega) e3
/-- It reads as a slice of slices. -/
theorem PgV.sl {xss : List (List ByteArray)} (h : PgV w B v n V X G) (hx : xss = (List.range n).map X) (hok : ∀ i, i < n → ∀ x ∈ X i, fStr.ok x) : ∃ fp, Sl fStr.cod.slice w v xss fp ∧ (∀ b ∈ fp, B ≤ b) ∧ fp.Nodup := by
  have hxl : xss.length = n := by rw [hx]; simp
  rcases Nat.eq_zero_or_pos n with h0 | h0
  · subst h0
    obtain ⟨A, cap, rfl⟩ := h.form
    have : xss = [] := List.eq_nil_of_length_eq_zero hxl
    subst this
    have hc : 0 ≤ cap ∧ cap ≤ maxLen := by
      rcases h.own.2 with ⟨hv, _⟩ | ⟨g, c, cur, hv, _, _, _, hcm, _⟩
      · injection hv with _ _ e; subst e; simp [maxLen]
      · injection hv with _ _ e; subst e; exact ⟨Nat.zero_le _, hcm⟩
    exact ⟨[], ⟨A, cap, rfl, hc.1, hc.2, .inl ⟨rfl, rfl⟩⟩, by simp, by simp⟩
  · obtain ⟨g, cap, rfl, hgB, hgl⟩ := h.addr h0
    have hex : ∀ i, ∃ f : List Nat, i < n → Sl fStr.cod w (V i) (X i) f ∧ (∀ b ∈ f, B ≤ b) ∧ f.Nodup ∧ ∀ b ∈ f, (V i).ownBlock = some b := fun i => by
      by_cases hi : i < n
      · obtain ⟨f, hf⟩ := own_fp (h.row i hi) (hok i hi)
        exact ⟨f, fun _ => hf⟩
      · exact ⟨[], fun h => absurd h hi⟩
    obtain ⟨F, hF⟩ := Classical.axiomOfChoice hex
    have hFG : ∀ i, i < n → ∀ b ∈ F i, b = G i := fun i hi b hb => by
      have h1 := (hF i hi).2.2.2 b hb
      rw [h.blk i hi] at h1
      injection h1 with h1; exact h1.symm
    obtain ⟨hcn, hcm⟩ : n ≤ cap ∧ cap ≤ maxLen := by
      rcases h.own.2 with ⟨hv, _⟩ | ⟨g', c, cur, hv, _, _, hnc, hcm, _⟩
      · cases hv
      · injection hv with _ _ e; subst e; exact ⟨hnc, hcm⟩
    have hr : NRows fStr.cod w g 0 n V X F := ⟨fun i hi => by
      rw [Nat.zero_add, h.own.cellAt i (by omega), List.getElem?_map, List.getElem?_range hi]; rfl, fun i _ => by rw [Nat.zero_add]; exact h.own.frozenAt i, fun i hi => (hF i hi).1⟩
    refine ⟨g :: (List.range n).flatMap F, hr.sl hgl hxl (fun i hi => by rw [List.getElem_of_eq hx]; simp) hcn hcm, ?_, ?_⟩
    · intro b hb
      rcases List.mem_cons.1 hb with rfl | hb
      · exact hgB
      · obtain ⟨i, hi, hb⟩ := List.mem_flatMap.1 hb
        exact (hF i (by simpa using hi)).2.1 b hb
    · rw [List.nodup_cons]
      constructor
      · intro hb
        obtain ⟨i, hi, hb⟩ := List.mem_flatMap.1 hb
        have hi : i < n := by simpa using hi
        have := hFG i hi g hb
        exact h.ap i hi (by rw [← this]; rfl)
      · unfold List.Nodup
        rw [List.pairwise_flatMap]
        refine ⟨fun i hi => (hF i (by simpa using hi)).2.2.1, ?_⟩
        refine (List.pairwise_lt_range).imp_of_mem ?_
        intro i j hi hj hij b hb c hc e
        have hi : i < n := by simpa using hi
        have hj : j < n := by simpa using hj
        have e1 := hFG i hi b hb
        have e2 := hFG j hj c hc
        have := h.inj i j hi hj (by rw [← e1, ← e2, e])
        omega
end
end Go.Proofs.YtgnbhcgagdfaiaaGreatDoor

namespace Go.Proofs.YtgnbhcgagdfaiaaGreatDoor
open Go.RowKit
set_option linter.unusedVariables false

structure PgW (w : World) (B : Nat) (v : Value) (n : Nat) (V : Nat → Value) (X : Nat → List Int) (G : Nat → Nat) : Prop where
  own : w.ownsRow B 46 1 v n ((List.range n).map V)
  row : ∀ i, i < n → Own fInt w B 2 (V i) (X i)
  blk : ∀ i, i < n → (V i).ownBlock = some (G i)
  inj : ∀ i j, i < n → j < n → G i = G j → i = j
  ap : ∀ i, i < n → v.ownBlock ≠ some (G i)
section
variable {w w' u : World} {B n : Nat} {v v' : Value} {V : Nat → Value} {X : Nat → List Int} {G : Nat → Nat}
theorem PgW.gl (h : PgW w B v n V X G) {i : Nat} (hi : i < n) : B ≤ G i ∧ G i < w.heap.size := own_at (h.row i hi) (h.blk i hi)
theorem PgW.below (h : PgW w B v n V X G) (hb : Below w.heap.size w w') : PgW w' B v n V X G :=
  ⟨ownsRow_belowR h.own hb, fun i hi => (h.row i hi).below hb, h.blk, h.inj, h.ap⟩
theorem PgW.nil {c : Nat} (hw : w.ownsRow B 46 1 v 0 []) : PgW w B v 0 (fun _ => undef) (fun _ => []) (fun _ => 0) :=
  ⟨hw, fun i hi => absurd hi (Nat.not_lt_zero i), fun i hi => absurd hi (Nat.not_lt_zero i), fun i j hi => absurd hi (Nat.not_lt_zero i), fun i hi => absurd hi (Nat.not_lt_zero i)⟩
theorem PgW.congr {X' : Nat → List Int} (h : PgW w B v n V X G) (hx : ∀ i, i < n → X i = X' i) : PgW w B v n V X' G :=
  ⟨h.own, fun i hi => by rw [← hx i hi]; exact h.row i hi, h.blk, h.inj, h.ap⟩
theorem PgW.form (h : PgW w B v n V X G) : ∃ A cap, v = .slice A n cap := by
  rcases h.own.2 with ⟨hv, h0⟩ | ⟨g, cap, cur, hv, _⟩
  · exact ⟨none, 0, by rw [hv, h0]⟩
  · exact ⟨_, cap, hv⟩
theorem PgW.addr (h : PgW w B v n V X G) (h0 : 0 < n) : ∃ g cap, v = .slice (some ⟨g, 0, none⟩) n cap ∧ B ≤ g ∧ g < w.heap.size := by
  rcases h.own.2 with ⟨hv, h1⟩ | ⟨g, cap, cur, hv, hg, hh, _⟩
  · omega
  · refine ⟨g, cap, hv, hg, ?_⟩
    rcases Nat.lt_or_ge g w.heap.size with hlt | hge
    · exact hlt
    · rw [Array.getElem?_eq_none hge] at hh; cases hh
theorem PgW.last (h : PgW w B v n V X G) {i : Nat} (hi : i < n) (h0 : 0 < (X i).length) : ∃ c, V i = .slice (some ⟨G i, 0, none⟩) (X i).length c := by
  have hb := h.blk i hi
  rcases (h.row i hi).2 with ⟨hv, h1⟩ | ⟨g, cap, cur, hv, _⟩
  · omega
  · rw [hv] at hb
    injection hb with hb
    have hb : g = G i := hb
    subst hb
    exact ⟨cap, hv⟩
/-- One page more. -/
theorem PgW.push {r : List Int} {y : Value} {gy : Nat} (h : PgW w B v n V X G) (hy : Own fInt w B 2 y r) (hgy : y.ownBlock = some gy) (hne : ∀ i, i < n → G i ≠ gy) (hvy : v.ownBlock ≠ some gy)
    (hown : u.ownsRow B 46 1 v' (n + 1) ((List.range n).map V ++ [y])) (hg : w.grownBy u v.ownBlock) (hl : v'.ownBlock = v.ownBlock ∨ v'.ownBlock = some w.heap.size) :
    PgW u B v' (n + 1) (fun i => if i = n then y else V i) (fun i => if i = n then r else X i) (fun i => if i = n then gy else G i) := by
  have keep : ∀ {z : Value} {q : List Int} {b : Nat}, Own fInt w B 2 z q → z.ownBlock = some b → v.ownBlock ≠ some b → Own fInt u B 2 z q := fun hz hb hne => own_stays hz fun k hk hkl => hg.block k hkl (fun e => hne (by rw [← e]; rw [hb] at hk; exact hk.symm))
  have apart : ∀ {b : Nat}, b < w.heap.size → v.ownBlock ≠ some b → v'.ownBlock ≠ some b := fun hb hne => by
    rcases hl with e | e
    · rw [e]; exact hne
    · rw [e]; intro h2; injection h2 with h2; omega
  have hyl := own_at hy hgy
  refine ⟨?_, fun i hi => ?_, fun i hi => ?_, fun i j hi hj e => ?_, fun i hi => ?_⟩
  · have em : (List.range (n + 1)).map (fun i => if i = n then y else V i) = (List.range n).map V ++ [y] := by
      rw [List.range_succ, List.map_append, List.map_cons, List.map_nil, if_pos rfl]
      congr 1
      exact List.map_congr_left (fun i hi => if_neg (by have : i < n := by simpa using hi
                                                        omega))
    rw [em]
    exact hown
  · by_cases e : i = n
    · rw [if_pos e, if_pos e]; exact keep hy hgy hvy
    · rw [if_neg e, if_neg e]; exact keep (h.row i (by omega)) (h.blk i (by omega)) (h.ap i (by omega))
  · by_cases e : i = n
    · rw [if_pos e, if_pos e]; exact hgy
    · rw [if_neg e, if_neg e]; exact h.blk i (by omega)
  · by_cases e1 : i = n <;> by_cases e2 : j = n
    · omega
    · rw [if_pos e1, if_neg e2] at e; exact absurd e.symm (hne j (by omega))
    · rw [if_neg e1, if_pos e2] at e; exact absurd e (hne i (by omega))
    · rw [if_neg e1, if_neg e2] at e; exact h.inj i j (by omega) (by omega) e
  · by_cases e : i = n
    · rw [if_pos e]; exact apart hyl.2 hvy
    · rw [if_neg e]; exact apart (h.gl (by omega)).2 (h.ap i (by omega))
/-- The last page grows: its row went to y, in the world u; its place is stored. -/
theorem PgW.grow {g cap : Nat} {r : List Int} {y : Value} {gy : Nat} (h : PgW w B (.slice (some ⟨g, 0, none⟩) (n + 1) cap) (n + 1) V X G) (hy : Own fInt u B 2 y r) (hgy : y.ownBlock = some gy)
    (hg : w.grownBy u (V n).ownBlock) (hl : y.ownBlock = (V n).ownBlock ∨ y.ownBlock = some w.heap.size) :
    PgW (u.setCell ⟨g, n, none⟩ y) B (.slice (some ⟨g, 0, none⟩) (n + 1) cap) (n + 1) (fun i => if i = n then y else V i) (fun i => if i = n then r else X i) (fun i => if i = n then gy else G i) := by
  obtain ⟨g', cap', hv, hgB, hgl⟩ := h.addr (by omega)
  injection hv with hv1 _ hv2
  injection hv1 with hv1
  injection hv1 with hv1
  subst hv1 hv2
  have hbn := h.blk n (by omega)
  have hgn : g ≠ G n := fun e => h.ap n (by omega) (by rw [← e]; rfl)
  have hgu : u.heap[g]? = w.heap[g]? := hg.block g hgl (by rw [hbn]; intro e; injection e with e; exact hgn e)
  have hgGi : ∀ i, i < n + 1 → g ≠ G i := fun i hi e => h.ap i hi (by rw [← e]; rfl)
  have hgy' : gy = G n ∨ gy = w.heap.size := by
    rcases hl with e | e
    · rw [hgy, hbn] at e; injection e with e; exact .inl e
    · rw [hgy] at e; injection e with e; exact .inr e
  have hne : g ≠ gy := by
    rcases hgy' with e | e
    · rw [e]; exact hgn
    · omega
  have hset : ∀ k, k < u.heap.size → k ≠ g → (u.setCell ⟨g, n, none⟩ y).heap[k]? = u.heap[k]? := fun k hkl hk => ((Only.refl [g] u).set n y).block k hkl (by rw [List.mem_singleton]; exact hk)
  refine ⟨?_, fun i hi => ?_, fun i hi => ?_, fun i j hi hj e => ?_, fun i hi => ?_⟩
  · have hu : u.ownsRow B 46 1 (.slice (some ⟨g, 0, none⟩) (n + 1) cap) (n + 1) ((List.range (n + 1)).map V) := by
      obtain ⟨h1, h2⟩ := h.own
      refine ⟨h1, ?_⟩
      rcases h2 with ⟨hv, _⟩ | ⟨g2, c2, cur, hv, q1, q2, q3⟩
      · cases hv
      · injection hv with e1 _ e2
        injection e1 with e1
        injection e1 with e1
        subst e1 e2
        exact .inr ⟨g, cap, cur, rfl, q1, by rw [hgu]; exact q2, q3⟩
    have h2 := (hu.stored n y).1
    have em : ((List.range (n + 1)).map V).set n y = (List.range (n + 1)).map (fun i => if i = n then y else V i) := by
      refine List.ext_getElem (by simp) (fun i h1 h2 => ?_)
      rw [List.getElem_set]
      simp only [List.length_map, List.length_range] at h2
      by_cases e : n = i
      · subst e; simp
      · rw [if_neg e]; simp [Ne.symm e]
    rw [em] at h2
    exact h2
  · by_cases e : i = n
    · rw [if_pos e, if_pos e]
      exact own_stays hy (fun k hk hkl => hset k hkl (fun e2 => by rw [hgy] at hk; injection hk with hk; exact hne (by rw [← e2, ← hk])))
    · rw [if_neg e, if_neg e]
      have hGi : G i ≠ G n := fun e2 => e (h.inj i n (by omega) (by omega) e2)
      have h1 : Own fInt u B 2 (V i) (X i) := own_stays (h.row i (by omega)) (fun k hk hkl => hg.block k hkl (by
        rw [h.blk i (by omega)] at hk; injection hk with hk
        rw [hbn, ← hk]; intro e2; injection e2 with e2; exact hGi e2))
      exact own_stays h1 (fun k hk hkl => hset k hkl (fun e2 => by
        rw [h.blk i (by omega)] at hk; injection hk with hk
        exact hgGi i (by omega) (by rw [← e2, ← hk])))
  · by_cases e : i = n
    · rw [if_pos e, if_pos e]; exact hgy
    · rw [if_neg e, if_neg e]; exact h.blk i (by omega)
  · have hlt : ∀ k, k < n → G k ≠ gy := fun k hk e => by
      rcases hgy' with e2 | e2
      · have := h.inj k n (by omega) (by omega) (e.trans e2); omega
      · have := (h.gl (i := k) (by omega)).2; omega
    by_cases e1 : i = n <;> by_cases e2 : j = n
    · omega
    · rw [if_pos e1, if_neg e2] at e; exact absurd e.symm (hlt j (by omega))
    · rw [if_neg e1, if_pos e2] at e; exact absurd e (hlt i (by omega))
    · rw [if_neg e1, if_neg e2] at e; exact h.inj i j (by omega) (by omega) e
  · show some g ≠ _
    by_cases e : i = n
    · rw [if_pos e]; intro e3; injection e3 with e3; exact hne e3
    · rw [if_neg e]; intro e3; injection e3 with e3; exact hgGi i (by omega) e3
/-- It reads as a slice of slices. -/
theorem PgW.sl {xss : List (List Int)} (h : PgW w B v n V X G) (hx : xss = (List.range n).map X) (hok : ∀ i, i < n → ∀ x ∈ X i, fInt.ok x) : ∃ fp, Sl fInt.cod.slice w v xss fp ∧ (∀ b ∈ fp, B ≤ b) ∧ fp.Nodup := by
  have hxl : xss.length = n := by rw [hx]; simp
  rcases Nat.eq_zero_or_pos n with h0 | h0
  · subst h0
    obtain ⟨A, cap, rfl⟩ := h.form
    have : xss = [] := List.eq_nil_of_length_eq_zero hxl
    subst this
    have hc : 0 ≤ cap ∧ cap ≤ maxLen := by
      rcases h.own.2 with ⟨hv, _⟩ | ⟨g, c, cur, hv, _, _, _, hcm, _⟩
      · injection hv with _ _ e; subst e; simp [maxLen]
      · injection hv with _ _ e; subst e; exact ⟨Nat.zero_le _, hcm⟩
    exact ⟨[], ⟨A, cap, rfl, hc.1, hc.2, .inl ⟨rfl, rfl⟩⟩, by simp, by simp⟩
  · obtain ⟨g, cap, rfl, hgB, hgl⟩ := h.addr h0
    have hex : ∀ i, ∃ f : List Nat, i < n → Sl fInt.cod w (V i) (X i) f ∧ (∀ b ∈ f, B ≤ b) ∧ f.Nodup ∧ ∀ b ∈ f, (V i).ownBlock = some b := fun i => by
      by_cases hi : i < n
      · obtain ⟨f, hf⟩ := own_fp (h.row i hi) (hok i hi)
        exact ⟨f, fun _ => hf⟩
      · exact ⟨[], fun h => absurd h hi⟩
    obtain ⟨F, hF⟩ := Classical.axiomOfChoice hex
    have hFG : ∀ i, i < n → ∀ b ∈ F i, b = G i := fun i hi b hb => by
      have h1 := (hF i hi).2.2.2 b hb
      rw [h.blk i hi] at h1
      injection h1 with h1; exact h1.symm
    obtain ⟨hcn, hcm⟩ : n ≤ cap ∧ cap ≤ maxLen := by
      rcases h.own.2 with ⟨hv, _⟩ | ⟨g', c, cur, hv, _, _, hnc, hcm, _⟩
      · cases hv
      · injection hv with _ _ e; subst e; exact ⟨hnc, hcm⟩
    have hr : NRows fInt.cod w g 0 n V X F := ⟨fun i hi => by
      rw [Nat.zero_add, h.own.cellAt i (by omega), List.getElem?_map, List.getElem?_range hi]; rfl, fun i _ => by rw [Nat.zero_add]; exact h.own.frozenAt i, fun i hi => (hF i hi).1⟩
    refine ⟨g :: (List.range n).flatMap F, hr.sl hgl hxl (fun i hi => by rw [List.getElem_of_eq hx]; simp) hcn hcm, ?_, ?_⟩
    · intro b hb
      rcases List.mem_cons.1 hb with rfl | hb
      · exact hgB
      · obtain ⟨i, hi, hb⟩ := List.mem_flatMap.1 hb
        exact (hF i (by simpa using hi)).2.1 b hb
    · rw [List.nodup_cons]
      constructor
      · intro hb
        obtain ⟨i, hi, hb⟩ := List.mem_flatMap.1 hb
        have hi : i < n := by simpa using hi
        have := hFG i hi g hb
        exact h.ap i hi (by rw [← this]; rfl)
      · unfold List.Nodup
        rw [List.pairwise_flatMap]
        refine ⟨fun i hi => (hF i (by simpa using hi)).2.2.1, ?_⟩
        refine (List.pairwise_lt_range).imp_of_mem ?_
        intro i j hi hj hij b hb c hc e
        have hi : i < n := by simpa using hi
        have hj : j < n := by simpa using hj
        have e1 := hFG i hi b hb
        have e2 := hFG j hj c hc
        have := h.inj i j hi hj (by rw [← e1, ← e2, e])
        omega
end
end Go.Proofs.YtgnbhcgagdfaiaaGreatDoor

namespace Go.Proofs.YtgnbhcgagdfaiaaGreatDoor
open Go.RowKit
set_option linter.unusedVariables false

/-- The block g holds these values, from its first cell on; none is frozen. -/
structure BoxL (w : World) (g : Nat) (vs : List Value) : Prop where
  cell : ∀ j v, vs[j]? = some v → w.cell? ⟨g, j, none⟩ = some v
  frz : ∀ j, j < vs.length → w.frozen? ⟨g, j, none⟩ = false
  lt : g < w.heap.size
theorem BoxL.keep {w w' : World} {g : Nat} {vs : List Value} (h : BoxL w g vs) (hk : w'.heap[g]? = w.heap[g]?) (hs : w.heap.size ≤ w'.heap.size) : BoxL w' g vs :=
  ⟨fun j v hv => (World.cell?_of_block (a := ⟨g, j, none⟩) hk).trans (h.cell j v hv), fun j hj => (World.frozen?_of_block (a := ⟨g, j, none⟩) hk).trans (h.frz j hj), Nat.lt_of_lt_of_le h.lt hs⟩
theorem BoxL.below {w w' : World} {g : Nat} {vs : List Value} (h : BoxL w g vs) (hb : Below w.heap.size w w') : BoxL w' g vs := h.keep (hb.block g h.lt) hb.size
theorem BoxL.set {w : World} {g : Nat} {vs : List Value} (h : BoxL w g vs) (j : Nat) (v : Value) : BoxL (w.setCell ⟨g, j, none⟩ v) g (vs.set j v) := by
  have hsz : (w.setCell ⟨g, j, none⟩ v).heap.size = w.heap.size := World.size_setCell ..
  refine ⟨fun i u hu => ?_, fun i hi => ?_, by rw [hsz]; exact h.lt⟩
  · rw [List.getElem?_set] at hu
    by_cases e : j = i
    · subst e
      rw [if_pos rfl] at hu
      split at hu
      · rename_i hl
        injection hu with hu
        subst hu
        exact World.cell?_setCell_same _ _ _ (h.cell j _ (List.getElem?_eq_getElem hl))
      · cases hu
    · rw [if_neg e] at hu
      rw [World.cell?_setCell_other _ _ _ _ (by simp)]
      exact h.cell i u hu
  · rw [frozen?_setCell]
    exact h.frz i (by simpa using hi)
theorem BoxL.setOther {w : World} {g : Nat} {vs : List Value} (h : BoxL w g vs) {g' : Nat} (hne : g' ≠ g) (j : Nat) (v : Value) : BoxL (w.setCell ⟨g', j, none⟩ v) g vs :=
  h.keep (((Only.refl [g'] w).set j v).block g h.lt (by simp; exact fun e => hne e.symm)) (by rw [World.size_setCell]; exact Nat.le_refl _)
theorem BoxL.new (w : World) (vs : List Value) (T : TypeId) (cs : Array Value) (hc : cs = vs.toArray) : BoxL (w.alloc (.cells cs T)) w.heap.size vs := by
  subst hc
  refine ⟨fun j v hv => ?_, fun j _ => World.frozen?_alloc_at _ _ _ _ rfl, by simp⟩
  rw [World.cell?_alloc_at _ _ _ _ rfl]
  simpa using hv
/-- The blocks of a row of rows. -/
def inPg (v : Value) (n : Nat) (G : Nat → Nat) (b : Nat) : Prop := v.ownBlock = some b ∨ ∃ i, i < n ∧ G i = b
section
variable {w w' u : World} {B n : Nat} {v v' : Value} {V : Nat → Value} {X : Nat → List Int} {G : Nat → Nat}
theorem PgW.keep (h : PgW w B v n V X G) (hk : ∀ b, inPg v n G b → w'.heap[b]? = w.heap[b]?) : PgW w' B v n V X G := by
  refine ⟨?_, fun i hi => own_stays (h.row i hi) (fun k hk' hkl => ?_), h.blk, h.inj, h.ap⟩
  · obtain ⟨h1, h2⟩ := h.own
    refine ⟨h1, ?_⟩
    rcases h2 with h2 | ⟨g, cap, cur, hv, hg, hh, r⟩
    · exact .inl h2
    · exact .inr ⟨g, cap, cur, hv, hg, by rw [hk g (.inl (by rw [hv]; rfl))]; exact hh, r⟩
  · rw [h.blk i hi] at hk'
    injection hk' with hk'
    exact hk k (.inr ⟨i, hi, hk'⟩)
theorem PgW.lt (h : PgW w B v n V X G) {b : Nat} (hb : inPg v n G b) : B ≤ b ∧ b < w.heap.size := by
  rcases hb with hb | ⟨i, hi, rfl⟩
  · rcases h.own.2 with ⟨hv, _⟩ | ⟨g, cap, cur, hv, hg, hh, _⟩
    · rw [hv] at hb; cases hb
    · rw [hv] at hb
      have e : g = b := by injection hb
      subst e
      refine ⟨hg, ?_⟩
      rcases Nat.lt_or_ge g w.heap.size with hlt | hge
      · exact hlt
      · rw [Array.getElem?_eq_none hge] at hh; cases hh
  · exact h.gl hi
theorem PgW.setFar (h : PgW w B v n V X G) {g : Nat} (hg : ¬ inPg v n G g) (j : Nat) (x : Value) : PgW (w.setCell ⟨g, j, none⟩ x) B v n V X G :=
  h.keep (fun b hb => ((Only.refl [g] w).set j x).block b (h.lt hb).2 (by simp; exact fun e => hg (e ▸ hb)))
/-- The last element is cut off. -/
theorem PgW.cut {g cap : Nat} (h : PgW w B (.slice (some ⟨g, 0, none⟩) (n + 1) cap) (n + 1) V X G) : PgW w B (.slice (some ⟨g, 0, none⟩) n cap) n V X G := by
  refine ⟨?_, fun i hi => h.row i (by omega), fun i hi => h.blk i (by omega), fun i j hi hj => h.inj i j (by omega) (by omega), fun i hi => h.ap i (by omega)⟩
  obtain ⟨h1, h2⟩ := h.own
  refine ⟨by simp, ?_⟩
  rcases h2 with ⟨hv, _⟩ | ⟨g', cap', cur, hv, hg, hh, hn, hc, hcs, ht⟩
  · cases hv
  · injection hv with e1 e2 e3
    injection e1 with e1
    injection e1 with e1
    subst e1 e3
    refine .inr ⟨g, cap, cur, rfl, hg, hh, by omega, hc, hcs, ?_⟩
    rw [List.range_succ, List.map_append] at ht
    have hl : ((List.range n).map V).length = n * 1 := by simp
    have := congrArg (List.take (n * 1)) ht
    rw [List.take_take, Nat.min_eq_left (by omega)] at this
    rw [this, List.take_append_of_le_length (by rw [hl]; exact Nat.le_refl _), List.take_of_length_le (by rw [hl]; exact Nat.le_refl _)]
/-- An element's cells. -/
theorem PgW.at_ (h : PgW w B v n V X G) {i : Nat} (hi : i < n) (hok : ∀ x ∈ X i, fInt.ok x) : ∃ fp, Sl fInt.cod w (V i) (X i) fp ∧ ∀ b ∈ fp, (V i).ownBlock = some b := by
  obtain ⟨fp, h1, _, _, h4⟩ := own_fp (h.row i hi) hok
  exact ⟨fp, h1, h4⟩
theorem PgW.cell (h : PgW w B v n V X G) {i : Nat} (hi : i < n) : ∃ g cap, v = .slice (some ⟨g, 0, none⟩) n cap ∧ w.cell? ⟨g, i, none⟩ = some (V i) := by
  obtain ⟨g, cap, rfl, hg, hl⟩ := h.addr (by omega)
  refine ⟨g, cap, rfl, ?_⟩
  rw [h.own.cellAt i (by omega), List.getElem?_map, List.getElem?_range hi]; rfl
end
end Go.Proofs.YtgnbhcgagdfaiaaGreatDoor

namespace Go.Proofs.YtgnbhcgagdfaiaaGreatDoor
open Go.RowKit Go.Shelf Go.Sort
set_option linter.unusedVariables false
attribute [local go_sem] Oper.semAt_some

/-! ### slices.Sort -/
theorem encStr_map (L : List ByteArray) : L.flatMap fStr.enc = (L.map (fun x : ByteArray => x.data.toList)).map encStr := by
  induction L with
  | nil => rfl
  | cons x L ih => rw [List.flatMap_cons, ih]; rfl
theorem srtF_map (L : List ByteArray) : (srtF L).map (fun x : ByteArray => x.data.toList) = (L.map (fun x : ByteArray => x.data.toList)).mergeSort (fun x y => decide (x ≤ y)) := by
  unfold srtF
  refine List.map_mergeSort (fun a _ b _ => ?_)
  rw [ltS_eq, Bool.eq_iff_iff]
  simp only [Bool.not_eq_true', decide_eq_false_iff_not, decide_eq_true_eq]
  exact Iff.rfl
theorem sortS_any (g cap base : Nat) (L : List ByteArray) (w : World) (h : Own fStr w base 9 (.slice (some ⟨g, 0, none⟩) L.length cap) L) (hl : L.length ≤ 1000000) :
    Calls Tryz.prog 93 #[.slice (some ⟨g, 0, none⟩) L.length cap] w fun e w' => e = .returned (.tuple #[]) ∧ Own fStr w' base 9 (.slice (some ⟨g, 0, none⟩) L.length cap) (srtF L) ∧ Below base w w' := by
  rcases h.2 with ⟨hv, _⟩ | ⟨g', cap', cur, hv, hg, hh, hnc, hcm, hsz, hxs⟩
  · cases hv
  · injection hv with hv1 _ hv2
    injection hv1 with hv1
    injection hv1 with hv1 _ _
    subst hv1 hv2
    have hgl : g < w.heap.size := (Array.getElem?_eq_some_iff.1 hh).1
    have hll : (L.map (fun x : ByteArray => x.data.toList)).length = L.length := List.length_map _
    have hH : Holds encStr w g 0 (L.map (fun x : ByteArray => x.data.toList)).toArray := holds_of_block hh (by rw [hll, ← encStr_map]; have e1 : fStr.n = 1 := rfl; rw [e1, Nat.mul_one] at hxs; exact hxs)
    have c := Tryz.slices_Sort_string g 0 cap (L.map (fun x : ByteArray => x.data.toList)) w hH hgl (by rw [hll]; omega)
    rw [hll, ← srtF_map] at c
    refine c.mono ?_
    rintro e w' ⟨rfl, n, os, rfl⟩
    refine ⟨rfl, ?_, (Below.refl base w).grown (grownBy_sorted _) (by omega) (fun j hj => by cases hj; exact hg)⟩
    have h2 := ownsRow_sorted (n := n) (os := os) (w := w) (base := base) (ss := L.map (fun x : ByteArray => x.data.toList)) (ts := (srtF L).map (fun x : ByteArray => x.data.toList)) (by simp [srtF_len]) hg hh (by rw [hll]; exact hnc) hcm hsz
    rw [hll, ← encStr_map] at h2
    show World.ownsRow _ base _ 1 _ (srtF L).length _
    rw [srtF_len]
    exact h2
/-! ### slices.Values, slices.AppendSeq -/
set_option maxRecDepth 100000 in
set_option maxHeartbeats 2000000 in
theorem values1S_in (F : Fence) (n : Nat) (h7 : F.fn 94) (hro : F.round = none) (hn : 1 ≤ n) (l Bs n₀ b off cap : Nat) (zs : List ByteArray) (hreach : zs.length ≤ 1000000) (hb : b < n₀) (J Jx : List ByteArray → World → Prop)
    (hY : ∀ pre x W, J pre W → pre.length < zs.length → YieldAt F (n - 1) Tryz.prog l #[.string x] W fun e W' =>
      (e = .returned (.bool true) ∧ J (pre ++ [x]) W' ∧ Below n₀ W W') ∨ (e = .returned (.bool false) ∧ Jx (pre ++ [x]) W'))
    (W : World) (hBs : W.cell? ⟨Bs, 0, none⟩ = some (.slice (some ⟨b, off, none⟩) zs.length cap)) (hc : ∀ j (h : j < zs.length), W.cell? ⟨b, off + j, none⟩ = some (.string zs[j])) (h0 : J [] W) :
    CallsIn F n Tryz.prog 94 #[.func (.yield l) #[] #[], .pointer (some ⟨Bs, 0, none⟩)] W fun e W' => (∃ v, e = .returned v) ∧
      ((∃ ys, ys = zs ∧ J ys W') ∨ (∃ pre, pre <+: zs ∧ Jx pre W')) := by
  refine callsIn_of_wp Tryz.func94 rfl h7 ?_ hro
  simp only [Tryz.ntmps94, List.size_toArray, List.length_cons, List.length_nil, Nat.reduceAdd, Nat.reduceSub, Array.replicate_succ, Array.replicate_zero, List.push_toArray, List.append_toArray, List.nil_append, List.cons_append]
  gi_wp2
  gi_loopw [7] (fun i wr => ∃ k : Nat, k ≤ zs.length ∧ i = .int .i64 k ∧ J (zs.take k) wr ∧ Below n₀ W wr)
    (fun i _ => zs.length - (intOf i).toNat)
  case atStart => exact ⟨0, Nat.zero_le _, rfl, h0, Below.refl _ _⟩
  case round =>
    obtain ⟨k, hk, rfl, hJs, hnx⟩ := hrel
    by_cases hlt : k < zs.length
    · obtain ⟨fn, tmps, assign, body, hy, hR⟩ := hY _ zs[k] wr hJs (by rw [List.length_take]; omega)
      have hcx : wr.cell? ⟨b, off + k, none⟩ = some (.string zs[k]) := (hnx.cell (p := ⟨b, off + k, none⟩) hb).trans (hc k hlt)
      have ht : zs.take k ++ [zs[k]] = zs.take (k + 1) := (List.take_succ_eq_append_getElem hlt).symm
      have HT := Lib.hid ht
      clear ht
      gi_wp2
      refine hR.mono ?_
      rintro e W3 (⟨rfl, hJ3, hk3⟩ | ⟨rfl, hJx3⟩)
      · gi_wp2
        go_roundw
        case rel => exact ⟨k + 1, by omega, by go_num, by rw [← HT.out]; exact hJ3, hnx.trans hk3⟩
        case measure => simp [intOf]; omega
      · gi_wp2
        refine bodyPost_ret (results_none rfl _ _ _) rfl ?_
        exact ⟨⟨_, rfl⟩, .inr ⟨_, by rw [HT.out]; exact List.take_prefix _ _, hJx3⟩⟩
    · have e1 : zs.take k = zs := List.take_of_length_le (by omega)
      rw [e1] at hJs
      gi_wp2
      go_end0
      exact ⟨⟨_, rfl⟩, .inl ⟨_, rfl, hJs⟩⟩
set_option maxRecDepth 100000 in
set_option maxHeartbeats 1000000 in
theorem values1S_nil_in (F : Fence) (n : Nat) (h7 : F.fn 94) (hro : F.round = none) (l Bs cap : Nat) (A : Option Addr) (J : List ByteArray → World → Prop) (W : World) (hBs : W.cell? ⟨Bs, 0, none⟩ = some (.slice A 0 cap)) (h0 : J [] W) :
    CallsIn F n Tryz.prog 94 #[.func (.yield l) #[] #[], .pointer (some ⟨Bs, 0, none⟩)] W fun e W' => (∃ v, e = .returned v) ∧ J [] W' := by
  refine callsIn_of_wp Tryz.func94 rfl h7 ?_ hro
  simp only [Tryz.ntmps94, List.size_toArray, List.length_cons, List.length_nil, Nat.reduceAdd, Nat.reduceSub, Array.replicate_succ, Array.replicate_zero, List.push_toArray, List.append_toArray, List.nil_append, List.cons_append]
  gi_wp2
  gi_loopw [7] (fun i wr => i = .int .i64 0 ∧ J [] wr) (fun _ _ => 0)
  case atStart => exact ⟨rfl, h0⟩
  case round =>
    obtain ⟨rfl, hJs⟩ := hrel
    gi_wp2
    go_end0
    exact ⟨⟨_, rfl⟩, hJs⟩
/-- What a slice value of strings holds, in a block below n₀. -/
def StrsAt (n₀ : Nat) (W : World) (sv : Value) (zs : List ByteArray) : Prop :=
  ∃ A cap, sv = .slice A zs.length cap ∧ (zs = [] ∨ ∃ b off, A = some ⟨b, off, none⟩ ∧ b < n₀ ∧ ∀ j (h : j < zs.length), W.cell? ⟨b, off + j, none⟩ = some (.string zs[j]))
theorem StrsAt.below {n₀ : Nat} {A B : World} (h : Below n₀ A B) {sv : Value} {zs : List ByteArray} : StrsAt n₀ A sv zs → StrsAt n₀ B sv zs := by
  rintro ⟨A1, cap, e, h1⟩
  refine ⟨A1, cap, e, ?_⟩
  rcases h1 with h1 | ⟨b, off, e1, hb, hc⟩
  · exact .inl h1
  · exact .inr ⟨b, off, e1, hb, fun j hj => (h.cell (p := ⟨b, off + j, none⟩) hb).trans (hc j hj)⟩
theorem Sl.strsAt {w : World} {v : Value} {xs : List ByteArray} {fp : List Nat} (h : Sl fStr.cod w v xs fp) : StrsAt w.heap.size w v xs := by
  obtain ⟨A, cap, rfl, _, _⟩ := h.form
  refine ⟨A, cap, rfl, ?_⟩
  rcases Nat.eq_zero_or_pos xs.length with h0 | h0
  · exact .inl (List.eq_nil_of_length_eq_zero h0)
  · obtain ⟨b, off, hA, hb, _, hc⟩ := h.cells h0
    refine .inr ⟨b, off, hA, h.lt b (by rw [hb]; simp), fun j hj => ?_⟩
    obtain ⟨b', off', hA', _, _, hcell, _⟩ := h.cell1 rfl hj rfl
    rw [hA] at hA'
    injection hA' with e
    injection e with e1 e2 _
    subst e1 e2
    exact hcell
theorem valuesS_stops (F : Fence) (n : Nat) (h7 : F.fn 94) (hro : F.round = none) (hn : 1 ≤ n) (Bs n₀ : Nat) (sv : Value) (zs : List ByteArray) (hreach : zs.length ≤ 1000000) (w : World) (hBs : Bs < w.heap.size) (hn₀ : n₀ ≤ w.heap.size)
    (hc : w.cell? ⟨Bs, 0, none⟩ = some sv) (hI : StrsAt n₀ w sv zs) :
    SeqStopsK F n Tryz.prog 94 #[.pointer (some ⟨Bs, 0, none⟩)] (fun x : ByteArray => #[Value.string x]) (Below n₀) (fun ys => ys = zs) (fun pre => pre <+: zs) zs.length w := fun l J Jx W hW _ _ hY h0 => by
  have hc' := (hW.cell (p := ⟨Bs, 0, none⟩) hBs).trans hc
  obtain ⟨A, cap, rfl, h1⟩ := hI.below (hW.mono hn₀)
  rcases h1 with rfl | ⟨b, off, rfl, hb, hcs⟩
  · exact (values1S_nil_in F n h7 hro l Bs cap A J W hc' h0).mono fun e W' ⟨he, hj⟩ => ⟨he, .inl ⟨_, rfl, hj⟩⟩
  · exact values1S_in F n h7 hro hn l Bs n₀ b off cap zs hreach hb J Jx hY W hc' hcs h0
set_option maxRecDepth 100000 in
set_option maxHeartbeats 2000000 in
theorem appendSeqS_in (F : Fence) (n : Nat) (h3 : F.fn 127) (h5 : F.fn 94) (hro : F.round = none) (hn : 3 ≤ n) (Bs : Nat) (sv : Value) (zs : List ByteArray) (hreach : zs.length ≤ 1000000) (w : World) (hBs : Bs < w.heap.size) (hc : w.cell? ⟨Bs, 0, none⟩ = some sv) (hI : StrsAt w.heap.size w sv zs) :
    CallsIn F n Tryz.prog 127 #[.slice none 0 0, .func (.func 94) #[] #[.pointer (some ⟨Bs, 0, none⟩)]] w fun e W' => ∃ v, e = .returned v ∧ W'.ownsRow w.heap.size 9 1 v zs.length (zs.map Value.string) ∧ Below w.heap.size w W' := by
  have h1 : 1 ≤ n := by omega
  obtain ⟨i0, hi, hz0, hz1, hz2⟩ := info_parts infoStr3
  refine callsIn_of_wp_marks Tryz.func127 rfl h3 ?_ hro
  simp only [Tryz.ntmps127, List.size_toArray, List.length_cons, List.length_nil, Nat.reduceAdd, Nat.reduceSub, Array.replicate_succ, Array.replicate_zero, List.push_toArray, List.append_toArray, List.nil_append, List.cons_append]
  gi_wp2
  have bO := Boxed.new w 24 (.slice none 0 0)
  have hB0 : Below w.heap.size w (w.alloc (.cells #[.slice none 0 0] 24)) := (Below.refl _ w).alloc (Nat.le_refl _) _
  refine wpIn_rangeFunc_ownG hro h1 (gf := 94) (lb := #[.pointer (some ⟨Bs, 0, none⟩)]) rfl h5 (enters_of Tryz.func94 (by kernel_rfl) rfl)
    (valuesS_stops F (n - 1) h5 hro (by omega) Bs w.heap.size sv zs hreach _ (by simp; omega) (by simp) ((hB0.cell (p := ⟨Bs, 0, none⟩) hBs).trans hc) (hI.below hB0)) belowK_t (belowK_b (by simp)) (Below.refl _ _) (fun _ => rfl)
    (fun (pre : List ByteArray) W => (∃ v, Boxed W w.heap.size 24 v ∧ W.ownsRow w.heap.size 9 1 v pre.length (pre.map Value.string) ∧ True) ∧ Below w.heap.size w W)
    (fun _ _ _ => False)
    (OwnFrom.and (Own.from (holdsRow_own w.heap.size w.heap.size 24 9 1 (fun pre : List ByteArray => pre.length) (fun pre : List ByteArray => pre.map Value.string) (fun pre v => True)) _) (ownFrom_below (Nat.le_refl _) (by simp)))
    (fun _ _ _ _ _ hs _ _ => hs)
    ⟨⟨_, bO, World.ownsRow_nil _ _ _ _, trivial⟩, hB0⟩
    (fun x => { tmps := #[.slice none 0 0, .func (.func 94) #[] #[.pointer (some ⟨Bs, 0, none⟩)], .pointer (some ⟨w.heap.size, 0, none⟩), undef, .slice none 0 0, .string x, .func (.func 94) #[] #[.pointer (some ⟨Bs, 0, none⟩)], .string x, undef, undef, undef, undef, undef], defers := [] }) ?assign ?body ?done ?stop
  case assign =>
    intro l x W K hK
    gi_wp2
    exact hK
  case body =>
    rintro l pre x W ⟨⟨v, hv, hrow, hnil⟩, hB⟩ hlt
    have hc := hv.cell
    gi_wp2_with (gi_at_builtin; refine wpListIn_append_own _ rfl _ _ 24 rfl w.heap.size 9 i0 (.string ⟨#[]⟩) 1 16 Tryz.underlying24 hi hz0 hz1 hz2 rfl (by decide) _ _ _ rfl (hrow.alloc _) ⟨W.heap.size, 0, none⟩ 1 1 [.string x] rfl rfl (cell_one_new _ _ _) (by simp [Value.oneCell']) (by unfold maxLen; omega) (by omega) (by have := hB.size; simp; omega) ?_; intro v' w1 hown' hgrow _; obtain ⟨g', cap', rfl⟩ := ownsRow_succ hown'; obtain ⟨hv1, hv2, hr2, hk2, hb2⟩ := hv.appended (by decide) hrow hB.size (Nat.le_refl _) hown' hgrow; have hc1 := hv1.cell; have hf1 := hv1.frozen)
    exact ⟨hk2.from _, hb2, ⟨_, hv2, by simpa using hr2, trivial⟩, hB.trans hb2⟩
  case done =>
    rintro D ys W hD rfl ⟨⟨v, hv, hrow, hnil⟩, hB⟩ hK
    have hc := hv.cell
    gi_wp2
    refine ⟨by simp, .inl ⟨_, _, rfl, run_takeDeferred hK, ?_⟩⟩
    exact ⟨_, results_tmp rfl _ _ _, v, rfl, ownsRow_putObj hrow _ hK rfl, hB.trans (belowK_b (w := w) (Nat.le_refl _) W D _ _ (by simp at hD; omega) hK rfl rfl)⟩
  case stop =>
    rintro D c pre W _ _ h _
    exact h.elim
set_option maxHeartbeats 1000000 in
theorem collectS_in (F : Fence) (n : Nat) (h2 : F.fn 92) (h3 : F.fn 127) (h5 : F.fn 94) (hro : F.round = none) (hn : 4 ≤ n) (Bs : Nat) (sv : Value) (zs : List ByteArray) (hreach : zs.length ≤ 1000000) (w : World) (hBs : Bs < w.heap.size) (hc : w.cell? ⟨Bs, 0, none⟩ = some sv) (hI : StrsAt w.heap.size w sv zs) :
    CallsIn F n Tryz.prog 92 #[.func (.func 94) #[] #[.pointer (some ⟨Bs, 0, none⟩)]] w fun e W' => ∃ v, e = .returned v ∧ W'.ownsRow w.heap.size 9 1 v zs.length (zs.map Value.string) ∧ Below w.heap.size w W' := by
  have h1 : 1 ≤ n := by omega
  refine callsIn_of_wp Tryz.func92 rfl h2 ?_ hro
  simp only [Tryz.ntmps92, List.size_toArray, List.length_cons, List.length_nil, Nat.reduceAdd, Nat.reduceSub, Array.replicate_succ, Array.replicate_zero, List.push_toArray, List.append_toArray, List.nil_append, List.cons_append]
  gi_wp2_with (gi_at_call 127; refine (appendSeqS_in F (n - 1) h3 h5 hro (by omega) Bs sv zs hreach _ hBs hc hI).mono ?_; rintro e w' ⟨v, rfl, hrow, hb⟩)
  go_ret
  exact ⟨v, rfl, hrow, hb⟩
theorem valuesS_in (F : Fence) (n : Nat) (h5 : F.fn 52) (hro : F.round = none) (A : Option Addr) (len cap : Nat) (w : World) :
    CallsIn F n Tryz.prog 52 #[.slice A len cap] w fun e w' => e = .returned (.func (.func 94) #[] #[.pointer (some ⟨w.heap.size, 0, none⟩)]) ∧ w' = w.alloc (.cells #[.slice A len cap] 24) := by
  refine callsIn_of_wp Tryz.func52 rfl h5 ?_ hro
  simp only [Tryz.ntmps52, List.size_toArray, List.length_cons, List.length_nil, Nat.reduceAdd, Nat.reduceSub, Array.replicate_succ, Array.replicate_zero, List.push_toArray, List.append_toArray, List.nil_append, List.cons_append]
  gi_wp2
  go_ret
  exact ⟨rfl, rfl⟩
theorem map_flat (L : List ByteArray) : L.map Value.string = L.flatMap fStr.enc := by
  induction L with
  | nil => rfl
  | cons x L ih => rw [List.map_cons, List.flatMap_cons, ih]; rfl
/-- slices.Sorted(slices.Values(s)). -/
theorem collectS_any (Bs : Nat) (sv : Value) (zs : List ByteArray) (hreach : zs.length ≤ 1000000) (w : World) (hBs : Bs < w.heap.size) (hc : w.cell? ⟨Bs, 0, none⟩ = some sv) (hI : StrsAt w.heap.size w sv zs) :
    Calls Tryz.prog 92 #[.func (.func 94) #[] #[.pointer (some ⟨Bs, 0, none⟩)]] w fun e w' => OwnRS fStr 9 w zs e w' := by
  refine ((callsIn_wide (n := 6)).1 (collectS_in Fence.wide 6 trivial trivial trivial rfl (by omega) Bs sv zs hreach w hBs hc hI)).mono ?_
  rintro e w' ⟨v, rfl, hrow, hb⟩
  rw [map_flat] at hrow
  exact ⟨v, rfl, hrow, hb⟩
theorem valuesS_any (A : Option Addr) (len cap : Nat) (w : World) :
    Calls Tryz.prog 52 #[.slice A len cap] w fun e w' => e = .returned (.func (.func 94) #[] #[.pointer (some ⟨w.heap.size, 0, none⟩)]) ∧ w' = w.alloc (.cells #[.slice A len cap] 24) :=
  (callsIn_wide (n := 6)).1 (valuesS_in Fence.wide 6 trivial rfl A len cap w)
set_option maxRecDepth 100000 in
set_option maxHeartbeats 1000000 in
theorem sortedS_any (Bs : Nat) (sv : Value) (zs : List ByteArray) (hreach : zs.length ≤ 1000000) (w : World) (hBs : Bs < w.heap.size) (hc : w.cell? ⟨Bs, 0, none⟩ = some sv) (hI : StrsAt w.heap.size w sv zs) :
    Calls Tryz.prog 51 #[.func (.func 94) #[] #[.pointer (some ⟨Bs, 0, none⟩)]] w fun e w' => OwnRS fStr 9 w (srtF zs) e w' := by
  go_enter Tryz.func51, Tryz.ntmps51
  go_wp2_with fail
  refine (collectS_any Bs sv zs hreach _ hBs hc hI).mono ?_
  rintro e w1 ⟨v, rfl, hown, hb1⟩
  rcases Nat.eq_zero_or_pos zs.length with h0 | h0
  · obtain rfl := List.eq_nil_of_length_eq_zero h0
    obtain ⟨A, cap, rfl⟩ := hown.form
    go_wp2_with fail
    refine (Tryz.slices_Sort_string_none _ _ _).mono ?_
    rintro e w' ⟨rfl, rfl⟩
    go_wp2
    go_ret
    exact ⟨_, rfl, by simpa [srtF] using hown, hb1⟩
  · obtain ⟨A, cap, rfl⟩ := hown.form
    obtain ⟨g, rfl⟩ : ∃ g, A = some ⟨g, 0, none⟩ := by
      rcases hown.2 with ⟨hv, hz⟩ | ⟨g, cap', cur, hv, _⟩
      · omega
      · injection hv with hv1; exact ⟨g, hv1⟩
    go_wp2_with fail
    refine (sortS_any g cap w.heap.size zs _ hown hreach).mono ?_
    rintro e w2 ⟨rfl, hown2, hb2⟩
    go_wp2
    go_ret
    exact ⟨_, rfl, hown2, hb1.trans hb2⟩
def slC (xs : List ByteArray) : Int := if linesB xs then 0 else 1
def slF (xs : List ByteArray) : List ByteArray := if linesB xs then srtF xs else []
theorem slF_len {xs : List ByteArray} (h : xs.length ≤ 1048576) : (slF xs).length ≤ 100000000000 := by
  unfold slF; split
  · rw [srtF_len]; omega
  · simp
theorem srtF_ok {xs : List ByteArray} (h : ∀ x ∈ xs, fStr.ok x) : ∀ x ∈ srtF xs, fStr.ok x := fun x hx => h x ((srtF_perm xs).mem_iff.1 hx)
theorem linesB_len {xs : List ByteArray} (h : linesB xs = true) : xs.length ≤ 200 := by
  unfold linesB at h
  simp only [Bool.and_eq_true, decide_eq_true_eq] at h
  exact h.2
set_option maxRecDepth 100000 in
set_option maxHeartbeats 1000000 in
theorem implSortLines_any (v : Value) (xs : List ByteArray) (fp : List Nat) (w : World) (hx : Sl fStr.cod w v xs fp) :
    Calls Tryz.prog 21 #[v] w fun e w' => NewR2 fStr.cod w (slF xs) (slC xs) e w' := by
  obtain ⟨A, cap, rfl, hlen, hcap⟩ := hx.form
  go_enter Tryz.func21, Tryz.ntmps21
  go_wp2_with fail
  refine (implValidReport_any _ xs fp _ hx).mono ?_
  rintro e w' ⟨rfl, rfl⟩
  cases h0 : linesB xs
  · go_wp2
    go_ret2
    exact ⟨_, by rw [slC, h0]; rfl, by rw [slF, h0]; exact New.nil (Below.refl _ _)⟩
  · have hl := linesB_len h0
    have HOK := srtF_ok hx.oks
    have hB0 : Below w.heap.size w (w.alloc (.cells #[.slice A xs.length cap] 24)) := (Below.refl _ w).alloc (Nat.le_refl _) _
    have hI := ((hx.below' hB0).strsAt)
    have hcell : (w.alloc (.cells #[.slice A xs.length cap] 24)).cell? ⟨w.heap.size, 0, none⟩ = some (.slice A xs.length cap) := by rw [World.cell?_alloc_at _ _ _ _ rfl]; rfl
    go_wp2_with fail
    refine (valuesS_any _ _ _ _).mono ?_
    rintro e w' ⟨rfl, rfl⟩
    go_wp2_with fail
    refine (sortedS_any w.heap.size _ xs (by omega) _ (by simp) hcell hI).mono ?_
    rintro e w1 ⟨v1, rfl, hown, hb1⟩
    have hn := (hown.new hb1 HOK).later hB0
    clear hown
    go_wp2
    go_ret2
    exact ⟨_, by rw [slC, h0]; rfl, by rw [slF, h0]; exact hn⟩

end Go.Proofs.YtgnbhcgagdfaiaaGreatDoor

namespace Go.Proofs.YtgnbhcgagdfaiaaGreatDoor
open Go.RowKit
set_option linter.unusedVariables false

/-! ### different lines in order, and how many of each -/
def cntS (L : List ByteArray) (s : ByteArray) : Nat := L.countP (fun x => decide (x = s))
theorem cntS_snoc (L : List ByteArray) (x s : ByteArray) : cntS (L ++ [x]) s = cntS L s + if x = s then 1 else 0 := by
  unfold cntS; rw [List.countP_append]; simp [List.countP_cons]
theorem cntS_zero {L : List ByteArray} {s : ByteArray} (h : s ∉ L) : cntS L s = 0 := by
  unfold cntS; rw [List.countP_eq_zero]; intro x hx he; simp at he; exact h (he ▸ hx)
theorem cntS_le (L : List ByteArray) (s : ByteArray) : cntS L s ≤ L.length := List.countP_le_length
theorem cntS_perm {L M : List ByteArray} (h : L.Perm M) (s : ByteArray) : cntS L s = cntS M s := h.countP_eq _
def SSrt (L : List ByteArray) : Prop := L.Pairwise (fun a b => ltS a b = true)
theorem SSrt.nodup {L : List ByteArray} (h : SSrt L) : L.Nodup := by
  refine List.Pairwise.imp ?_ h
  intro a b h e; subst e; rw [ltS_irrefl] at h; cases h
theorem SSrt.srt {L : List ByteArray} (h : SSrt L) : Srt L := h.imp (fun h => ltS_asymm h)
theorem ssrt_of {L : List ByteArray} (h : Srt L) (hn : L.Nodup) : SSrt L := by
  unfold SSrt
  have h2 := List.Pairwise.and h hn
  refine h2.imp ?_
  rintro a b ⟨h1, h3⟩
  cases h4 : ltS a b with
  | true => rfl
  | false => exact absurd (ltS_tri h4 h1) h3
theorem ssrt_unique {a b : List ByteArray} (ha : SSrt a) (hb : SSrt b) (h : ∀ s, s ∈ a ↔ s ∈ b) : a = b :=
  srt_unique ha.srt hb.srt ((List.perm_ext_iff_of_nodup ha.nodup hb.nodup).2 h)
def insU (x : ByteArray) (L : List ByteArray) : List ByteArray := if L.any (fun y => decide (y = x)) = true then L else x :: L
theorem insU_spec (xs : List ByteArray) : (xs.foldr insU []).Nodup ∧ ∀ s, s ∈ xs.foldr insU [] ↔ s ∈ xs := by
  induction xs with
  | nil => simp
  | cons x xs ih =>
    obtain ⟨h1, h2⟩ := ih
    rw [List.foldr_cons]
    generalize xs.foldr insU [] = M at *
    unfold insU
    split
    · rename_i h
      replace h : x ∈ M := by
        rw [List.any_eq_true] at h
        obtain ⟨y, hy, e⟩ := h
        simp at e; exact e ▸ hy
      refine ⟨h1, fun s => ?_⟩
      rw [h2, List.mem_cons]
      exact ⟨.inr, fun hs => by rcases hs with rfl | hs; exact (h2 _).1 h; exact hs⟩
    · rename_i h
      replace h : x ∉ M := fun hx => h (List.any_eq_true.2 ⟨x, hx, by simp⟩)
      exact ⟨List.nodup_cons.2 ⟨h, h1⟩, fun s => by rw [List.mem_cons, List.mem_cons]; exact or_congr Iff.rfl (h2 s)⟩
/-- The different lines, in order. -/
def cdF (xs : List ByteArray) : List ByteArray := srtF (xs.foldr insU [])
theorem cdF_ssrt (xs : List ByteArray) : SSrt (cdF xs) := ssrt_of (srtF_srt _) ((srtF_perm _).nodup_iff.2 (insU_spec xs).1)
theorem cdF_mem (xs : List ByteArray) (s : ByteArray) : s ∈ cdF xs ↔ s ∈ xs := ((srtF_perm _).mem_iff).trans ((insU_spec xs).2 s)
theorem cdF_of {xs L : List ByteArray} (h : SSrt L) (hm : ∀ s, s ∈ L ↔ s ∈ xs) : L = cdF xs := ssrt_unique h (cdF_ssrt xs) (fun s => (hm s).trans (cdF_mem xs s).symm)
theorem insU_len (xs : List ByteArray) : (xs.foldr insU []).length ≤ xs.length := by
  induction xs with
  | nil => simp
  | cons x xs ih =>
    rw [List.foldr_cons]
    generalize xs.foldr insU [] = M at *
    unfold insU
    split
    · simp; omega
    · simp; omega
theorem cdF_len (xs : List ByteArray) : (cdF xs).length ≤ xs.length := by
  unfold cdF; rw [srtF_len]; exact insU_len xs
def cmF (xs : List ByteArray) : List Int := (cdF xs).map (fun s => (cntS xs s : Int))
/-- The rounds over sorted lines. -/
structure Grp (ys : List ByteArray) (k : Nat) (out : List ByteArray) : Prop where
  srt : SSrt out
  mem : ∀ s, s ∈ out ↔ s ∈ ys.take k
  last : ∀ j, k = j + 1 → out.getLast? = ys[j]?
  len : out.length ≤ k
theorem Grp.zero (ys : List ByteArray) : Grp ys 0 [] := ⟨List.Pairwise.nil, by simp, by omega, by simp⟩
theorem Grp.first {ys : List ByteArray} (h : 0 < ys.length) : Grp ys 1 [ys[0]] := by
  refine ⟨List.pairwise_singleton _ _, fun s => ?_, fun j hj => ?_, by simp⟩
  · rw [List.take_succ_eq_append_getElem h]; simp
  · obtain rfl : j = 0 := by omega
    simp [h]
theorem Grp.new_notmem {ys out : List ByteArray} {j : Nat} (hs : Srt ys) (h : Grp ys (j + 1) out) (hj : j + 1 < ys.length) (hne : ys[j + 1] ≠ ys[j]) : ∀ s ∈ out, ltS s ys[j + 1] = true := by
  intro s hm
  have hlt : ltS ys[j] ys[j + 1] = true := by
    cases h1 : ltS ys[j] ys[j + 1] with
    | true => rfl
    | false => exact absurd (ltS_tri h1 (List.pairwise_iff_getElem.1 hs j (j + 1) (by omega) hj (by omega))).symm hne
  obtain ⟨m, hm1, rfl⟩ := List.getElem_of_mem ((h.mem s).1 hm)
  simp at hm1
  rw [List.getElem_take]
  rcases Nat.lt_or_ge m j with h2 | h2
  · have h3 := List.pairwise_iff_getElem.1 hs m j (by omega) (by omega) h2
    cases h4 : ltS ys[m] ys[j + 1] with
    | true => rfl
    | false =>
      have := leS_trans h3 (ltS_asymm hlt)
      rw [ltS_tri h4 this] at h3
      rw [hlt] at h3; cases h3
  · obtain rfl : m = j := by omega
    exact hlt
theorem Grp.new {ys out : List ByteArray} {j : Nat} (hs : Srt ys) (h : Grp ys (j + 1) out) (hj : j + 1 < ys.length) (hne : ys[j + 1] ≠ ys[j]) : Grp ys (j + 2) (out ++ [ys[j + 1]]) := by
  refine ⟨?_, fun s => ?_, fun i hi => ?_, by have := h.len; simp; omega⟩
  · unfold SSrt
    rw [List.pairwise_append]
    refine ⟨h.srt, List.pairwise_singleton _ _, ?_⟩
    intro a ha b hb
    rw [List.mem_singleton] at hb
    subst hb
    exact h.new_notmem hs hj hne a ha
  · rw [List.mem_append, h.mem, List.take_succ_eq_append_getElem hj, List.mem_append]
  · obtain rfl : i = j + 1 := by omega
    simp [hj]
theorem Grp.same {ys out : List ByteArray} {j : Nat} (h : Grp ys (j + 1) out) (hj : j + 1 < ys.length) (he : ys[j + 1] = ys[j]) : Grp ys (j + 2) out := by
  refine ⟨h.srt, fun s => ?_, fun i hi => ?_, by have := h.len; omega⟩
  · rw [h.mem, List.take_succ_eq_append_getElem hj, List.mem_append]
    constructor
    · exact .inl
    · rintro (h1 | h1)
      · exact h1
      · rw [List.mem_singleton] at h1
        subst h1
        rw [he]
        exact List.mem_take_iff_getElem.2 ⟨j, by omega, rfl⟩
  · obtain rfl : i = j + 1 := by omega
    rw [h.last j rfl, List.getElem?_eq_getElem (by omega), List.getElem?_eq_getElem hj, he]
/-- The numbers. -/
def nmF (ys out : List ByteArray) (k : Nat) : List Int := out.map (fun s => (cntS (ys.take k) s : Int))
theorem nmF_len (ys out : List ByteArray) (k : Nat) : (nmF ys out k).length = out.length := List.length_map _
theorem nmF_first {ys : List ByteArray} (h : 0 < ys.length) : nmF ys [ys[0]] 1 = [(0 : Int) + 1] := by
  unfold nmF; rw [List.take_succ_eq_append_getElem h]; simp [cntS]
theorem nmF_new {ys out : List ByteArray} {j : Nat} (hs : Srt ys) (h : Grp ys (j + 1) out) (hj : j + 1 < ys.length) (hne : ys[j + 1] ≠ ys[j]) :
    (nmF ys out (j + 1) ++ [0]).set out.length (0 + 1) = nmF ys (out ++ [ys[j + 1]]) (j + 2) := by
  have hl := nmF_len ys out (j + 1)
  rw [← hl, List.set_append_right _ _ (Nat.le_refl _), Nat.sub_self, List.set_cons_zero]
  unfold nmF
  rw [List.map_append, List.take_succ_eq_append_getElem hj]
  congr 1
  · refine List.map_congr_left (fun s hm => ?_)
    rw [cntS_snoc, if_neg]
    · simp
    · intro e; have := h.new_notmem hs hj hne s hm; rw [e, ltS_irrefl] at this; cases this
  · have hz : cntS (ys.take (j + 1)) ys[j + 1] = 0 := cntS_zero (fun hm => by have := h.new_notmem hs hj hne _ ((h.mem _).2 hm); rw [ltS_irrefl] at this; cases this)
    rw [List.map_cons, List.map_nil, cntS_snoc, hz]; simp
theorem nmF_same {ys out : List ByteArray} {j m : Nat} (h : Grp ys (j + 1) out) (hj : j + 1 < ys.length) (he : ys[j + 1] = ys[j]) (hm : out.length = m + 1) :
    ∃ c : Nat, (nmF ys out (j + 1))[m]? = some (c : Int) ∧ c ≤ ys.length ∧ (nmF ys out (j + 1)).set m ((c : Int) + 1) = nmF ys out (j + 2) := by
  have hlast : out[m]? = some ys[j] := by
    have := h.last j rfl
    rw [List.getLast?_eq_getElem?, hm, Nat.add_sub_cancel] at this
    rw [this, List.getElem?_eq_getElem (by omega)]
  have hml : m < out.length := by omega
  have hx : out[m] = ys[j] := by rw [List.getElem?_eq_getElem hml] at hlast; exact Option.some.inj hlast
  refine ⟨cntS (ys.take (j + 1)) ys[j], ?_, ?_, ?_⟩
  · unfold nmF; rw [List.getElem?_map, hlast]; rfl
  · have := cntS_le (ys.take (j + 1)) ys[j]; rw [List.length_take] at this; omega
  · apply List.ext_getElem?
    intro i
    rw [List.getElem?_set]
    unfold nmF
    simp only [List.length_map, List.getElem?_map]
    rw [List.take_succ_eq_append_getElem hj]
    by_cases hi : m = i
    · subst hi
      rw [if_pos rfl, if_pos hml, hlast, Option.map_some, cntS_snoc, if_pos he]
      simp
    · rw [if_neg hi]
      rcases Nat.lt_or_ge i out.length with h2 | h2
      · rw [List.getElem?_eq_getElem h2, Option.map_some, Option.map_some, cntS_snoc, if_neg]
        · simp
        · intro e
          have h3 := List.pairwise_iff_getElem.1 h.srt.nodup
          rw [he, ← hx] at e
          rcases Nat.lt_or_ge m i with h4 | h4
          · exact h3 m i hml h2 h4 e
          · exact h3 i m h2 hml (by omega) e.symm
      · rw [List.getElem?_eq_none h2]; rfl
/-- Another block is written. -/
theorem Own.other {α : Type} {E : Flat α} {w : World} {base : Nat} {e : TypeId} {g n cap : Nat} {L : List α} (h : Own E w base e (.slice (some ⟨g, 0, none⟩) n cap) L) {g' j : Nat} (hne : g ≠ g') (u : Value) : Own E (w.setCell ⟨g', j, none⟩ u) base e (.slice (some ⟨g, 0, none⟩) n cap) L :=
  World.ownsRow.kept (w' := w.setCell ⟨g', j, none⟩ u) (row := some g') h ⟨rfl, rfl, rfl, by simp, fun k _ hk => heap_setCell_other w ⟨g', j, none⟩ k u (fun e => hk (by simp [e]))⟩ (.inr (fun e => hne (Option.some.inj e)))
theorem Own.blk {α : Type} {E : Flat α} {w : World} {base : Nat} {e : TypeId} {g n cap : Nat} {L : List α} (h : Own E w base e (.slice (some ⟨g, 0, none⟩) n cap) L) : base ≤ g ∧ g < w.heap.size ∧ n = L.length ∧ n ≤ cap ∧ cap ≤ 9223372036854775807 := by
  rcases h.2 with ⟨hv, _⟩ | ⟨g', cap', cur, hv, hg, hh, h1, h2, _⟩
  · cases hv
  · injection hv with hv1 hv2 hv3
    injection hv1 with hv1
    injection hv1 with hv1
    subst hv1 hv3
    unfold maxLen at h2
    exact ⟨hg, (Array.getElem?_eq_some_iff.1 hh).1, hv2, by omega, h2⟩
theorem Own.cellI {w : World} {base : Nat} {e : TypeId} {g n cap : Nat} {L : List Int} (h : Own fInt w base e (.slice (some ⟨g, 0, none⟩) n cap) L) {k : Nat} {x : Int} (hx : L[k]? = some x) : w.cell? ⟨g, k, none⟩ = some (.int .i64 x) := by
  obtain ⟨_, _, hn, _⟩ := h.blk
  have h' : w.ownsRow base e 1 (.slice (some ⟨g, 0, none⟩) L.length cap) L.length (L.flatMap fInt.enc) := by rw [hn] at h; exact h
  have hk : k < L.length := by
    rcases Nat.lt_or_ge k L.length with h | h
    · exact h
    · rw [List.getElem?_eq_none h] at hx; cases hx
  rw [h'.cellAt k (by omega)]
  have := flat_get fInt.enc 1 L (fun x _ => fInt.len x) k hk 0 (by omega)
  simp only [Nat.mul_one, Nat.add_zero] at this
  rw [this]
  have e1 : L[k] = x := by rw [List.getElem?_eq_getElem hk] at hx; exact Option.some.inj hx
  rw [e1]; rfl
/-- Two new slices and a code. -/
def New2R (w : World) (xs : List ByteArray) (ys : List Int) (c : Int) (e : Ending) (w' : World) : Prop :=
  ∃ v1 v2, e = .returned (.tuple #[v1, v2, .int .i64 c]) ∧ ∃ fp1 fp2, Sl fStr.cod w' v1 xs fp1 ∧ Sl fInt.cod w' v2 ys fp2 ∧ (∀ b ∈ fp1, w.heap.size ≤ b) ∧ (∀ b ∈ fp2, w.heap.size ≤ b) ∧ fp1.Nodup ∧ fp2.Nodup ∧ (∀ b ∈ fp1, b ∉ fp2) ∧ Below w.heap.size w w'
theorem New2R.nil {w w' : World} (h : Below w.heap.size w w') : New2R w [] [] 1 (.returned (.tuple #[.slice none 0 0, .slice none 0 0, .int .i64 1])) w' :=
  ⟨_, _, rfl, [], [], ⟨none, 0, rfl, by simp, by simp [maxLen], .inl ⟨rfl, rfl⟩⟩, ⟨none, 0, rfl, by simp, by simp [maxLen], .inl ⟨rfl, rfl⟩⟩, by simp, by simp, by simp, by simp, by simp, h⟩
theorem Own.fp {α : Type} {E : Flat α} {w : World} {base : Nat} {e : TypeId} {v : Value} {L : List α} (h : Own E w base e v L) (hok : ∀ x ∈ L, E.ok x) :
    ∃ fp, Sl E.cod w v L fp ∧ (∀ b ∈ fp, base ≤ b) ∧ fp.Nodup ∧ ∀ b ∈ fp, v.ownBlock = some b := by
  obtain ⟨fp, h1, h2, h3⟩ := Sl.of_own (n := L.length) rfl h hok
  rcases Nat.eq_zero_or_pos L.length with h0 | h0
  · obtain rfl := List.eq_nil_of_length_eq_zero h0
    refine ⟨[], ?_, by simp, by simp, by simp⟩
    obtain ⟨A, cap, hv, hl, hc, _⟩ := h1
    exact ⟨A, cap, hv, hl, hc, .inl ⟨rfl, rfl⟩⟩
  · refine ⟨fp, h1, h2, h3, fun b hb => ?_⟩
    obtain ⟨A, cap, rfl, _, _⟩ := h1.form
    obtain ⟨b', off, hA, hfp, _⟩ := h1.cells h0
    subst hA
    rw [hfp] at hb
    rw [List.mem_singleton] at hb
    subst hb
    rfl
theorem New2R.of {w w' : World} {v1 v2 : Value} {xs : List ByteArray} {ys : List Int} {b1 b2 : Nat} {T1 T2 : TypeId} {c : Int} (h1 : Own fStr w' b1 T1 v1 xs) (h2 : Own fInt w' b2 T2 v2 ys) (hb1 : w.heap.size ≤ b1) (hb2 : w.heap.size ≤ b2) (hne : v1.ownBlock ≠ v2.ownBlock ∨ v1.ownBlock = none ∨ v2.ownBlock = none)
    (ok1 : ∀ x ∈ xs, fStr.ok x) (ok2 : ∀ y ∈ ys, fInt.ok y) (hb : Below w.heap.size w w') : New2R w xs ys c (.returned (.tuple #[v1, v2, .int .i64 c])) w' := by
  obtain ⟨f1, a1, a2, a3, a4⟩ := h1.fp ok1
  obtain ⟨f2, c1, c2, c3, c4⟩ := h2.fp ok2
  refine ⟨_, _, rfl, f1, f2, a1, c1, fun b h => Nat.le_trans hb1 (a2 b h), fun b h => Nat.le_trans hb2 (c2 b h), a3, c3, fun b h h' => ?_, hb⟩
  have e1 := a4 b h
  have e2 := c4 b h'
  rcases hne with hne | hne | hne
  · exact hne (e1.trans e2.symm)
  · rw [e1] at hne; cases hne
  · rw [e2] at hne; cases hne
theorem infoInt3 : (Tryz.prog.info? 2).map (fun i => (i.zero, i.size, i.bytes)) = some (some (.int .i64 0), 1, 8) := by kernel_rfl
def clC (xs : List ByteArray) : Int := if linesB xs then 0 else 1
def clD (xs : List ByteArray) : List ByteArray := if linesB xs then cdF xs else []
def clM (xs : List ByteArray) : List Int := if linesB xs then cmF xs else []
theorem clD_len {xs : List ByteArray} (h : xs.length ≤ 1048576) : (clD xs).length ≤ 100000000000 := by
  unfold clD; split
  · have := cdF_len xs; omega
  · simp
theorem clM_len {xs : List ByteArray} (h : xs.length ≤ 1048576) : (clM xs).length ≤ 100000000000 := by
  unfold clM; split
  · unfold cmF; rw [List.length_map]; have := cdF_len xs; omega
  · simp
theorem clM_ok {xs : List ByteArray} (h : xs.length ≤ 1000000) : ∀ y ∈ cmF xs, fInt.ok y := by
  intro y hy
  obtain ⟨s, _, rfl⟩ := List.mem_map.1 hy
  have := cntS_le xs s
  show -9223372036854775808 ≤ _ ∧ _ ≤ _
  omega

end Go.Proofs.YtgnbhcgagdfaiaaGreatDoor

namespace Go.Proofs.YtgnbhcgagdfaiaaGreatDoor
open Go.RowKit
set_option linter.unusedVariables false

def totBoolS (xs : List Bool) : Nat := xs.length




def mkBool (k : Int) : Bool := ((k) % 3 == 0)
def marksBool (k : Int) (n : Nat) : List Bool := (List.range n).map fun (i : Nat) => mkBool (k + 1 * (i : Int))

theorem marksBool_get (k0 : Int) (n i : Nat) (h : i < (marksBool k0 n).length) : (marksBool k0 n)[i] = mkBool (k0 + 1 * (i : Int)) := by
  simp [marksBool]
theorem marksBool_len (k0 : Int) (n : Nat) : (marksBool k0 n).length = n := by simp [marksBool]



end Go.Proofs.YtgnbhcgagdfaiaaGreatDoor

namespace Go.Proofs.YtgnbhcgagdfaiaaGreatDoor
open Go.RowKit
set_option linter.unusedVariables false

def ints (q : List Nat) : List Int := q.map (fun x : Nat => (x : Int))
theorem ints_len (q : List Nat) : (ints q).length = q.length := List.length_map _
theorem ints_snoc (q : List Nat) (x : Nat) : ints (q ++ [x]) = ints q ++ [(x : Int)] := by unfold ints; rw [List.map_append]; rfl
theorem ints_ok {q : List Nat} (h : ∀ x ∈ q, x ≤ 1000) : ∀ y ∈ ints q, fInt.ok y := fun y hy => by
  unfold ints at hy
  obtain ⟨x, hx, rfl⟩ := List.mem_map.1 hy
  have := h x hx
  show _ ∧ _; omega
theorem ints_get {q : List Nat} {k : Nat} (h : k < q.length) : (ints q)[k]? = some ((q[k] : Nat) : Int) := by
  unfold ints
  rw [List.getElem?_map, List.getElem?_eq_getElem h]; rfl
/-- A number put to its place, once. -/
def putI : List Int → Int → List Int
  | [], n => [n]
  | x :: xs, n => if x < n then x :: putI xs n else if x = n then x :: xs else n :: x :: xs
theorem putI_mem {n y : Int} : ∀ {xs : List Int}, y ∈ putI xs n ↔ y = n ∨ y ∈ xs
  | [] => by simp [putI]
  | x :: xs => by
    have ih := putI_mem (n := n) (y := y) (xs := xs)
    unfold putI
    split
    · rw [List.mem_cons, ih, List.mem_cons]
      constructor
      · rintro (h | h | h) <;> simp [h]
      · rintro (h | h | h) <;> simp [h]
    · split
      · rename_i h1 h2
        rw [List.mem_cons]
        constructor
        · intro h; exact .inr h
        · rintro (h | h)
          · left; rw [h, h2]
          · exact h
      · rw [List.mem_cons]
theorem putI_sorted {n : Int} : ∀ {xs : List Int}, xs.Pairwise (· < ·) → (putI xs n).Pairwise (· < ·)
  | [], _ => by simp [putI]
  | x :: xs, h => by
    rw [List.pairwise_cons] at h
    unfold putI
    split
    · rename_i h1
      rw [List.pairwise_cons]
      refine ⟨fun y hy => ?_, putI_sorted h.2⟩
      rcases putI_mem.1 hy with rfl | hy
      · exact h1
      · exact h.1 y hy
    · split
      · rw [List.pairwise_cons]; exact h
      · rename_i h1 h2
        rw [List.pairwise_cons, List.pairwise_cons]
        refine ⟨fun y hy => ?_, h⟩
        rcases List.mem_cons.1 hy with rfl | hy
        · omega
        · have := h.1 y hy; omega
theorem putI_len {n : Int} : ∀ {xs : List Int}, (putI xs n).length ≤ xs.length + 1
  | [] => by simp [putI]
  | x :: xs => by
    have ih := putI_len (n := n) (xs := xs)
    unfold putI
    split
    · simp only [List.length_cons]; omega
    · split <;> simp only [List.length_cons] <;> omega
/-- What is left to be put from the k-th on. -/
def putR (xs : List Int) (n : Int) (d : Bool) (k : Nat) : List Int := if d then xs.drop k else putI (xs.drop k) n
theorem putR_start (xs : List Int) (n : Int) : putR xs n false 0 = putI xs n := rfl
theorem drop_get {α : Type} {xs : List α} {k : Nat} (h : k < xs.length) : xs.drop k = xs[k] :: xs.drop (k + 1) := List.drop_eq_getElem_cons h
theorem putR_done {xs : List Int} {n : Int} {k : Nat} (h : k < xs.length) : putR xs n true k = xs[k] :: putR xs n true (k + 1) := by
  unfold putR; exact drop_get h
theorem putR_less {xs : List Int} {n : Int} {k : Nat} (h : k < xs.length) (hl : xs[k] < n) : putR xs n false k = xs[k] :: putR xs n false (k + 1) := by
  unfold putR
  show putI (xs.drop k) n = _ :: putI (xs.drop (k + 1)) n
  rw [drop_get h]
  show (if xs[k] < n then _ else _) = _
  rw [if_pos hl]
theorem putR_same {xs : List Int} {n : Int} {k : Nat} (h : k < xs.length) (hl : xs[k] = n) : putR xs n false k = xs[k] :: putR xs n true (k + 1) := by
  unfold putR
  show putI (xs.drop k) n = _ :: (xs.drop (k + 1))
  rw [drop_get h]
  show (if xs[k] < n then _ else if xs[k] = n then _ else _) = _
  rw [if_neg (by omega), if_pos hl]
theorem putR_more {xs : List Int} {n : Int} {k : Nat} (h : k < xs.length) (hl : n < xs[k]) : putR xs n false k = n :: xs[k] :: putR xs n true (k + 1) := by
  unfold putR
  show putI (xs.drop k) n = _ :: _ :: (xs.drop (k + 1))
  rw [drop_get h]
  show (if xs[k] < n then _ else if xs[k] = n then _ else _) = _
  rw [if_neg (by omega), if_neg (by omega)]
theorem putR_end {xs : List Int} {n : Int} {k : Nat} (h : xs.length ≤ k) (d : Bool) : putR xs n d k = if d then [] else [n] := by
  unfold putR
  rw [List.drop_of_length_le h]; cases d <;> rfl
theorem ints_back {L : List Int} (h : ∀ y ∈ L, 0 ≤ y) : ints (L.map Int.toNat) = L := by
  unfold ints
  rw [List.map_map]
  conv => rhs; rw [← List.map_id L]
  exact List.map_congr_left (fun y hy => Int.toNat_of_nonneg (h y hy))
theorem ints_mem {q : List Nat} {x : Nat} : (x : Int) ∈ ints q ↔ x ∈ q := by
  unfold ints
  rw [List.mem_map]
  constructor
  · rintro ⟨y, hy, e⟩
    have : y = x := by omega
    rw [← this]; exact hy
  · intro h; exact ⟨x, h, rfl⟩
theorem ints_pos {q : List Nat} : ∀ y ∈ ints q, 0 ≤ y := fun y hy => by
  unfold ints at hy
  obtain ⟨x, _, rfl⟩ := List.mem_map.1 hy
  exact Int.natCast_nonneg x
theorem ints_sorted {q : List Nat} : (ints q).Pairwise (· < ·) ↔ q.Pairwise (· < ·) := by
  unfold ints
  rw [List.pairwise_map]
  constructor <;> intro h <;> exact h.imp (fun h => by omega)
/-- Put among natural numbers. -/
theorem put_nat (s : List Nat) (x : Nat) : ∃ s' : List Nat, putI (ints s) x = ints s' ∧ (∀ y, y ∈ s' ↔ y = x ∨ y ∈ s) ∧ (s.Pairwise (· < ·) → s'.Pairwise (· < ·)) := by
  have hpos : ∀ y ∈ putI (ints s) x, 0 ≤ y := fun y hy => by
    rcases putI_mem.1 hy with rfl | hy
    · exact Int.natCast_nonneg x
    · exact ints_pos y hy
  have e := ints_back hpos
  refine ⟨_, e.symm, fun y => ?_, fun h => ?_⟩
  · rw [← ints_mem, e, putI_mem, ints_mem]
    constructor
    · rintro (h | h)
      · exact .inl (by omega)
      · exact .inr h
    · rintro (h | h)
      · exact .inl (by omega)
      · exact .inr h
  · rw [← ints_sorted, e]
    exact putI_sorted (ints_sorted.2 h)

def seenL (n : Nat) (f : Nat → Bool) : List Bool := (List.range n).map f
theorem seenL_len (n : Nat) (f : Nat → Bool) : (seenL n f).length = n := by unfold seenL; rw [List.length_map, List.length_range]
theorem seenL_set (n : Nat) (f : Nat → Bool) (k : Nat) : (seenL n f).set k true = seenL n (fun j => f j || decide (j = k)) := by
  unfold seenL
  refine List.ext_getElem (by simp) (fun i h1 h2 => ?_)
  rw [List.getElem_set]
  simp only [List.getElem_map, List.getElem_range]
  by_cases e : k = i
  · rw [if_pos e, decide_eq_true e.symm]; simp
  · rw [if_neg e, decide_eq_false (fun h => e h.symm)]; simp
theorem seenL_congr {n : Nat} {f g : Nat → Bool} (h : ∀ j, j < n → f j = g j) : seenL n f = seenL n g := List.map_congr_left (fun j hj => h j (List.mem_range.1 hj))
theorem seenL_get {n : Nat} {f : Nat → Bool} {k : Nat} (h : k < n) : (seenL n f)[k]? = some (f k) := by
  unfold seenL
  rw [List.getElem?_map, List.getElem?_range h]; rfl
theorem memN_snoc (j k : Nat) (q : List Nat) : memN j (q ++ [k]) = (memN j q || decide (j = k)) := by
  unfold memN
  rw [Bool.eq_iff_iff]
  simp
theorem memN_one (j k : Nat) : memN j [k] = decide (j = k) := by unfold memN; simp
theorem Own.cellBool {w : World} {base : Nat} {e : TypeId} {g n cap : Nat} {L : List Bool} (h : Own fBool w base e (.slice (some ⟨g, 0, none⟩) n cap) L) {k : Nat} {x : Bool} (hx : L[k]? = some x) : w.cell? ⟨g, k, none⟩ = some (.bool x) := by
  obtain ⟨_, _, hn, _⟩ := h.blk
  have h' : w.ownsRow base e 1 (.slice (some ⟨g, 0, none⟩) L.length cap) L.length (L.flatMap fBool.enc) := by rw [hn] at h; exact h
  have hk : k < L.length := by
    rcases Nat.lt_or_ge k L.length with h | h
    · exact h
    · rw [List.getElem?_eq_none h] at hx; cases hx
  rw [h'.cellAt k (by omega)]
  have := flat_get fBool.enc 1 L (fun x _ => fBool.len x) k hk 0 (by omega)
  simp only [Nat.mul_one, Nat.add_zero] at this
  rw [this]
  have e1 : L[k] = x := by rw [List.getElem?_eq_getElem hk] at hx; exact Option.some.inj hx
  rw [e1]; rfl
theorem madeBools (w : World) (base n : Nat) (hb : base ≤ w.heap.size) (hn : n ≤ 1000) : Own fBool (w.alloc (.cells (madeCells #[.bool false] n) 4)) base 4 (.slice (some ⟨w.heap.size, 0, none⟩) n n) (seenL n (fun _ => false)) := by
  have h := World.ownsRow_lit (e := 4) (size := 1) (base := base) w (madeCells #[.bool false] n) n hb (by unfold maxLen; omega) (by rw [size_madeCells, Nat.mul_one])
  have e1 : (madeCells #[Value.bool false] n).toList = (seenL n (fun _ => false)).flatMap fBool.enc := by
    have e2 : (madeCells #[Value.bool false] n).toList = List.replicate n (Value.bool false) := by
      unfold madeCells
      rw [Array.toList_map, Array.toList_range]
      refine List.ext_getElem (by simp) (fun i h1 h2 => ?_)
      simp [Nat.mod_one]
    rw [e2]
    unfold seenL
    clear h hn hb e2
    induction n with
    | zero => rfl
    | succ n ih => rw [List.range_succ, List.map_append, List.flatMap_append, ← ih, List.replicate_succ']; rfl
  unfold Own
  rw [seenL_len, ← e1]
  exact h
/-- The search at work: the groups so far, the marks, the queue, the group that grows. -/
structure GSt (w : World) (base gs n Bq : Nat) (f : Nat → Bool) (vo : Value) (L : List (List Nat)) (V : Nat → Value) (G : Nat → Nat) (vq : Value) (q : List Nat) (vg : Value) (s : List Nat) : Prop where
  out : PgW w base vo L.length V (fun j => ints (L.getD j [])) G
  low : ∀ b, inPg vo L.length G b → b < Bq ∧ b ≠ gs
  seen : Own fBool w base 4 (.slice (some ⟨gs, 0, none⟩) n n) (seenL n f)
  gsl : gs < Bq
  qo : Own fInt w Bq 2 vq (ints q)
  go : Own fInt w Bq 2 vg (ints s)
  ap : ∀ b, vg.ownBlock = some b → vq.ownBlock ≠ some b
section
variable {w w' : World} {base gs n Bq : Nat} {f : Nat → Bool} {vo vq vg : Value} {L : List (List Nat)} {V : Nat → Value} {G : Nat → Nat} {q s : List Nat}
theorem GSt.below (h : GSt w base gs n Bq f vo L V G vq q vg s) (hb : Below w.heap.size w w') : GSt w' base gs n Bq f vo L V G vq q vg s :=
  ⟨h.out.below hb, h.low, h.seen.below hb, h.gsl, h.qo.below hb, h.go.below hb, h.ap⟩
theorem GSt.congr {f' : Nat → Bool} (h : GSt w base gs n Bq f vo L V G vq q vg s) (hf : ∀ j, j < n → f j = f' j) : GSt w base gs n Bq f' vo L V G vq q vg s :=
  ⟨h.out, h.low, by rw [← seenL_congr hf]; exact h.seen, h.gsl, h.qo, h.go, h.ap⟩
theorem GSt.gslt (h : GSt w base gs n Bq f vo L V G vq q vg s) : base ≤ gs ∧ gs < w.heap.size := ⟨h.seen.blk.1, h.seen.blk.2.1⟩
theorem GSt.cellS (h : GSt w base gs n Bq f vo L V G vq q vg s) {k : Nat} (hk : k < n) : w.cell? ⟨gs, k, none⟩ = some (.bool (f k)) := h.seen.cellBool (seenL_get hk)
theorem GSt.frozenS (h : GSt w base gs n Bq f vo L V G vq q vg s) (k : Nat) : w.frozen? ⟨gs, k, none⟩ = false := h.seen.frozenS k
theorem GSt.cellQ {g cap : Nat} (h : GSt w base gs n Bq f vo L V G (.slice (some ⟨g, 0, none⟩) q.length cap) q vg s) {k : Nat} (hk : k < q.length) : w.cell? ⟨g, k, none⟩ = some (.int .i64 ((q[k] : Nat) : Int)) := by
  have := h.qo
  rw [← ints_len q] at this
  exact this.cellI (ints_get hk)
theorem own_kept {α : Type} {E : Flat α} {B : Nat} {e : TypeId} {v : Value} {M : List α} {g j : Nat} {u : Value} (h : Own E w B e v M) (hne : v.ownBlock ≠ some g) : Own E (w.setCell ⟨g, j, none⟩ u) B e v M :=
  own_stays h (fun k hk hkl => ((Only.refl [g] w).set j u).block k hkl (by rw [List.mem_singleton]; intro e; exact hne (by rw [hk, e])))
/-- A mark is set. -/
theorem GSt.mark (h : GSt w base gs n Bq f vo L V G vq q vg s) (k : Nat) : GSt (w.setCell ⟨gs, k, none⟩ (.bool true)) base gs n Bq (fun j => f j || decide (j = k)) vo L V G vq q vg s := by
  have hq : vq.ownBlock ≠ some gs := fun e => by have := (own_at h.qo e).1; have := h.gsl; omega
  have hg : vg.ownBlock ≠ some gs := fun e => by have := (own_at h.go e).1; have := h.gsl; omega
  refine ⟨h.out.setFar (fun hb => (h.low gs hb).2 rfl) k _, h.low, ?_, h.gsl, own_kept h.qo hq, own_kept h.go hg, h.ap⟩
  rw [← seenL_set]
  exact h.seen.set1 rfl k true _ rfl
/-- The queue grows. -/
theorem GSt.add {u : World} {vq' : Value} {x : Nat} (h : GSt w base gs n Bq f vo L V G vq q vg s) (hw : Own fInt u Bq 2 vq' (ints (q ++ [x]))) (hg : w.grownBy u vq.ownBlock) (hl : vq'.ownBlock = vq.ownBlock ∨ ∃ b, vq'.ownBlock = some b ∧ w.heap.size ≤ b) : GSt u base gs n Bq f vo L V G vq' (q ++ [x]) vg s := by
  have hq : ∀ b, vq.ownBlock = some b → Bq ≤ b := fun b e => (own_at h.qo e).1
  have hk : ∀ b, b < Bq → b < w.heap.size → u.heap[b]? = w.heap[b]? := fun b hb hbl => hg.block b hbl (fun e => by have := hq b e.symm; omega)
  refine ⟨h.out.keep (fun b hb => hk b (h.low b hb).1 (h.out.lt hb).2), h.low, own_stays h.seen (fun b hb hbl => ?_), h.gsl, hw, own_stays h.go (fun b hb hbl => hg.block b hbl (fun e => h.ap b hb e.symm)), fun b hb => ?_⟩
  · have e : gs = b := by injection hb
    exact hk b (by have := h.gsl; omega) hbl
  · rcases hl with e | ⟨b', e, hb'⟩
    · rw [e]; exact h.ap b hb
    · rw [e]
      intro e2
      injection e2 with e2
      have := (own_at h.go hb).2
      omega
/-- The group that grows is another one. -/
theorem GSt.put {vg' : Value} {s' : List Nat} (h : GSt w base gs n Bq f vo L V G vq q vg s) (hb : Below w.heap.size w w') (hg : Own fInt w' w.heap.size 2 vg' (ints s')) (hB : Bq ≤ w.heap.size) : GSt w' base gs n Bq f vo L V G vq q vg' s' := by
  have h2 := h.below hb
  refine ⟨h2.out, h2.low, h2.seen, h2.gsl, h2.qo, ?_, fun b hb' e => ?_⟩
  · refine ⟨hg.1, ?_⟩
    rcases hg.2 with h3 | ⟨g, cap, cur, hv, hg', r⟩
    · exact .inl h3
    · exact .inr ⟨g, cap, cur, hv, by omega, r⟩
  · have h4 := (own_at hg hb').1
    have h5 := (own_at h.qo e).2
    omega
end
end Go.Proofs.YtgnbhcgagdfaiaaGreatDoor

namespace Go.Proofs.YtgnbhcgagdfaiaaGreatDoor
open Go.RowKit
section
variable {P : Program} {ops : Array Oper} {Q : Exit → Act → World → Prop} {md : Region.Mode} {C : World → Prop}

def mixF (md : Region.Mode) (ops : Array Oper) (i : Nat) (is1 : List Nat) (ks1 : List Bool) (j : Nat) (is2 : List Nat) (ks2 : List Bool) : List Nat → Array Bool → Bool
  | [], listed => (Region.ready md ops listed == [i, j]) && mixB md ops is1 ks1 (listed.setIfInBounds i true) && mixB md ops is2 ks2 (listed.setIfInBounds j true)
  | p :: ps, listed => (Region.ready md ops listed).contains p && Region.free md ops listed p && ((ops[p]?).map valueOnly).getD false && mixF md ops i is1 ks1 j is2 ks2 ps (listed.setIfInBounds p true)
def wpFork (P : Program) (ops : Array Oper) (Q : Exit → Act → World → Prop) (C : World → Prop) (ks1 : List Bool) (l1 : List Oper) (ks2 : List Bool) (l2 : List Oper) : List Oper → Act → World → Prop
  | [], a, w => wpMix P ops Q C (false :: ks1) l1 a w ∧ wpMix P ops Q C (false :: ks2) l2 a w
  | o :: lp, a, w => if Region.wanted o (yielded ops a.tmps) then o.quiet P a C (fun a' => wpFork P ops Q C ks1 l1 ks2 l2 lp a' w) else wpFork P ops Q C ks1 l1 ks2 l2 lp (a.put o.dst undef) w

theorem wpOp_of_mix (hs : Region.noSelect ops = true) (hQ : ∀ (c : _) (a : Act) (d : Option Tmp) (v : Value) (w : World), Q (.panic c) (a.put d v) w → Q (.panic c) a w)
    {i : Nat} {is : List Nat} {ks : List Bool} {listed : Array Bool} {a : Act} {w : World} (hi : i < ops.size) (his : ∀ x ∈ is, x < ops.size) (hB : mixB md ops is ks (listed.setIfInBounds i true) = true) (hC : C w)
    (h : wpMix P ops Q C (false :: ks) ((i :: is).map fun i => ops.getD i default) a w) :
    wpOp P ops Q i (fun a' w' => C w' ∧ wpAnyH P md ops Q C is.length (listed.setIfInBounds i true) a' w') a w := by
  have ho : ops[i]? = some (ops.getD i default) := by simp [hi]
  have hl : ∀ j : Nat, (is.map fun i => ops.getD i default)[j]? = (is[j]?).bind (fun i => ops[i]?) := fun j => by
    rw [List.getElem?_map]
    cases hj : is[j]? with
    | none => rfl
    | some x => have := his x (List.mem_of_getElem? hj); simp [this]
  rw [List.map_cons] at h
  simp only [wpMix] at h
  unfold wpOp
  simp only [ho]
  by_cases hw : Region.wanted (ops.getD i default) (yielded ops a.tmps) = true
  · rw [if_pos hw] at h ⊢
    exact .inl (Oper.wp_mono (fun a' w' hh => ⟨hh.1, wpAnyH_of_mix hs hQ is ks _ _ a' w' hl (by simp) hB hh.1 hh.2⟩) h)
  · rw [if_neg hw] at h ⊢
    exact ⟨hC, wpAnyH_of_mix hs hQ is ks _ _ _ w hl (by simp) hB hC h⟩

theorem wpAnyH_of_fork (hs : Region.noSelect ops = true) (hQ : ∀ (c : _) (a : Act) (d : Option Tmp) (v : Value) (w : World), Q (.panic c) (a.put d v) w → Q (.panic c) a w)
    {i : Nat} {is1 : List Nat} {ks1 : List Bool} {j : Nat} {is2 : List Nat} {ks2 : List Bool} (hi : i < ops.size) (hj : j < ops.size) (h1 : ∀ x ∈ is1, x < ops.size) (h2 : ∀ x ∈ is2, x < ops.size) (hlen : is1.length = is2.length) :
    ∀ (ps : List Nat) (listed : Array Bool) (a : Act) (w : World), (∀ x ∈ ps, x < ops.size) → mixF md ops i is1 ks1 j is2 ks2 ps listed = true → C w →
      wpFork P ops Q C ks1 ((i :: is1).map fun i => ops.getD i default) ks2 ((j :: is2).map fun i => ops.getD i default) (ps.map fun i => ops.getD i default) a w → wpAnyH P md ops Q C (ps.length + (is1.length + 1)) listed a w := by
  intro ps
  induction ps with
  | nil =>
    intro listed a w _ hB hC h
    simp only [mixF, Bool.and_eq_true, beq_iff_eq] at hB
    obtain ⟨⟨hr, hb1⟩, hb2⟩ := hB
    simp only [List.map_nil, wpFork] at h
    rw [List.length_nil, Nat.zero_add]
    refine wpAnyH_all hr (by simp) (fun x hx => ?_)
    rcases List.mem_cons.1 hx with rfl | hx
    · exact wpOp_of_mix hs hQ hi h1 hb1 hC h.1
    · rw [List.mem_singleton] at hx; subst hx
      rw [hlen]
      exact wpOp_of_mix hs hQ hj h2 hb2 hC h.2
  | cons p ps ih =>
    intro listed a w hps hB hC h
    have hp : p < ops.size := hps p (by simp)
    have ho : ops[p]? = some (ops.getD p default) := by simp [hp]
    simp only [mixF, Bool.and_eq_true, ho, Option.map_some, Option.getD_some] at hB
    obtain ⟨⟨⟨hr, hf⟩, hv⟩, hB'⟩ := hB
    rw [show ((p :: ps).map fun i => ops.getD i default) = ops.getD p default :: ps.map (fun i => ops.getD i default) from rfl] at h
    simp only [wpFork] at h
    rw [List.length_cons, show ps.length + 1 + (is1.length + 1) = (ps.length + (is1.length + 1)) + 1 by omega]
    by_cases hw : Region.wanted (ops.getD p default) (yielded ops a.tmps) = true
    · rw [if_pos hw] at h
      obtain ⟨v, q1, q2⟩ := yieldsIf_of_quiet hv h
      exact wpAnyH_take ho hs hf hr (fun c a w => hQ c a _ _ w) (.inl ⟨hw, q1⟩) hC (ih _ _ w (fun x hx => hps x (by simp [hx])) hB' hC q2)
    · rw [if_neg hw] at h
      exact wpAnyH_take ho hs hf hr (fun c a w => hQ c a _ _ w) (.inr ⟨by simpa using hw, rfl⟩) hC (ih _ _ w (fun x hx => hps x (by simp [hx])) hB' hC h)

structure Fork (P : Program) (ops : Array Oper) (Q : Exit → Act → World → Prop) (C : World → Prop) (ks1 : List Bool) (l1 : List Oper) (ks2 : List Bool) (l2 : List Oper) (lp : List Oper) (a : Act) (w : World) : Prop where
  out : wpFork P ops Q C ks1 l1 ks2 l2 lp a w
theorem wp_region_fork {id : Nat} {l : List Oper} {a : Act} {w : World} (ps : List Nat) (i : Nat) (is1 : List Nat) (ks1 : List Bool) (j : Nat) (is2 : List Nat) (ks2 : List Bool) (hm : P.follows .mixedOrders = true) (hs : Region.noSelect l.toArray = true)
    (hB : (((i :: j :: (ps ++ is1 ++ is2)).all (fun x => decide (x < l.length))) && decide (is1.length = is2.length) && decide (ps.length + (is1.length + 1) = l.length) && mixF .any l.toArray i is1 ks1 j is2 ks2 ps (Array.replicate l.length false)) = true)
    (hQ : ∀ (c : _) (a : Act) (d : Option Tmp) (v : Value) (w : World), Q (.panic c) (a.put d v) w → Q (.panic c) a w) (hC : C w.drew)
    (h : Fork P l.toArray Q C ks1 ((i :: is1).map fun i => l.getD i default) ks2 ((j :: is2).map fun i => l.getD i default) (ps.map fun i => l.getD i default) a w.drew) : (Code.region id l.toArray true).wp P Q a w := by
  simp only [Bool.and_eq_true, decide_eq_true_eq, List.all_eq_true] at hB
  obtain ⟨⟨⟨h1, h2⟩, h3⟩, h4⟩ := hB
  refine wp_region_held (S := C) hm ?_
  have hg : (fun i => l.toArray.getD i default) = (fun i => l.getD i default) := by funext x; simp [Array.getD_eq_getD_getElem?, List.getD_eq_getElem?_getD]
  have := wpAnyH_of_fork (md := .any) (ops := l.toArray) hs hQ (i := i) (is1 := is1) (ks1 := ks1) (j := j) (is2 := is2) (ks2 := ks2) (by simpa using h1 i (by simp)) (by simpa using h1 j (by simp))
    (fun x hx => by simpa using h1 x (by simp [hx])) (fun x hx => by simpa using h1 x (by simp [hx])) h2 ps (Array.replicate l.length false) a w.drew (fun x hx => by simpa using h1 x (by simp [hx])) h4 hC (by rw [hg]; exact h.out)
  rw [h3] at this
  simpa using this
theorem wpFork_pure {ks1 ks2 : List Bool} {l1 l2 : List Oper} {o : Oper} {l : List Oper} {a : Act} {w : World} (hw : Region.wanted o (yielded ops a.tmps) = true)
    (h : ∀ K : Act → Prop, (∀ a', Fork P ops Q C ks1 l1 ks2 l2 l a' w → K a') → o.quiet P a C K) : Fork P ops Q C ks1 l1 ks2 l2 (o :: l) a w := by
  refine ⟨?_⟩
  simp only [wpFork]; rw [if_pos hw]; exact h _ fun _ h => h.out
theorem wpFork_split {ks1 ks2 : List Bool} {l1 l2 : List Oper} {a : Act} {w : World} (h1 : Mix P ops Q C (false :: ks1) l1 a w) (h2 : Mix P ops Q C (false :: ks2) l2 a w) : Fork P ops Q C ks1 l1 ks2 l2 [] a w := ⟨⟨h1.out, h2.out⟩⟩
end
end Go.Proofs.YtgnbhcgagdfaiaaGreatDoor

namespace Go.Proofs.YtgnbhcgagdfaiaaGreatDoor
open Go.RowKit
set_option linter.unusedVariables false

/-- A row of the call's own that holds the list. -/
def OwnK {α : Type} (E : Flat α) (T : TypeId) (w : World) (xs : List α) (e : Ending) (w' : World) : Prop := ∃ v, e = .returned v ∧ Own E w' w.heap.size T v xs ∧ Below w.heap.size w w'
theorem rowp_ {cur A B : List Value} {n p j : Nat} {u : Value} (hct : cur.take n = A ++ B) (hA : A.length = p) (hu : B[j]? = some u) : cur[p + j]? = some u := by
  have hj : p + j < n := by
    have h1 : (A ++ B).length ≤ n := by rw [← hct, List.length_take]; omega
    rw [List.length_append] at h1
    have h2 : j < B.length := by
      rcases Nat.lt_or_ge j B.length with h | h
      · exact h
      · rw [List.getElem?_eq_none h] at hu; cases hu
    omega
  have h := congrArg (fun l : List Value => l[p + j]?) hct
  simp only [List.getElem?_take, if_pos hj] at h
  rw [h, List.getElem?_append_right (by omega), hA, Nat.add_sub_cancel_left]
  exact hu
theorem arr3_ (A : List Value) (X Y : Array Value) : (A ++ (X.toList ++ Y.toList)).toArray = A.toArray ++ X ++ Y := by
  apply Array.ext'; simp
theorem rowh_ {cur A B : List Value} {n j : Nat} {u : Value} (hct : cur.take n = A ++ B) (hu : A[j]? = some u) : cur[j]? = some u := by
  have h2 : j < A.length := by
    rcases Nat.lt_or_ge j A.length with h | h
    · exact h
    · rw [List.getElem?_eq_none h] at hu; cases hu
  have hj : j < n := by
    have h1 : (A ++ B).length ≤ n := by rw [← hct, List.length_take]; omega
    rw [List.length_append] at h1
    omega
  have h := congrArg (fun l : List Value => l[j]?) hct
  simp only [List.getElem?_take, if_pos hj] at h
  rw [h, List.getElem?_append_left h2]
  exact hu
theorem ownM_ {w : World} {base base' : Nat} {e : TypeId} {size : Nat} {v : Value} {n : Nat} {xs : List Value} (h : w.ownsRow base e size v n xs) (hb : base' ≤ base) : w.ownsRow base' e size v n xs := by
  obtain ⟨h1, h2⟩ := h
  refine ⟨h1, ?_⟩
  rcases h2 with h2 | ⟨g, cap, cur, hv, hg, r⟩
  · exact .inl h2
  · exact .inr ⟨g, cap, cur, hv, by omega, r⟩
theorem ownO_ {w : World} {base : Nat} {e : TypeId} {size : Nat} {v : Value} {n : Nat} {xs : List Value} (h : w.ownsRow base e size v n xs) (hn : 0 < n) :
    ∃ g cap, v = .slice (some ⟨g, 0, none⟩) n cap ∧ base ≤ g ∧ g < w.heap.size ∧ n ≤ cap ∧ cap ≤ 9223372036854775807 := by
  obtain ⟨h1, h2⟩ := h
  rcases h2 with ⟨_, h0⟩ | ⟨g, cap, cur, hv, hg, hh, hnc, hcm, _, _⟩
  · omega
  · refine ⟨g, cap, hv, hg, ?_, hnc, by unfold maxLen at hcm; exact hcm⟩
    rcases Nat.lt_or_ge g w.heap.size with hlt | hge
    · exact hlt
    · rw [Array.getElem?_eq_none hge] at hh; cases hh
/-- How many stand ahead. -/
def posF {α : Type} (p : α → Bool) (xs : List α) : Nat := (xs.takeWhile p).length
theorem posF_is {α : Type} (p : α → Bool) (xs : List α) (k : Nat) (hk : k ≤ xs.length) (h1 : ∀ m (h : m < xs.length), m < k → p xs[m] = true) (h2 : ∀ h : k < xs.length, p xs[k] = false) : posF p xs = k := by
  unfold posF
  induction xs generalizing k with
  | nil => simp at hk; subst hk; rfl
  | cons x xs ih =>
    cases k with
    | zero =>
      have := h2 (by simp)
      rw [List.takeWhile_cons, show p x = false from this]; rfl
    | succ k =>
      have h3 : p x = true := h1 0 (by simp) (by omega)
      rw [List.takeWhile_cons, h3, if_pos rfl, List.length_cons]
      congr 1
      refine ih k (by simpa using hk) (fun m h hm => ?_) (fun h => ?_)
      · have := h1 (m + 1) (by simpa using h) (by omega); simpa using this
      · have := h2 (by simpa using h); simpa using this
theorem posF_le {α : Type} (p : α → Bool) (xs : List α) : posF p xs ≤ xs.length := by
  unfold posF
  exact (List.takeWhile_prefix p).length_le
end Go.Proofs.YtgnbhcgagdfaiaaGreatDoor

namespace Go.Proofs.YtgnbhcgagdfaiaaGreatDoor
open Go.RowKit
set_option linter.unusedVariables false

theorem infoIntP : (Tryz.prog.info? 2).map (fun i => (i.zero, i.size, i.bytes)) = some (some (.int .i64 0), 1, 8) := by kernel_rfl
set_option maxRecDepth 100000 in
set_option maxHeartbeats 8000000 in
theorem l00Put_any (v : Value) (xs : List Int) (fp : List Nat) (n : Int) (w : World) (hx : Sl fInt.cod w v xs fp) (hl : xs.length ≤ 1000000) :
    Calls Tryz.prog 63 #[v, .int .i64 n] w fun e w' => ∃ v', e = .returned v' ∧ Own fInt w' w.heap.size 2 v' (putI xs n) ∧ Below w.heap.size w w' := by
  obtain ⟨A, cap, rfl, hlen, hcap⟩ := hx.form
  obtain ⟨j0, hj, hy0, hy1, hy2⟩ := info_parts infoIntP
  have hB0 : Below w.heap.size w (w.alloc (.cells #[] 2)) := (Below.refl _ _).alloc (Nat.le_refl _) _
  go_enter Tryz.func63, Tryz.ntmps63
  go_wp2
  go_loopw [5, 6, 7] (fun a b c wr => ∃ (k : Nat) (L : List Int) (d : Bool), k ≤ xs.length ∧ L.length ≤ (if d then k + 1 else k) ∧ c = .int .i64 k ∧ b = .bool d ∧ Own fInt wr w.heap.size 2 a L ∧ Hid (putI xs n = L ++ putR xs n d k) ∧ Below w.heap.size w wr) (fun _ _ c _ => xs.length - (intOf c).toNat)
  case atStart => exact ⟨0, [], false, Nat.zero_le _, Nat.le_refl _, rfl, rfl, Own.lit0 fInt w _, rfl, hB0⟩
  case round =>
    clear hB0
    obtain ⟨k, L, d, hk, hL, rfl, rfl, ho, HP, hb⟩ := hrel
    have hLk : L.length ≤ k + 1 := by revert hL; cases d <;> simp <;> omega
    have hsz := hb.size
    by_cases hlt : k < xs.length
    · obtain ⟨b, off, rfl, hbf, _, hc, _⟩ := (hx.below' hb).cell1 rfl hlt rfl
      have hbw : b < w.heap.size := hx.lt b hbf
      cases d
      · replace hL : L.length ≤ k := hL
        by_cases h1 : xs[k] < n
        · have HP2 : Hid (putI xs n = (L ++ [xs[k]]) ++ putR xs n false (k + 1)) := by show _ = _; rw [HP.out, putR_less hlt h1]; simp
          have hoW : wr.ownsRow w.heap.size 2 1 u5 L.length (L.flatMap fInt.enc) := ho
          clear HP ho
          go_wp2_with (at_builtin; refine wpList_append_one rfl _ _ 46 rfl w.heap.size 2 j0 (.int .i64 0) 1 8 Tryz.underlying46 hj hy0 hy1 hy2 rfl (by decide) u5 L.length _ rfl hoW [.int .i64 xs[k]] rfl (by intro u hu; rw [List.mem_singleton] at hu; subst hu; rfl) rfl (by omega) (by decide) hsz ?_)
          intro v' u hown hbu hgr hul
          have hoD : Own fInt u w.heap.size 2 v' (L ++ [xs[k]]) := Own.push _ (by omega) hown
          have hb2 := hb.trans hbu
          clear hown
          go_wp2
          go_roundw
          case rel => exact ⟨k + 1, _, false, by omega, by show _ ≤ k + 1; rw [List.length_append, List.length_singleton]; omega, by go_num, rfl, hoD, HP2, hb2⟩
          case measure => simp [intOf]; omega
        · by_cases h2 : xs[k] = n
          · have HP2 : Hid (putI xs n = (L ++ [xs[k]]) ++ putR xs n true (k + 1)) := by show _ = _; rw [HP.out, putR_same hlt h2]; simp
            have e1 : decide (n ≤ xs[k]) = true := decide_eq_true (by omega)
            have e2 : decide (n < xs[k]) = false := decide_eq_false (by omega)
            have hoW : wr.ownsRow w.heap.size 2 1 u5 L.length (L.flatMap fInt.enc) := ho
            clear HP ho h2
            go_wp2_with (at_builtin; refine wpList_append_one rfl _ _ 46 rfl w.heap.size 2 j0 (.int .i64 0) 1 8 Tryz.underlying46 hj hy0 hy1 hy2 rfl (by decide) u5 L.length _ rfl hoW [.int .i64 xs[k]] rfl (by intro u hu; rw [List.mem_singleton] at hu; subst hu; rfl) rfl (by omega) (by decide) hsz ?_)
            intro v' u hown hbu hgr hul
            have hoD : Own fInt u w.heap.size 2 v' (L ++ [xs[k]]) := Own.push _ (by omega) hown
            have hb2 := hb.trans hbu
            clear hown
            go_wp2
            go_roundw
            case rel => exact ⟨k + 1, _, true, by omega, by show _ ≤ k + 1 + 1; rw [List.length_append, List.length_singleton]; omega, by go_num, rfl, hoD, HP2, hb2⟩
            case measure => simp [intOf]; omega
          · have HP2 : Hid (putI xs n = (L ++ [n] ++ [xs[k]]) ++ putR xs n true (k + 1)) := by show _ = _; rw [HP.out, putR_more hlt (by omega)]; simp
            have e1 : decide (n ≤ xs[k]) = true := decide_eq_true (by omega)
            have e2 : decide (n < xs[k]) = true := decide_eq_true (by omega)
            have hoW : wr.ownsRow w.heap.size 2 1 u5 L.length (L.flatMap fInt.enc) := ho
            clear HP ho h2
            go_wp2_with (at_builtin; refine wpList_append_one rfl _ _ 46 rfl w.heap.size 2 j0 (.int .i64 0) 1 8 Tryz.underlying46 hj hy0 hy1 hy2 rfl (by decide) u5 L.length _ rfl hoW [.int .i64 n] rfl (by intro u hu; rw [List.mem_singleton] at hu; subst hu; rfl) rfl (by omega) (by decide) hsz ?_)
            intro v' u hown hbu hgr hul
            have hoD : Own fInt u w.heap.size 2 v' (L ++ [n]) := Own.push _ (by omega) hown
            have hb2 := hb.trans hbu
            have hc3 : u.cell? ⟨b, off + k, none⟩ = some (.int .i64 xs[k]) := (hbu.cell (p := ⟨b, off + k, none⟩) hbw).trans hc
            have hL1 : (L ++ [n]).length ≤ k + 1 := by rw [List.length_append, List.length_singleton]; omega
            have hsz2 := hb2.size
            generalize L ++ [n] = M at *
            have hoW : u.ownsRow w.heap.size 2 1 v' M.length (M.flatMap fInt.enc) := hoD
            clear hown hoD hul hgr
            go_wp2_with (at_builtin; refine wpList_append_one rfl _ _ 46 rfl w.heap.size 2 j0 (.int .i64 0) 1 8 Tryz.underlying46 hj hy0 hy1 hy2 rfl (by decide) v' M.length _ rfl hoW [.int .i64 xs[k]] rfl (by intro u hu; rw [List.mem_singleton] at hu; subst hu; rfl) rfl (by omega) (by decide) hsz2 ?_)
            intro v2 u2 hown hbu2 hgr hul
            have hoD : Own fInt u2 w.heap.size 2 v2 (M ++ [xs[k]]) := Own.push _ (by omega) hown
            have hb3 := hb2.trans hbu2
            clear hown
            go_wp2
            go_roundw
            case rel => exact ⟨k + 1, _, true, by omega, by show _ ≤ k + 1 + 1; rw [List.length_append, List.length_singleton]; omega, by go_num, rfl, hoD, HP2, hb3⟩
            case measure => simp [intOf]; omega
      · have HP2 : Hid (putI xs n = (L ++ [xs[k]]) ++ putR xs n true (k + 1)) := by show _ = _; rw [HP.out, putR_done hlt]; simp
        have hoW : wr.ownsRow w.heap.size 2 1 u5 L.length (L.flatMap fInt.enc) := ho
        clear HP ho
        go_wp2_with (at_builtin; refine wpList_append_one rfl _ _ 46 rfl w.heap.size 2 j0 (.int .i64 0) 1 8 Tryz.underlying46 hj hy0 hy1 hy2 rfl (by decide) u5 L.length _ rfl hoW [.int .i64 xs[k]] rfl (by intro u hu; rw [List.mem_singleton] at hu; subst hu; rfl) rfl (by omega) (by decide) hsz ?_)
        intro v' u hown hbu hgr hul
        have hoD : Own fInt u w.heap.size 2 v' (L ++ [xs[k]]) := Own.push _ (by omega) hown
        have hb2 := hb.trans hbu
        clear hown
        go_wp2
        go_roundw
        case rel => exact ⟨k + 1, _, true, by omega, by show _ ≤ k + 1 + 1; rw [List.length_append, List.length_singleton]; omega, by go_num, rfl, hoD, HP2, hb2⟩
        case measure => simp [intOf]; omega
    · rw [putR_end (by omega)] at HP
      cases d
      · have hoW : wr.ownsRow w.heap.size 2 1 u5 L.length (L.flatMap fInt.enc) := ho
        clear ho
        go_wp2_with (at_builtin; refine wpList_append_one rfl _ _ 46 rfl w.heap.size 2 j0 (.int .i64 0) 1 8 Tryz.underlying46 hj hy0 hy1 hy2 rfl (by decide) u5 L.length _ rfl hoW [.int .i64 n] rfl (by intro u hu; rw [List.mem_singleton] at hu; subst hu; rfl) rfl (by omega) (by decide) hsz ?_)
        intro v' u hown hbu hgr hul
        have hoD : Own fInt u w.heap.size 2 v' (L ++ [n]) := Own.push _ (by omega) hown
        have hb2 := hb.trans hbu
        clear hown
        go_wp2
        go_ret
        exact ⟨_, rfl, by rw [HP.out]; exact hoD, hb2⟩
      · obtain ⟨A9, c9, rfl⟩ := ho.form
        go_wp2
        go_ret
        exact ⟨_, rfl, by have h9 := HP.out; simp at h9; rw [h9]; exact ho, hb⟩
set_option maxRecDepth 100000 in
set_option maxHeartbeats 4000000 in
theorem l18Levels_any (v : Value) (xs : List DRegion) (fp : List Nat) (w : World) (hx : Sl cRegion w v xs fp) (hl : xs.length ≤ 1000) :
    Calls Tryz.prog 29 #[v] w fun e w' => ∃ v', e = .returned v' ∧ Own fInt w' w.heap.size 2 v' (xs.map (·.level)) ∧ Below w.heap.size w w' := by
  obtain ⟨A, cap, rfl, hlen, hcap⟩ := hx.form
  obtain ⟨j0, hj, hy0, hy1, hy2⟩ := info_parts infoIntP
  have hB0 : Below w.heap.size w (w.alloc (.cells #[] 2)) := (Below.refl _ _).alloc (Nat.le_refl _) _
  go_enter Tryz.func29, Tryz.ntmps29
  go_wp2
  go_loopw [3, 4] (fun a c wr => ∃ k : Nat, k ≤ xs.length ∧ c = .int .i64 k ∧ Own fInt wr w.heap.size 2 a ((xs.take k).map (·.level)) ∧ Below w.heap.size w wr) (fun _ c _ => xs.length - (intOf c).toNat)
  case atStart => exact ⟨0, Nat.zero_le _, rfl, Own.lit0 fInt w _, hB0⟩
  case round =>
    clear hB0
    obtain ⟨k, hk, rfl, ho, hb⟩ := hrel
    have hsz := hb.size
    by_cases hlt : k < xs.length
    · obtain ⟨b, off, vk, fk, rfl, _, c1, _⟩ := (hx.below' hb).reg hlt
      have HT : Hid ((xs.take (k + 1)).map (·.level) = (xs.take k).map (·.level) ++ [xs[k].level]) := by show _ = _; rw [List.take_succ_eq_append_getElem hlt, List.map_append]; rfl
      have hlk : ((xs.take k).map (·.level)).length = k := by rw [List.length_map, List.length_take]; omega
      generalize hL : (xs.take k).map (·.level) = L at *
      have hoW : wr.ownsRow w.heap.size 2 1 u3 k (L.flatMap fInt.enc) := by rw [← hlk]; exact ho
      have HLK := Lib.hid hlk
      clear ho hL hlk
      go_wp2_with (at_builtin; refine wpList_append_one rfl _ _ 46 rfl w.heap.size 2 j0 (.int .i64 0) 1 8 Tryz.underlying46 hj hy0 hy1 hy2 rfl (by decide) u3 k _ rfl hoW [.int .i64 xs[k].level] rfl (by intro u hu; rw [List.mem_singleton] at hu; subst hu; rfl) rfl (by omega) (by decide) hsz ?_)
      intro v' u hown hbu hgr hul
      have hoD : Own fInt u w.heap.size 2 v' (L ++ [xs[k].level]) := Own.push _ (by rw [HLK.out]) hown
      have hb2 := hb.trans hbu
      clear hown
      go_wp2
      go_roundw
      case rel => exact ⟨k + 1, by omega, by go_num, by rw [HT.out]; exact hoD, hb2⟩
      case measure => simp [intOf]; omega
    · have HT : Hid ((xs.take k).map (·.level) = xs.map (·.level)) := by show _ = _; rw [List.take_of_length_le (by omega)]
      have hlk : ((xs.take k).map (·.level)).length = k := by rw [List.length_map, List.length_take]; omega
      obtain ⟨A9, c9, rfl⟩ := ho.form
      generalize (xs.take k).map (·.level) = L at *
      rw [hlk] at ho ⊢
      clear hlk
      go_wp2
      go_ret
      exact ⟨_, rfl, by rw [← HT.out]; exact ho, hb⟩
def GrR (xs : List DRegion) (w : World) (e : Ending) (w' : World) : Prop := ∃ v' fq, e = .returned v' ∧ Sl fInt.cod.slice w' v' ((groupsL xs.length (adjR xs) xs.length).map ints) fq ∧ (∀ b ∈ fq, w.heap.size ≤ b) ∧ Below w.heap.size w w'
theorem infoRowP : (Tryz.prog.info? 46).map (fun i => (i.zero, i.size, i.bytes)) = some (some (.slice none 0 0), 1, 24) := by kernel_rfl
theorem infoBoolP : (Tryz.prog.info? 4).map (fun i => (i.zero, i.size, i.bytes)) = some (some (.bool false), 1, 1) := by kernel_rfl
theorem grp_ok {n : Nat} {adj : Nat → Nat → Bool} {k : Nat} (hn : n ≤ 1000) {i : Nat} : ∀ x ∈ (groupsL n adj k).getD i [], x ≤ 1000 := fun x hx => by
  rw [List.getD_eq_getElem?_getD] at hx
  rcases Nat.lt_or_ge i (groupsL n adj k).length with h | h
  · rw [List.getElem?_eq_getElem h] at hx
    obtain ⟨r, _, e⟩ := List.mem_map.1 (show (groupsL n adj k)[i] ∈ ((List.range k).filter (fun i => !seenB adj i i)).map (compL n adj) from List.getElem_mem h)
    replace hx : x ∈ (groupsL n adj k)[i] := hx
    rw [← e] at hx
    have := (compL_mem.1 hx).1
    omega
  · rw [List.getElem?_eq_none h] at hx
    cases hx
theorem mapGet {L : List (List Nat)} : L.map ints = (List.range L.length).map (fun j => ints (L.getD j [])) := by
  refine List.ext_getElem (by simp) (fun i h1 h2 => ?_)
  simp only [List.length_map] at h1
  simp [List.getD_eq_getElem?_getD, h1]
/-- One group more. -/
theorem getD_snoc {L : List (List Nat)} {c : List Nat} {i : Nat} (hi : i < L.length + 1) : (if i = L.length then ints c else ints (L.getD i [])) = ints ((L ++ [c]).getD i []) := by
  rcases Nat.lt_or_eq_of_le (Nat.le_of_lt_succ hi) with h | rfl
  · rw [if_neg (by omega)]
    simp [List.getD_eq_getElem?_getD, List.getElem?_append_left h]
  · rw [if_pos rfl]
    simp
set_option maxRecDepth 100000 in
set_option maxHeartbeats 8000000 in
theorem l18Groups_any (v : Value) (xs : List DRegion) (fp : List Nat) (v2 : Value) (fp2 : List Nat) (w : World) (hx : Sl cRegion w v xs fp) (hx2 : Sl fInt.cod w v2 (xs.map (·.level)) fp2) (hv : regionsB xs = true) :
    Calls Tryz.prog 28 #[v, v2] w fun e w' => GrR xs w e w' := by
  obtain ⟨A, cap, rfl, hlen, hcap⟩ := hx.form
  obtain ⟨A2, cap2, rfl, hlen2, hcap2⟩ := hx2.form
  obtain ⟨j0, hj, hy0, hy1, hy2⟩ := info_parts infoIntP
  obtain ⟨i0, hi, hz0, hz1, hz2⟩ := info_parts infoRowP
  obtain ⟨k0, hk0, hb0', hb1', hb2'⟩ := info_parts infoBoolP
  have hn8 := regs_len hv
  have hmk : ∀ W : World, (Instr.makeSlice 97 (.int .i64 (xs.length : Nat)) (.int .i64 (xs.length : Nat))).run Tryz.prog W = .ok (.slice (some ⟨W.heap.size, 0, none⟩) xs.length xs.length) (W.alloc (.cells (madeCells #[Value.bool false] xs.length) 4)) := fun W => by
    have h := run_make_rowN (P := Tryz.prog) 97 4 k0 _ Tryz.underlying97 hk0 hb0' .i64 .i64 xs.length xs.length (Nat.le_refl _) (by rw [hb2']; omega) (by omega) W
    rw [hb1', Nat.mul_one] at h
    exact h
  have hg := adjR_graph hv
  have HV := Lib.hid hv
  have hlm : (xs.map (·.level)).length = xs.length := List.length_map _
  rw [hlm] at hx2 hlen2 ⊢
  have hB0 : Below w.heap.size w (w.alloc (.cells #[] 46)) := (Below.refl _ _).alloc (Nat.le_refl _) _
  have hB1 : Below w.heap.size w ((w.alloc (.cells #[] 46)).alloc (.cells (madeCells #[Value.bool false] xs.length) 4)) := hB0.alloc hB0.size _
  have hS0 : Own fBool ((w.alloc (.cells #[] 46)).alloc (.cells (madeCells #[Value.bool false] xs.length) 4)) w.heap.size 4 (.slice (some ⟨w.heap.size + 1, 0, none⟩) xs.length xs.length) (seenL xs.length (fun _ => false)) := by
    have h := madeBools (w.alloc (.cells #[] 46)) w.heap.size xs.length hB0.size (by omega)
    rw [World.size_alloc] at h; exact h
  have hP0 : PgW ((w.alloc (.cells #[] 46)).alloc (.cells (madeCells #[Value.bool false] xs.length) 4)) w.heap.size (.slice (some ⟨w.heap.size, 0, none⟩) 0 0) 0 (fun _ => undef) (fun _ => []) (fun _ => 0) :=
    PgW.nil (c := 0) (show World.ownsRow _ w.heap.size 46 1 _ 0 [] from (Own.lit0 fInt w 46).below ((Below.refl _ _).alloc (Nat.le_refl _) _))
  obtain ⟨n, hn⟩ : ∃ n, n = xs.length := ⟨_, rfl⟩
  clear hk0 hb0' hb1' hb2' hB0
  go_enter Tryz.func28, Tryz.ntmps28
  go_wp2
  generalize hgs : w.heap.size + 1 = gs at *
  go_loopw [5, 7] (fun vo c wr => ∃ (i : Nat) (V : Nat → Value) (G : Nat → Nat), i ≤ xs.length ∧ c = .int .i64 i ∧ PgW wr w.heap.size vo (groupsL xs.length (adjR xs) i).length V (fun j => ints ((groupsL xs.length (adjR xs) i).getD j [])) G ∧ (∀ b, inPg vo (groupsL xs.length (adjR xs) i).length G b → b ≠ gs) ∧ Own fBool wr w.heap.size 4 (.slice (some ⟨gs, 0, none⟩) xs.length xs.length) (seenL xs.length (seenB (adjR xs) i)) ∧ Below w.heap.size w wr) (fun _ c _ => xs.length - (intOf c).toNat)
  case atStart =>
    refine ⟨0, _, _, Nat.zero_le _, rfl, hP0.congr (fun i hi => absurd hi (Nat.not_lt_zero _)), fun b hb => ?_, hS0, hB1⟩
    rcases hb with hb | ⟨i, hi, _⟩
    · have hb : w.heap.size = b := by injection hb
      omega
    · exact absurd hi (Nat.not_lt_zero _)
  case round => as_aux_lemma =>
    clear hS0 hP0 hB1
    obtain ⟨i, V, G, hi1, rfl, hpg, hne, hse, hb⟩ := hrel
    rename World => wo
    by_cases hlt : i < xs.length
    rotate_left
    · obtain rfl : i = xs.length := by omega
      obtain ⟨fq, h1, h2, _⟩ := hpg.sl (xss := (groupsL xs.length (adjR xs) xs.length).map ints) mapGet (fun i _ => ints_ok (grp_ok (by omega)))
      obtain ⟨A5, c5, rfl⟩ := hpg.form
      clear hpg hse hne
      go_wp2
      go_ret
      exact ⟨_, fq, rfl, h1, h2, hb⟩
    have hlti : (i : Int) < (xs.length : Int) := by omega
    have cs := hse.cellBool (seenL_get (f := seenB (adjR xs) i) hlt)
    have zs := hse.frozenS i
    cases hsi : seenB (adjR xs) i i
    rotate_left
    · rw [hsi] at cs
      have HG := Lib.hid (groupsL_skip (n := xs.length) hsi)
      have HS : Hid (seenL xs.length (seenB (adjR xs) i) = seenL xs.length (seenB (adjR xs) (i + 1))) := seenL_congr (fun j _ => (seenB_skip hg hsi j).symm)
      clear hsi
      go_wp2
      go_roundw
      case rel => exact ⟨i + 1, V, G, by omega, by go_num, by rw [HG.out]; exact hpg, by rw [HG.out]; exact hne, by rw [← HS.out]; exact hse, hb⟩
      case measure => simp [intOf]; omega
    rw [hsi] at cs
    have hgsl := hse.blk.2.1
    have hgsb := hse.blk.1
    have hG0 : GSt wo w.heap.size gs xs.length wo.heap.size (seenB (adjR xs) i) u5 (groupsL xs.length (adjR xs) i) V G (.slice none 0 0) [] (.slice none 0 0) [] :=
      ⟨hpg, fun b hb => ⟨(hpg.lt hb).2, hne b hb⟩, hse, hgsl, Own.nil _ _ _ _, Own.nil _ _ _ _, fun b hb => by cases hb⟩
    have hG1 := (((hG0.mark i).below ((Below.refl _ _).alloc (Nat.le_refl _) (.cells #[.int .i64 i] 2))).below ((Below.refl _ _).alloc (Nat.le_refl _) (.cells #[] 2))).congr (f' := fun j => seenB (adjR xs) i j || memN j [i]) (fun j _ => by rw [memN_one])
    have hszS : (wo.setCell ⟨gs, i, none⟩ (.bool true)).heap.size = wo.heap.size := World.size_setCell _ _ _
    have hq1 : Own fInt (((wo.setCell ⟨gs, i, none⟩ (.bool true)).alloc (.cells #[.int .i64 i] 2)).alloc (.cells #[] 2)) wo.heap.size 2 (.slice (some ⟨wo.heap.size, 0, none⟩) 1 1) (ints [i]) := by
      have h := World.ownsRow_lit (e := 2) (size := 1) (base := wo.heap.size) (wo.setCell ⟨gs, i, none⟩ (.bool true)) #[.int .i64 i] 1 (by rw [hszS]; exact Nat.le_refl _) (by decide) rfl
      rw [hszS] at h
      exact World.ownsRow.alloc h _
    have hg1 : Own fInt (((wo.setCell ⟨gs, i, none⟩ (.bool true)).alloc (.cells #[.int .i64 i] 2)).alloc (.cells #[] 2)) wo.heap.size 2 (.slice (some ⟨wo.heap.size + 1, 0, none⟩) 0 0) (ints []) := by
      have h := Own.lit0m fInt (w := (wo.setCell ⟨gs, i, none⟩ (.bool true)).alloc (.cells #[.int .i64 i] 2)) (base := wo.heap.size) (by rw [World.size_alloc, hszS]; omega) (e := 2)
      rw [World.size_alloc, hszS] at h
      exact h
    have hG2 : GSt _ w.heap.size gs xs.length wo.heap.size (fun j => seenB (adjR xs) i j || memN j [i]) u5 (groupsL xs.length (adjR xs) i) V G (.slice (some ⟨wo.heap.size, 0, none⟩) 1 1) [i] (.slice (some ⟨wo.heap.size + 1, 0, none⟩) 0 0) [] :=
      ⟨hG1.out, hG1.low, hG1.seen, hG1.gsl, hq1, hg1, fun b hb => by
        have hb : wo.heap.size + 1 = b := by injection hb
        intro e
        have e : wo.heap.size = b := by injection e
        omega⟩
    have hb2 : Below w.heap.size w (((wo.setCell ⟨gs, i, none⟩ (.bool true)).alloc (.cells #[.int .i64 i] 2)).alloc (.cells #[] 2)) := by
      have h1 : Below w.heap.size w (wo.setCell ⟨gs, i, none⟩ (.bool true)) := hb.setCell (p := ⟨gs, i, none⟩) hgsb _
      have h2 := h1.alloc h1.size (.cells #[.int .i64 i] 2)
      exact h2.alloc h2.size _
    have hbs := hb.size
    have hbz : wo.heap.size ≤ (((wo.setCell ⟨gs, i, none⟩ (.bool true)).alloc (.cells #[.int .i64 i] 2)).alloc (.cells #[] 2)).heap.size := by simp; omega
    replace hsi := Lib.hid hsi
    clear hG0 hG1 hq1 hg1 hszS hpg hne hse hb
    obtain ⟨A5, c5, rfl⟩ := hG2.out.form
    go_wp2
    generalize hBq : wo.heap.size = Bq at *
    clear hBq
    go_loopw [8, 9, 10] (fun vq vg c wr => ∃ (q s : List Nat) (at_ : Nat), Queue (adjR xs) xs.length i q at_ ∧ at_ ≤ q.length ∧ c = .int .i64 at_ ∧ GSt wr w.heap.size gs xs.length Bq (fun j => seenB (adjR xs) i j || memN j q) (.slice A5 (groupsL xs.length (adjR xs) i).length c5) (groupsL xs.length (adjR xs) i) V G vq q vg s ∧ Hid (s.Pairwise (· < ·) ∧ ∀ x, x ∈ s ↔ x ∈ q.take at_) ∧ s.length ≤ at_ ∧ Below w.heap.size w wr ∧ Bq ≤ wr.heap.size) (fun _ _ c _ => xs.length + 1 - (intOf c).toNat)
    case atStart => exact ⟨[i], [], 0, Queue.start hlt, Nat.zero_le _, rfl, hG2, ⟨List.Pairwise.nil, fun x => by simp⟩, Nat.le_refl _, hb2, hbz⟩
    case round => as_aux_lemma =>
      clear hG2 hb2 hbz cs zs
      obtain ⟨q, s, at_, hq, hat, rfl, hG, HSM, hsl, hb, hBw⟩ := hrel
      have hqn := hq.len
      have hq0 : 0 < q.length := List.length_pos_of_mem hq.first
      obtain ⟨gq, cq, rfl, _⟩ := hG.qo.addr (by rw [ints_len]; exact hq0)
      obtain ⟨A9, c9, rfl⟩ := hG.go.form
      rw [ints_len] at hG ⊢
      rw [ints_len] at hG ⊢
      by_cases hql : at_ < q.length
      rotate_left
      · -- the group is whole
        obtain rfl : at_ = q.length := by omega
        have hcomp : s = compL xs.length (adjR xs) i := comp_of_queue hq (Nat.le_refl _) HSM.out.1 (fun x => by rw [HSM.out.2, List.take_length])
        have hs0 : 0 < s.length := List.length_pos_of_mem ((HSM.out.2 i).2 (by rw [List.take_length]; exact hq.first))
        have HG : Hid (groupsL xs.length (adjR xs) (i + 1) = (groupsL xs.length (adjR xs) i) ++ [s]) := by show _ = _; rw [groupsL_new hsi.out, hcomp]
        have HSE : Hid (seenL xs.length (fun j => seenB (adjR xs) i j || memN j q) = seenL xs.length (seenB (adjR xs) (i + 1))) := seenL_congr (fun j _ => seen_after hq (Nat.le_refl _) j)
        have hgn := groupsL_len (n := xs.length) (adj := adjR xs) (k := i)
        have hLi : ((ints s).length : Nat) = s.length := ints_len s
        have hA := hG.go.addr (by rw [hLi]; exact hs0)
        rw [hLi] at hA
        obtain ⟨gy, cy, hvy0⟩ := hA
        injection hvy0 with hvy1 _ hvy2
        subst hvy1 hvy2
        clear hcomp HSM hLi
        have hgyB := (own_at hG.go (g := gy) rfl)
        have hbs2 := hb.size
        have hpA : PgW (wr.alloc (.cells #[.slice (some ⟨gy, 0, none⟩) s.length c9] 46)) w.heap.size (.slice A5 (groupsL xs.length (adjR xs) i).length c5) (groupsL xs.length (adjR xs) i).length V (fun j => ints ((groupsL xs.length (adjR xs) i).getD j [])) G := hG.out.below ((Below.refl _ _).alloc (Nat.le_refl _) _)
        have hyA : Own fInt (wr.alloc (.cells #[.slice (some ⟨gy, 0, none⟩) s.length c9] 46)) w.heap.size 2 (.slice (some ⟨gy, 0, none⟩) s.length c9) (ints s) := ownM_ (hG.go.below ((Below.refl _ _).alloc (Nat.le_refl _) _)) hbs
        have hbA : Below w.heap.size w (wr.alloc (.cells #[.slice (some ⟨gy, 0, none⟩) s.length c9] 46)) := hb.alloc hbs2 _
        have hseA : Own fBool (wr.alloc (.cells #[.slice (some ⟨gy, 0, none⟩) s.length c9] 46)) w.heap.size 4 (.slice (some ⟨gs, 0, none⟩) xs.length xs.length) (seenL xs.length (fun j => seenB (adjR xs) i j || memN j q)) := hG.seen.below ((Below.refl _ _).alloc (Nat.le_refl _) _)
        have hGy : ∀ j, j < (groupsL xs.length (adjR xs) i).length → G j ≠ gy := fun j hj e => by have := (hG.low _ (.inr ⟨j, hj, rfl⟩)).1; omega
        have hvy : ((.slice A5 (groupsL xs.length (adjR xs) i).length c5) : Value).ownBlock ≠ some gy := fun e => by have := (hG.low _ (.inl e)).1; omega
        have hnw : ∀ (j : Nat) (u : Value), [(.slice (some ⟨gy, 0, none⟩) s.length c9 : Value)][j]? = some u → (wr.alloc (.cells #[.slice (some ⟨gy, 0, none⟩) s.length c9] 46)).cell? ((⟨wr.heap.size, 0, none⟩ : Addr).add j) = some u := fun j u hj => by
          match j, hj with
          | 0, hj => injection hj with hj; subst hj; simp [Addr.add]
          | j + 1, hj => simp at hj
        obtain ⟨LV, hLV⟩ : ∃ LV : List Value, LV = (List.range ((groupsL xs.length (adjR xs) i).length)).map V := ⟨_, rfl⟩
        have hown0 := hpA.own
        rw [← hLV] at hown0
        have HLV := Lib.hid hLV
        have hgsl2 := hG.gslt
        have hlow := hG.low
        have hgsB := hG.gsl
        clear hLV hG
        generalize (groupsL xs.length (adjR xs) i) = L at *
        go_wp2_with (at_builtin; refine wpList_append_lies _ rfl _ _ 58 rfl w.heap.size 46 i0 (.slice none 0 0) 1 24 Tryz.underlying58 hi hz0 hz1 hz2 rfl (by decide) (.slice A5 L.length c5) L.length _ rfl hown0 _ 1 1 [.slice (some ⟨gy, 0, none⟩) s.length c9] rfl rfl hnw (by intro u hu; rw [List.mem_singleton] at hu; subst hu; rfl) (by decide) (by unfold maxLen; omega) (by omega) (by simp; omega) (wr.heap.size + 1) (by simp) ?_)
        intro g5 c6 w5 hown5 hgr5 hat5 hlt5
        rw [HLV.out] at hown5
        clear hown0 HLV hnw
        have hl5 : (Value.slice (some ⟨g5, 0, none⟩) (L.length + 1) c6).ownBlock = (.slice A5 L.length c5 : Value).ownBlock ∨ (Value.slice (some ⟨g5, 0, none⟩) (L.length + 1) c6).ownBlock = some ((wr.alloc (.cells #[.slice (some ⟨gy, 0, none⟩) s.length c9] 46))).heap.size := by
          rcases hat5 with e | e
          · exact .inl e.symm
          · refine .inr ?_
            show some g5 = _
            rw [e]; simp
        have hp2 := hpA.push hyA rfl hGy hvy hown5 hgr5 hl5
        have hb5 : Below w.heap.size w w5 := hbA.grown hgr5 (by simp; omega) (fun k hk => (hpA.lt (.inl hk)).1)
        have hse5 : Own fBool w5 w.heap.size 4 (.slice (some ⟨gs, 0, none⟩) xs.length xs.length) (seenL xs.length (fun j => seenB (adjR xs) i j || memN j q)) := own_stays hseA (fun b hb hbl => hgr5.block b hbl (fun e => by
          have e2 : gs = b := by injection hb
          exact (hlow b (.inl e.symm)).2 e2.symm))
        rw [HSE.out] at hse5
        have hlL : (L ++ [s]).length = L.length + 1 := by rw [List.length_append]; rfl
        have hp3 := hp2.congr (fun i hi => getD_snoc (L := L) (c := s) hi)
        have hne5 : ∀ b, inPg (.slice (some ⟨g5, 0, none⟩) (L.length + 1) c6) (L.length + 1) (fun i => if i = L.length then gy else G i) b → b ≠ gs := fun b hb => by
          rcases hb with hb | ⟨j, hj, hb⟩
          · have hb : g5 = b := by injection hb
            subst hb
            rcases hat5 with e | e
            · exact (hlow _ (.inl e)).2
            · omega
          · replace hb : (if j = L.length then gy else G j) = b := hb
            by_cases e : j = L.length
            · rw [if_pos e] at hb; omega
            · rw [if_neg e] at hb; exact (hlow b (.inr ⟨j, by omega, hb⟩)).2
        rw [← hlL] at hp3 hne5 ⊢
        clear hown5 hgr5 hat5 hlt5 hl5 hp2 hlL hGy hvy hbA hyA hpA hlow
        go_wp2
        go_roundw
        case rel => exact ⟨i + 1, _, _, by omega, by go_num, by rw [HG.out]; exact hp3, by rw [HG.out]; exact hne5, hse5, hb5⟩
        case measure => simp [intOf]; omega
      have hqli : (at_ : Int) < (q.length : Int) := by omega
      have cq := hG.cellQ hql
      obtain ⟨x0, hx0⟩ : ∃ x0, q[at_] = x0 := ⟨_, rfl⟩
      rw [hx0] at cq
      have hx0n : x0 < xs.length := by rw [← hx0]; exact hq.lt _ (List.getElem_mem hql)
      have hrx : Rch (adjR xs) i x0 := by rw [← hx0]; exact hq.rch _ (List.getElem_mem hql)
      have hx0m : x0 ∈ q := by rw [← hx0]; exact List.getElem_mem hql
      obtain ⟨s', hs', hmem', hsort'⟩ := put_nat s x0
      have hss : ∀ x ∈ s, x ≤ 1000 := fun x hx => by
        have h := hq.lt x (List.mem_of_mem_take ((HSM.out.2 x).1 hx))
        omega
      have hown9 := hG.go
      unfold Own at hown9
      rw [ints_len] at hown9
      obtain ⟨fs, hsl9, _, _⟩ := Sl.of_own (E := fInt) (xs := ints s) (n := s.length) (ints_len s) hown9 (ints_ok hss)
      have hsl2 : s.length ≤ 1000 := by omega
      clear hown9 hss
      go_wp2_with fail
      refine (l00Put_any _ (ints s) fs x0 _ hsl9 (by rw [ints_len]; omega)).mono ?_
      rintro e wp ⟨vg, rfl, hown, hbp⟩
      rw [hs'] at hown
      have hGp := hG.put hbp hown hBw
      have hbP := hb.trans (hbp.mono hb.size)
      have hBp : Bq ≤ wp.heap.size := Nat.le_trans hBw hbp.size
      have HSM2 : Hid (s'.Pairwise (· < ·) ∧ ∀ x, x ∈ s' ↔ x ∈ q.take (at_ + 1)) := ⟨hsort' HSM.out.1, fun x => by
        rw [hmem', HSM.out.2, List.take_succ_eq_append_getElem hql, List.mem_append, List.mem_singleton, hx0]
        constructor
        · rintro (h | h)
          · exact .inr h
          · exact .inl h
        · rintro (h | h)
          · exact .inr h
          · exact .inl h⟩
      have hsl' : s'.length ≤ at_ + 1 := by
        have h1 : (ints s').length ≤ (ints s).length + 1 := by rw [← hs']; exact putI_len
        rw [ints_len, ints_len] at h1; omega
      have HX0 := Lib.hid hx0
      clear hG hown hs' hmem' hsort' HSM hsl9 hbp hb cq hx0 hBw
      rename World => w8
      go_wp2
      go_loopw [8, 12] (fun vq c wr => ∃ (q2 : List Nat) (k : Nat), k ≤ xs.length ∧ c = .int .i64 k ∧ Queue (adjR xs) xs.length i q2 at_ ∧ Hid (q2.take (at_ + 1) = q.take (at_ + 1)) ∧ at_ < q2.length ∧ Hid (q2[at_]? = some x0) ∧ Hid (∀ y, y < k → adjR xs x0 y = true → y ∈ q2) ∧ GSt wr w.heap.size gs xs.length Bq (fun j => seenB (adjR xs) i j || memN j q2) (.slice A5 (groupsL xs.length (adjR xs) i).length c5) (groupsL xs.length (adjR xs) i) V G vq q2 vg s' ∧ Below w.heap.size w wr ∧ Bq ≤ wr.heap.size) (fun _ c _ => xs.length - (intOf c).toNat)
      case atStart => exact ⟨q, 0, Nat.zero_le _, rfl, hq, rfl, hql, (by show _ = _; rw [List.getElem?_eq_getElem hql, HX0.out]), (fun y hy => absurd hy (Nat.not_lt_zero _)), hGp, hbP, hBp⟩
      case round => as_aux_lemma =>
        clear hGp hbP hBp
        obtain ⟨q2, k, hk, rfl, hq2, HTK, hat2, HQX, HAL, hG, hb, hBw⟩ := hrel
        have hqn2 := hq2.len
        by_cases hltk : k < xs.length
        rotate_left
        · have hk2 : ¬ (k : Int) < (xs.length : Int) := by omega
          have hqx : q2[at_] = x0 := by have := HQX.out; rw [List.getElem?_eq_getElem hat2] at this; exact Option.some.inj this
          have hqN := hq2.next hat2 (fun y hy => by rw [hqx] at hy; exact HAL.out y (by have := (hg.lt _ _ hy).2; omega) hy)
          replace hqx := Lib.hid hqx
          go_wp2
          go_roundw
          case rel => exact ⟨q2, s', at_ + 1, hqN, by omega, by go_num, hG, ⟨HSM2.out.1, fun x => by rw [HSM2.out.2, HTK.out]⟩, hsl', hb, hBw⟩
          case measure => simp [intOf]; omega
        have hltk' : (k : Int) < (xs.length : Int) := by omega
        obtain ⟨gq2, cq2, rfl, _⟩ := hG.qo.addr (by rw [ints_len]; omega)
        rw [ints_len] at hG ⊢
        obtain ⟨b, off, vk, fk, rfl, _, _, r2, hnear, _⟩ := (hx.below' hb).reg hx0n
        obtain ⟨b', off', vk', fk', hA, r0, _⟩ := (hx.below' hb).reg hltk
        injection hA with hA
        injection hA with hA1 hA2 _
        subst hA1 hA2
        obtain ⟨bl, ol, rfl, _, _, l0, _⟩ := (hx2.below' hb).cell1 rfl (k := k) (by rw [hlm]; exact hltk) rfl
        obtain ⟨bl', ol', hA, _, _, l1, _⟩ := (hx2.below' hb).cell1 rfl (k := i) (by rw [hlm]; exact hlt) rfl
        injection hA with hA
        injection hA with hA1 hA2 _
        subst hA1 hA2
        replace l0 : wr.cell? ⟨bl, ol + k, none⟩ = some (.int .i64 xs[k].level) := by simpa using l0
        replace l1 : wr.cell? ⟨bl, ol + i, none⟩ = some (.int .i64 xs[i].level) := by simpa using l1
        have hlx : xs[x0].level = xs[i].level := by
          have h := rch_level hrx
          rw [getD_of_lt hx0n, getD_of_lt hlt] at h; exact h
        have HADJ : Hid (adjR xs x0 k = (decide (xs[k].level = xs[i].level) && memS xs[k].id xs[x0].near)) := by
          show _ = _
          rw [adjR_at hx0n hltk, hlx]
          congr 1
          rw [Bool.eq_iff_iff]; simp [eq_comm]
        have hnx : seenB (adjR xs) i k = true → adjR xs x0 k = true → False := fun h1 h2 => by
          have hqx : q2[at_] = x0 := by have := HQX.out; rw [List.getElem?_eq_getElem hat2] at this; exact Option.some.inj this
          have := hq2.fresh hg hsi.out hat2 (by rw [hqx]; exact h2)
          rw [this] at h1; cases h1
        have HNX := Lib.hid hnx
        have s0 := hG.cellS hltk
        have z0 := hG.frozenS k
        have hxl : xs.length ≤ 8 := hn8
        clear hlx hnx
        generalize hnr : xs[x0].near = nr at *
        generalize hid' : xs[k].id = idk at *
        generalize hlk' : xs[k].level = lk at *
        generalize hli' : xs[i].level = li at *
        clear hnr hid' hlk' hli'
        cases hf : (seenB (adjR xs) i k || memN k q2)
        rotate_left
        · rw [hf] at s0
          have HAL2 : Hid (∀ y, y < k + 1 → adjR xs x0 y = true → y ∈ q2) := fun y hy ha => by
            rcases Nat.lt_or_eq_of_le (Nat.le_of_lt_succ hy) with h1 | rfl
            · exact HAL.out y h1 ha
            · rcases Bool.or_eq_true _ _ ▸ hf with h | h
              · exact (HNX.out h ha).elim
              · exact memN_true.1 h
          clear hf HADJ HNX HAL
          go_wp2
          have gs0 := cell_regrown s0
          refine wp_region_mix (C := fun w' => ∃ p : Regrown, w' = Go.Sort.grow (redrawn wr p.d) p.os) [true, true, true, true, true, true, true, true, true, true, true, true, true, true, true, true, true, true, true, true, true, true, true, true, true, false, true] (by kernel_rfl) (by kernel_rfl) (by kernel_rfl) (fun _ _ d _ _ h => by cases d <;> exact h) (regrown_of_below (Below.drew (Below.refl _ _))) ?_
          have hS0 : Below (wr.heap.size) wr wr.drew := Below.drew (Below.refl _ _)
          refine wpMix_pure (by kernel_rfl) (fun K hK => ?_); go_big_quiet_op; refine hK _ ?_; clear hK K
          refine wpMix_pure (by kernel_rfl) (fun K hK => ?_); go_big_quiet_op; refine hK _ ?_; clear hK K
          refine wpMix_pure (by kernel_rfl) (fun K hK => ?_); go_big_quiet_op; refine hK _ ?_; clear hK K
          refine wpMix_pure (by kernel_rfl) (fun K hK => ?_); go_big_quiet_op; refine hK _ ?_; clear hK K
          refine wpMix_pure (by kernel_rfl) (fun K hK => ?_); go_big_quiet_op; refine hK _ ?_; clear hK K
          refine wpMix_pure (by kernel_rfl) (fun K hK => ?_); go_big_quiet_op; refine hK _ ?_; clear hK K
          refine wpMix_skip (by kernel_rfl) (fun K hK => ?_)
          simp only [Act.put, List.setIfInBounds_toArray, List.set_cons_zero, List.set_cons_succ]
          refine hK _ ?_; clear hK K
          refine wpMix_skip (by kernel_rfl) (fun K hK => ?_)
          simp only [Act.put, List.setIfInBounds_toArray, List.set_cons_zero, List.set_cons_succ]
          refine hK _ ?_; clear hK K
          refine wpMix_skip (by kernel_rfl) (fun K hK => ?_)
          simp only [Act.put, List.setIfInBounds_toArray, List.set_cons_zero, List.set_cons_succ]
          refine hK _ ?_; clear hK K
          refine wpMix_skip (by kernel_rfl) (fun K hK => ?_)
          simp only [Act.put, List.setIfInBounds_toArray, List.set_cons_zero, List.set_cons_succ]
          refine hK _ ?_; clear hK K
          refine wpMix_skip (by kernel_rfl) (fun K hK => ?_)
          simp only [Act.put, List.setIfInBounds_toArray, List.set_cons_zero, List.set_cons_succ]
          refine hK _ ?_; clear hK K
          refine wpMix_skip (by kernel_rfl) (fun K hK => ?_)
          simp only [Act.put, List.setIfInBounds_toArray, List.set_cons_zero, List.set_cons_succ]
          refine hK _ ?_; clear hK K
          refine wpMix_skip (by kernel_rfl) (fun K hK => ?_)
          simp only [Act.put, List.setIfInBounds_toArray, List.set_cons_zero, List.set_cons_succ]
          refine hK _ ?_; clear hK K
          refine wpMix_skip (by kernel_rfl) (fun K hK => ?_)
          simp only [Act.put, List.setIfInBounds_toArray, List.set_cons_zero, List.set_cons_succ]
          refine hK _ ?_; clear hK K
          refine wpMix_skip (by kernel_rfl) (fun K hK => ?_)
          simp only [Act.put, List.setIfInBounds_toArray, List.set_cons_zero, List.set_cons_succ]
          refine hK _ ?_; clear hK K
          refine wpMix_pure (by kernel_rfl) (fun K hK => ?_); go_big_quiet_op; refine hK _ ?_; clear hK K
          refine wpMix_pure (by kernel_rfl) (fun K hK => ?_); go_big_quiet_op; refine hK _ ?_; clear hK K
          refine wpMix_skip (by kernel_rfl) (fun K hK => ?_)
          simp only [Act.put, List.setIfInBounds_toArray, List.set_cons_zero, List.set_cons_succ]
          refine hK _ ?_; clear hK K
          refine wpMix_skip (by kernel_rfl) (fun K hK => ?_)
          simp only [Act.put, List.setIfInBounds_toArray, List.set_cons_zero, List.set_cons_succ]
          refine hK _ ?_; clear hK K
          refine wpMix_skip (by kernel_rfl) (fun K hK => ?_)
          simp only [Act.put, List.setIfInBounds_toArray, List.set_cons_zero, List.set_cons_succ]
          refine hK _ ?_; clear hK K
          refine wpMix_skip (by kernel_rfl) (fun K hK => ?_)
          simp only [Act.put, List.setIfInBounds_toArray, List.set_cons_zero, List.set_cons_succ]
          refine hK _ ?_; clear hK K
          refine wpMix_skip (by kernel_rfl) (fun K hK => ?_)
          simp only [Act.put, List.setIfInBounds_toArray, List.set_cons_zero, List.set_cons_succ]
          refine hK _ ?_; clear hK K
          refine wpMix_skip (by kernel_rfl) (fun K hK => ?_)
          simp only [Act.put, List.setIfInBounds_toArray, List.set_cons_zero, List.set_cons_succ]
          refine hK _ ?_; clear hK K
          refine wpMix_skip (by kernel_rfl) (fun K hK => ?_)
          simp only [Act.put, List.setIfInBounds_toArray, List.set_cons_zero, List.set_cons_succ]
          refine hK _ ?_; clear hK K
          refine wpMix_skip (by kernel_rfl) (fun K hK => ?_)
          simp only [Act.put, List.setIfInBounds_toArray, List.set_cons_zero, List.set_cons_succ]
          refine hK _ ?_; clear hK K
          refine wpMix_skip (by kernel_rfl) (fun K hK => ?_)
          simp only [Act.put, List.setIfInBounds_toArray, List.set_cons_zero, List.set_cons_succ]
          refine hK _ ?_; clear hK K
          refine wpMix_pure (by kernel_rfl) (fun K hK => ?_); go_big_quiet_op; refine hK _ ?_; clear hK K
          refine wpMix_nil ?_
          have hS9 : Below wr.heap.size wr wr.drew := hS0
          have hG9 := hG.below hS9
          have hb9 := hb.trans (hS9.mono hb.size)
          have hBw9 : Bq ≤ wr.drew.heap.size := Nat.le_trans hBw hS9.size
          go_wp2
          go_roundw
          case rel => exact ⟨q2, k + 1, by omega, by go_num, hq2, HTK, hat2, HQX, HAL2, hG9, hb9, hBw9⟩
          case measure => simp [intOf]; omega
        · rw [hf] at s0
          replace hf := Lib.hid hf
          go_wp2
          have gs0 := cell_regrown s0
          have gl0 := cell_regrown l0
          have gl1 := cell_regrown l1
          have gr0 := cell_regrown r0
          refine wp_region_mix (C := fun w' => ∃ p : Regrown, w' = Go.Sort.grow (redrawn wr p.d) p.os) [true, true, true, true, true, true, true, true, true, true, true, true, true, true, true, true, true, true, true, true, true, true, true, true, true, false, true] (by kernel_rfl) (by kernel_rfl) (by kernel_rfl) (fun _ _ d _ _ h => by cases d <;> exact h) (regrown_of_below (Below.drew (Below.refl _ _))) ?_
          have hS0 : Below (wr.heap.size) wr wr.drew := Below.drew (Below.refl _ _)
          refine wpMix_pure (by kernel_rfl) (fun K hK => ?_); go_big_quiet_op; refine hK _ ?_; clear hK K
          refine wpMix_pure (by kernel_rfl) (fun K hK => ?_); go_big_quiet_op; refine hK _ ?_; clear hK K
          refine wpMix_pure (by kernel_rfl) (fun K hK => ?_); go_big_quiet_op; refine hK _ ?_; clear hK K
          refine wpMix_pure (by kernel_rfl) (fun K hK => ?_); go_big_quiet_op; refine hK _ ?_; clear hK K
          refine wpMix_pure (by kernel_rfl) (fun K hK => ?_); go_big_quiet_op; refine hK _ ?_; clear hK K
          refine wpMix_pure (by kernel_rfl) (fun K hK => ?_); go_big_quiet_op; refine hK _ ?_; clear hK K
          refine wpMix_pure (by kernel_rfl) (fun K hK => ?_); go_big_quiet_op; refine hK _ ?_; clear hK K
          refine wpMix_pure (by kernel_rfl) (fun K hK => ?_); go_big_quiet_op; refine hK _ ?_; clear hK K
          refine wpMix_pure (by kernel_rfl) (fun K hK => ?_); go_big_quiet_op; refine hK _ ?_; clear hK K
          refine wpMix_pure (by kernel_rfl) (fun K hK => ?_); go_big_quiet_op; refine hK _ ?_; clear hK K
          refine wpMix_pure (by kernel_rfl) (fun K hK => ?_); go_big_quiet_op; refine hK _ ?_; clear hK K
          refine wpMix_pure (by kernel_rfl) (fun K hK => ?_); go_big_quiet_op; refine hK _ ?_; clear hK K
          refine wpMix_pure (by kernel_rfl) (fun K hK => ?_); go_big_quiet_op; refine hK _ ?_; clear hK K
          refine wpMix_pure (by kernel_rfl) (fun K hK => ?_); go_big_quiet_op; refine hK _ ?_; clear hK K
          by_cases hq14 : lk = li
          · skip
            have e14 : (lk == li) = true := by rw [beq_iff_eq]; exact hq14
            replace hq14 := Lib.hid hq14
            refine wpMix_pure (by kernel_rfl) (fun K hK => ?_); go_big_quiet_op; refine hK _ ?_; clear hK K
            refine wpMix_pure (by kernel_rfl) (fun K hK => ?_); go_big_quiet_op; refine hK _ ?_; clear hK K
            refine wpMix_pure (by kernel_rfl) (fun K hK => ?_); go_big_quiet_op; refine hK _ ?_; clear hK K
            refine wpMix_pure (by kernel_rfl) (fun K hK => ?_); go_big_quiet_op; refine hK _ ?_; clear hK K
            refine wpMix_pure (by kernel_rfl) (fun K hK => ?_); go_big_quiet_op; refine hK _ ?_; clear hK K
            refine wpMix_pure (by kernel_rfl) (fun K hK => ?_); go_big_quiet_op; refine hK _ ?_; clear hK K
            refine wpMix_pure (by kernel_rfl) (fun K hK => ?_); go_big_quiet_op; refine hK _ ?_; clear hK K
            refine wpMix_pure (by kernel_rfl) (fun K hK => ?_); go_big_quiet_op; refine hK _ ?_; clear hK K
            refine wpMix_pure (by kernel_rfl) (fun K hK => ?_); go_big_quiet_op; refine hK _ ?_; clear hK K
            refine wpMix_pure (by kernel_rfl) (fun K hK => ?_); go_big_quiet_op; refine hK _ ?_; clear hK K
            refine wpMix_pure (by kernel_rfl) (fun K hK => ?_); go_big_quiet_op; refine hK _ ?_; clear hK K
            refine wpMix_act (by kernel_rfl) (fun K hK => ?_)
            go_big_op
            refine (l18Near_any b (off + x0 * 3) vk nr fk idk wr.drew ((hS0).cell (p := ⟨b, off + x0 * 3 + 2, none⟩) (block_lt_of_cell r2) |>.trans r2) (hnear.below' (hS0))).mono ?_
            rintro e w' ⟨rfl, rfl⟩
            refine hK _ _ (regrown_of_below hS0) ?_
            clear hK K
            cases hq25 : memS idk nr
            · skip
              refine wpMix_pure (by kernel_rfl) (fun K hK => ?_); go_big_quiet_op; refine hK _ ?_; clear hK K
              refine wpMix_nil ?_
              have hS9 : Below wr.heap.size wr wr.drew := hS0
              have hG9 := hG.below hS9
              have hb9 := hb.trans (hS9.mono hb.size)
              have hBw9 : Bq ≤ wr.drew.heap.size := Nat.le_trans hBw hS9.size
              have HAL2 : Hid (∀ y, y < k + 1 → adjR xs x0 y = true → y ∈ q2) := fun y hy ha => by
                rcases Nat.lt_or_eq_of_le (Nat.le_of_lt_succ hy) with h1 | rfl
                · exact HAL.out y h1 ha
                · rw [HADJ.out, hq25, Bool.and_false] at ha; cases ha
              clear HADJ HNX HAL hf
              go_wp2
              go_roundw
              case rel => exact ⟨q2, k + 1, by omega, by go_num, hq2, HTK, hat2, HQX, HAL2, hG9, hb9, hBw9⟩
              case measure => simp [intOf]; omega
            · skip
              refine wpMix_pure (by kernel_rfl) (fun K hK => ?_); go_big_quiet_op; refine hK _ ?_; clear hK K
              refine wpMix_nil ?_
              have hS9 : Below wr.heap.size wr wr.drew := hS0
              have hG9 := hG.below hS9
              have hb9 := hb.trans (hS9.mono hb.size)
              have hBw9 : Bq ≤ wr.drew.heap.size := Nat.le_trans hBw hS9.size
              have hadj : adjR xs x0 k = true := by rw [HADJ.out, decide_eq_true hq14.out, hq25]; rfl
              have hqx : q2[at_] = x0 := by have := HQX.out; rw [List.getElem?_eq_getElem hat2] at this; exact Option.some.inj this
              have hni : k ∉ q2 := fun h => by
                have h1 := hf.out
                rw [Bool.or_eq_false_iff] at h1
                have h2 := memN_true.2 h
                rw [h1.2] at h2; cases h2
              have HQ3 := Lib.hid (hq2.add hg hat2 (by rw [hqx]; exact hadj) hni)
              have HAL2 : Hid (∀ y, y < k + 1 → adjR xs x0 y = true → y ∈ q2 ++ [k]) := fun y hy ha => by
                rcases Nat.lt_or_eq_of_le (Nat.le_of_lt_succ hy) with h1 | rfl
                · exact List.mem_append_left _ (HAL.out y h1 ha)
                · exact List.mem_append_right _ (List.mem_singleton.2 rfl)
              have HTK2 : Hid ((q2 ++ [k]).take (at_ + 1) = q.take (at_ + 1)) := by show _ = _; rw [List.take_append_of_le_length (by omega)]; exact HTK.out
              have HQX2 : Hid ((q2 ++ [k])[at_]? = some x0) := by show _ = _; rw [List.getElem?_append_left hat2]; exact HQX.out
              clear hadj hqx hni HADJ HNX HAL HTK HQX hf hq14 hq25 hG hS9 hS0 gr0 gl0 gl1 gs0 r2 r0 l0 l1 hnear
              generalize wr.drew = V9 at *
              have s9 := hG9.cellS hltk
              have z9 := hG9.frozenS k
              have hGa := (hG9.mark k).below ((Below.refl _ _).alloc (Nat.le_refl _) (.cells #[.int .i64 k] 2))
              have hgsl9 := hG9.gslt
              have hbA : Below w.heap.size w ((V9.setCell ⟨gs, k, none⟩ (.bool true)).alloc (.cells #[.int .i64 k] 2)) := by
                have h1 : Below w.heap.size w (V9.setCell ⟨gs, k, none⟩ (.bool true)) := hb9.setCell (p := ⟨gs, k, none⟩) hgsl9.1 _
                exact h1.alloc h1.size _
              have hszW : (((V9.setCell ⟨gs, k, none⟩ (.bool true)).alloc (.cells #[.int .i64 k] 2))).heap.size = V9.heap.size + 1 := by simp
              have hown0 : (((V9.setCell ⟨gs, k, none⟩ (.bool true)).alloc (.cells #[.int .i64 k] 2))).ownsRow Bq 2 1 (.slice (some ⟨gq2, 0, none⟩) q2.length cq2) q2.length ((ints q2).flatMap fInt.enc) := by
                have h : (((V9.setCell ⟨gs, k, none⟩ (.bool true)).alloc (.cells #[.int .i64 k] 2))).ownsRow Bq 2 1 (.slice (some ⟨gq2, 0, none⟩) q2.length cq2) (ints q2).length ((ints q2).flatMap fInt.enc) := hGa.qo
                rw [ints_len] at h; exact h
              have hnw : ∀ (j : Nat) (u : Value), [(.int .i64 k : Value)][j]? = some u → (((V9.setCell ⟨gs, k, none⟩ (.bool true)).alloc (.cells #[.int .i64 k] 2))).cell? ((⟨V9.heap.size, 0, none⟩ : Addr).add j) = some u := fun j u hj => by
                have e0 : ((⟨V9.heap.size, 0, none⟩ : Addr).add 0) = ⟨(V9.setCell ⟨gs, k, none⟩ (.bool true)).heap.size, 0, none⟩ := by simp [Addr.add]
                match j, hj with
                | 0, hj => injection hj with hj; subst hj; rw [e0]; exact (World.cell?_alloc_at _ _ _ _ rfl).trans rfl
                | j + 1, hj => simp at hj
              obtain ⟨LV, hLV⟩ : ∃ LV : List Value, LV = (ints q2).flatMap fInt.enc := ⟨_, rfl⟩
              rw [← hLV] at hown0
              have HLV := Lib.hid hLV
              clear hLV
              go_wp2_with (at_builtin; refine wpList_append_lies _ rfl _ _ 46 rfl Bq 2 j0 (.int .i64 0) 1 8 Tryz.underlying46 hj hy0 hy1 hy2 rfl (by decide) (.slice (some ⟨gq2, 0, none⟩) q2.length cq2) q2.length _ rfl hown0 _ 1 1 [.int .i64 k] rfl rfl hnw (by intro u hu; rw [List.mem_singleton] at hu; subst hu; rfl) (by decide) (by unfold maxLen; omega) (by omega) (by simp; omega) (V9.heap.size + 1) (by simp) ?_)
              intro g5 c6 w5 hown5 hgr5 hat5 hlt5
              rw [HLV.out] at hown5
              have hw5 : Own fInt w5 Bq 2 (.slice (some ⟨g5, 0, none⟩) (q2.length + 1) c6) (ints (q2 ++ [k])) := by rw [ints_snoc]; exact Own.push _ (by rw [ints_len]) hown5
              have hG5 := (hGa.add hw5 hgr5 (by
                rcases hat5 with e | e
                · exact .inl e.symm
                · exact .inr ⟨g5, rfl, by rw [hszW, e]; exact Nat.le_refl _⟩)).congr (f' := fun j => seenB (adjR xs) i j || memN j (q2 ++ [k])) (fun j _ => by rw [memN_snoc, Bool.or_assoc])
              have hb5 : Below w.heap.size w w5 := hbA.grown hgr5 (by have := hb9.size; simp; omega) (fun b hb => by have := (own_at hGa.qo hb).1; have := hbs; omega)
              have hBw5 : Bq ≤ w5.heap.size := by have := hgr5.size; rw [hszW] at this; omega
              have hl2 : at_ < (q2 ++ [k]).length := by rw [List.length_append]; omega
              clear hown0 HLV hnw hown5 hgr5 hat5 hlt5 hw5 hGa hG9 hbA hszW s9 z9
              go_wp2
              go_roundw
              case rel => exact ⟨q2 ++ [k], k + 1, by omega, by go_num, HQ3.out, HTK2, hl2, HQX2, HAL2, hG5, hb5, hBw5⟩
              case measure => simp [intOf]; omega
          · skip
            have e14 : (lk == li) = false := by rw [beq_eq_false_iff_ne]; exact hq14
            refine wpMix_pure (by kernel_rfl) (fun K hK => ?_); go_big_quiet_op; refine hK _ ?_; clear hK K
            refine wpMix_pure (by kernel_rfl) (fun K hK => ?_); go_big_quiet_op; refine hK _ ?_; clear hK K
            refine wpMix_pure (by kernel_rfl) (fun K hK => ?_); go_big_quiet_op; refine hK _ ?_; clear hK K
            refine wpMix_skip (by kernel_rfl) (fun K hK => ?_)
            simp only [Act.put, List.setIfInBounds_toArray, List.set_cons_zero, List.set_cons_succ]
            refine hK _ ?_; clear hK K
            refine wpMix_skip (by kernel_rfl) (fun K hK => ?_)
            simp only [Act.put, List.setIfInBounds_toArray, List.set_cons_zero, List.set_cons_succ]
            refine hK _ ?_; clear hK K
            refine wpMix_skip (by kernel_rfl) (fun K hK => ?_)
            simp only [Act.put, List.setIfInBounds_toArray, List.set_cons_zero, List.set_cons_succ]
            refine hK _ ?_; clear hK K
            refine wpMix_skip (by kernel_rfl) (fun K hK => ?_)
            simp only [Act.put, List.setIfInBounds_toArray, List.set_cons_zero, List.set_cons_succ]
            refine hK _ ?_; clear hK K
            refine wpMix_skip (by kernel_rfl) (fun K hK => ?_)
            simp only [Act.put, List.setIfInBounds_toArray, List.set_cons_zero, List.set_cons_succ]
            refine hK _ ?_; clear hK K
            refine wpMix_skip (by kernel_rfl) (fun K hK => ?_)
            simp only [Act.put, List.setIfInBounds_toArray, List.set_cons_zero, List.set_cons_succ]
            refine hK _ ?_; clear hK K
            refine wpMix_skip (by kernel_rfl) (fun K hK => ?_)
            simp only [Act.put, List.setIfInBounds_toArray, List.set_cons_zero, List.set_cons_succ]
            refine hK _ ?_; clear hK K
            refine wpMix_skip (by kernel_rfl) (fun K hK => ?_)
            simp only [Act.put, List.setIfInBounds_toArray, List.set_cons_zero, List.set_cons_succ]
            refine hK _ ?_; clear hK K
            refine wpMix_skip (by kernel_rfl) (fun K hK => ?_)
            simp only [Act.put, List.setIfInBounds_toArray, List.set_cons_zero, List.set_cons_succ]
            refine hK _ ?_; clear hK K
            refine wpMix_pure (by kernel_rfl) (fun K hK => ?_); go_big_quiet_op; refine hK _ ?_; clear hK K
            refine wpMix_nil ?_
            have hS9 : Below wr.heap.size wr wr.drew := hS0
            have hG9 := hG.below hS9
            have hb9 := hb.trans (hS9.mono hb.size)
            have hBw9 : Bq ≤ wr.drew.heap.size := Nat.le_trans hBw hS9.size
            have HAL2 : Hid (∀ y, y < k + 1 → adjR xs x0 y = true → y ∈ q2) := fun y hy ha => by
              rcases Nat.lt_or_eq_of_le (Nat.le_of_lt_succ hy) with h1 | rfl
              · exact HAL.out y h1 ha
              · rw [HADJ.out, decide_eq_false hq14, Bool.false_and] at ha; cases ha
            clear HADJ HNX HAL hf
            go_wp2
            go_roundw
            case rel => exact ⟨q2, k + 1, by omega, by go_num, hq2, HTK, hat2, HQX, HAL2, hG9, hb9, hBw9⟩
            case measure => simp [intOf]; omega

end Go.Proofs.YtgnbhcgagdfaiaaGreatDoor
