/- Words for data in memory: a value that reads as a datum, with the blocks that the reading meets. No function of the program is named here. -/
import Derived.Test.YtmkjgehhkmfoiaaRows
import Derived.WalkKit
import Derived.WalkSpells
import Derived.WalkLawsBesides
import Derived.Lib.Hide
import Derived.Deep.Draws
import Derived.Deep.QuietTactic
import Derived.BigQuiet
import Derived.Deep.DeepFit
namespace Go.Proofs.Ytmkjgehhkmfoiaa
open Go.RowKit

theorem ret_bool {a b : Bool} (h : a = b) : Ending.returned (.bool a) = .returned (.bool b) := by rw [h]
theorem ret_int {k : IntKind} {a b : Int} (h : a = b) : Ending.returned (.int k a) = .returned (.int k b) := by rw [h]

/-- How a datum lies in cells: the cells, the datum, the blocks behind it. -/
structure Cod (α : Type) where
  n : Nat
  rd : World → List Value → α → List Nat → Prop
  pos : 0 < n
  len : ∀ {w cs x fp}, rd w cs x fp → cs.length = n
  lt : ∀ {w cs x fp}, rd w cs x fp → ∀ b ∈ fp, b < w.heap.size
  keep : ∀ {w w' cs x fp}, rd w cs x fp → (∀ b ∈ fp, w'.heap[b]? = w.heap[b]?) → rd w' cs x fp

/-- A datum whose cells are a function of it: no memory behind it. -/
structure Flat (α : Type) where
  n : Nat
  enc : α → List Value
  ok : α → Prop
  pos : 0 < n
  len : ∀ x, (enc x).length = n
  one : ∀ x, ∀ v ∈ enc x, v.oneCell' = true

def Flat.cod {α : Type} (E : Flat α) : Cod α where
  n := E.n
  rd := fun _ cs x fp => cs = E.enc x ∧ E.ok x ∧ fp = []
  pos := E.pos
  len := by rintro w cs x fp ⟨rfl, _, _⟩; exact E.len x
  lt := by rintro w cs x fp ⟨_, _, rfl⟩ b hb; simp at hb
  keep := by rintro w w' cs x fp h _; exact h

def fInt : Flat Int where
  n := 1
  enc := fun x => [.int .i64 x]
  ok := fun x => -9223372036854775808 ≤ x ∧ x ≤ 9223372036854775807
  pos := by omega
  len := fun _ => rfl
  one := by intro x v hv; simp at hv; subst hv; rfl
def fStr : Flat ByteArray where
  n := 1
  enc := fun x => [.string x]
  ok := fun x => x.size ≤ 9223372036854775807
  pos := by omega
  len := fun _ => rfl
  one := by intro x v hv; simp at hv; subst hv; rfl
def fBool : Flat Bool where
  n := 1
  enc := fun x => [.bool x]
  ok := fun _ => True
  pos := by omega
  len := fun _ => rfl
  one := by intro x v hv; simp at hv; subst hv; rfl
def fByte : Flat UInt8 where
  n := 1
  enc := fun x => [.int .u8 x.toNat]
  ok := fun _ => True
  pos := by omega
  len := fun _ => rfl
  one := by intro x v hv; simp at hv; subst hv; rfl

/-- A slice value that reads as a list. -/
def Sl {α : Type} (E : Cod α) (w : World) (v : Value) (xs : List α) (fp : List Nat) : Prop :=
  ∃ A cap, v = .slice A xs.length cap ∧ xs.length ≤ cap ∧ cap ≤ maxLen ∧
    ((xs = [] ∧ fp = []) ∨ ∃ b off F, A = some ⟨b, off, none⟩ ∧ b < w.heap.size ∧ fp = b :: (List.range xs.length).flatMap F ∧
      ∀ i (h : i < xs.length), ∃ cs, (∀ j, j < E.n → w.cell? ⟨b, off + i * E.n + j, none⟩ = cs[j]?) ∧ (∀ j, j < E.n → w.frozen? ⟨b, off + i * E.n + j, none⟩ = false) ∧ E.rd w cs xs[i] (F i))

theorem Sl.keep {α : Type} {E : Cod α} {w w' : World} {v : Value} {xs : List α} {fp : List Nat} (h : Sl E w v xs fp) (hk : ∀ b ∈ fp, w'.heap[b]? = w.heap[b]?) (hs : w.heap.size ≤ w'.heap.size) : Sl E w' v xs fp := by
  obtain ⟨A, cap, hv, hl, hc, hr⟩ := h
  refine ⟨A, cap, hv, hl, hc, ?_⟩
  rcases hr with ⟨h1, h2⟩ | ⟨b, off, F, hA, hb, hfp, hi⟩
  · exact .inl ⟨h1, h2⟩
  · refine .inr ⟨b, off, F, hA, by omega, hfp, fun i hlt => ?_⟩
    obtain ⟨cs, h1, h2, h3⟩ := hi i hlt
    have hbk : w'.heap[b]? = w.heap[b]? := hk b (by rw [hfp]; simp)
    refine ⟨cs, fun j hj => (World.cell?_of_block (w := w) (w' := w') (a := ⟨b, off + i * E.n + j, none⟩) hbk).trans (h1 j hj), fun j hj => (World.frozen?_of_block (w := w) (w' := w') (a := ⟨b, off + i * E.n + j, none⟩) hbk).trans (h2 j hj), E.keep h3 fun c hc => hk c ?_⟩
    rw [hfp]
    exact List.mem_cons_of_mem _ (List.mem_flatMap.2 ⟨i, by simpa using hlt, hc⟩)

theorem Sl.lt {α : Type} {E : Cod α} {w : World} {v : Value} {xs : List α} {fp : List Nat} (h : Sl E w v xs fp) : ∀ b ∈ fp, b < w.heap.size := by
  obtain ⟨A, cap, hv, hl, hc, hr⟩ := h
  intro c hc
  rcases hr with ⟨h1, rfl⟩ | ⟨b, off, F, hA, hb, rfl, hi⟩
  · simp at hc
  · rcases List.mem_cons.1 hc with rfl | hc
    · exact hb
    · obtain ⟨i, hi1, hi2⟩ := List.mem_flatMap.1 hc
      obtain ⟨cs, _, _, h3⟩ := hi i (by simpa using hi1)
      exact E.lt h3 c hi2

theorem Sl.below {α : Type} {E : Cod α} {w w' : World} {v : Value} {xs : List α} {fp : List Nat} {B : Nat} (h : Sl E w v xs fp) (hb : Below B w w') (hB : ∀ b ∈ fp, b < B) : Sl E w' v xs fp :=
  h.keep (fun b hm => hb.block b (hB b hm)) hb.size
theorem Sl.below' {α : Type} {E : Cod α} {w w' : World} {v : Value} {xs : List α} {fp : List Nat} (h : Sl E w v xs fp) (hb : Below w.heap.size w w') : Sl E w' v xs fp := h.below hb h.lt

/-- Slices as data. -/
def Cod.slice {α : Type} (E : Cod α) : Cod (List α) where
  n := 1
  rd := fun w cs xs fp => ∃ v, cs = [v] ∧ Sl E w v xs fp
  pos := by omega
  len := by rintro w cs x fp ⟨v, rfl, _⟩; rfl
  lt := by rintro w cs x fp ⟨v, _, h⟩; exact h.lt
  keep := by
    rintro w w' cs xs fp ⟨v, rfl, h⟩ hk
    refine ⟨v, rfl, ?_⟩
    obtain ⟨A, cap, hv, hl, hc, hr⟩ := h
    refine ⟨A, cap, hv, hl, hc, ?_⟩
    rcases hr with ⟨h1, h2⟩ | ⟨b, off, F, hA, hb, hfp, hi⟩
    · exact .inl ⟨h1, h2⟩
    · have hbk : w'.heap[b]? = w.heap[b]? := hk b (by rw [hfp]; simp)
      have hb' : b < w'.heap.size := by
        rcases Nat.lt_or_ge b w'.heap.size with hlt | hge
        · exact hlt
        · rw [Array.getElem?_eq_none hge, Array.getElem?_eq_getElem hb] at hbk; cases hbk
      refine .inr ⟨b, off, F, hA, hb', hfp, fun i hlt => ?_⟩
      obtain ⟨cs, h1, h2, h3⟩ := hi i hlt
      refine ⟨cs, fun j hj => (World.cell?_of_block (w := w) (w' := w') (a := ⟨b, off + i * E.n + j, none⟩) hbk).trans (h1 j hj), fun j hj => (World.frozen?_of_block (w := w) (w' := w') (a := ⟨b, off + i * E.n + j, none⟩) hbk).trans (h2 j hj), E.keep h3 fun c hc => hk c ?_⟩
      rw [hfp]
      exact List.mem_cons_of_mem _ (List.mem_flatMap.2 ⟨i, by simpa using hlt, hc⟩)

/-- The shape of a slice value, ahead of a walk. -/
theorem Sl.form {α : Type} {E : Cod α} {w : World} {v : Value} {xs : List α} {fp : List Nat} (h : Sl E w v xs fp) :
    ∃ A cap, v = .slice A xs.length cap ∧ xs.length ≤ cap ∧ cap ≤ 9223372036854775807 := by
  obtain ⟨A, cap, hv, hl, hc, _⟩ := h
  exact ⟨A, cap, hv, hl, by unfold maxLen at hc; exact hc⟩

/-- One element of a slice of flat data: its cells. -/
theorem Sl.at_ {α : Type} {E : Flat α} {w : World} {A : Option Addr} {len cap : Nat} {xs : List α} {fp : List Nat} (h : Sl E.cod w (.slice A len cap) xs fp) {k : Nat} (hk : k < xs.length) :
    ∃ b off, A = some ⟨b, off, none⟩ ∧ b ∈ fp ∧ E.ok xs[k] ∧ (∀ j, j < E.n → w.cell? ⟨b, off + k * E.n + j, none⟩ = (E.enc xs[k])[j]?) ∧ (∀ j, j < E.n → w.frozen? ⟨b, off + k * E.n + j, none⟩ = false) := by
  obtain ⟨A', cap', hv, hl, hc, hr⟩ := h
  injection hv with hA hn hcap
  subst hA
  rcases hr with ⟨h1, h2⟩ | ⟨b, off, F, hA, hb, hfp, hi⟩
  · subst h1; simp at hk
  · obtain ⟨cs, h1, h2, h3, h4, h5⟩ := hi k hk
    subst h3
    exact ⟨b, off, hA, by rw [hfp]; simp, h4, h1, h2⟩

theorem Sl.cell1 {α : Type} {E : Flat α} {w : World} {A : Option Addr} {len cap : Nat} {xs : List α} {fp : List Nat} (h : Sl E.cod w (.slice A len cap) xs fp) (h1 : E.n = 1) {k : Nat} (hk : k < xs.length) {u : Value} (hu : E.enc xs[k] = [u]) :
    ∃ b off, A = some ⟨b, off, none⟩ ∧ b ∈ fp ∧ E.ok xs[k] ∧ w.cell? ⟨b, off + k, none⟩ = some u ∧ w.frozen? ⟨b, off + k, none⟩ = false := by
  obtain ⟨b, off, hA, hb, hok, hc, hf⟩ := h.at_ hk
  refine ⟨b, off, hA, hb, hok, ?_, ?_⟩
  · have := hc 0 (by omega); rw [h1, hu] at this; simpa using this
  · have := hf 0 (by omega); rw [h1] at this; simpa using this

theorem flat_get {α : Type} (f : α → List Value) (n : Nat) : ∀ (xs : List α), (∀ x ∈ xs, (f x).length = n) → ∀ (i : Nat) (h : i < xs.length) (j : Nat), j < n → (xs.flatMap f)[i * n + j]? = (f xs[i])[j]?
  | [], _, i, h, _, _ => by simp at h
  | x :: xs, hl, 0, _, j, hj => by
    have hx : (f x).length = n := hl x (by simp)
    rw [List.flatMap_cons, Nat.zero_mul, Nat.zero_add, List.getElem?_append_left (by omega)]
    rfl
  | x :: xs, hl, i + 1, h, j, hj => by
    have hx : (f x).length = n := hl x (by simp)
    rw [List.flatMap_cons, List.getElem?_append_right (by rw [hx, Nat.succ_mul]; omega)]
    have e : (i + 1) * n + j - (f x).length = i * n + j := by rw [hx, Nat.succ_mul]; omega
    rw [e]
    exact flat_get f n xs (fun y hy => hl y (by simp [hy])) i (by simpa using h) j hj

theorem flat_len {α : Type} (f : α → List Value) (n : Nat) : ∀ (xs : List α), (∀ x ∈ xs, (f x).length = n) → (xs.flatMap f).length = xs.length * n
  | [], _ => by simp
  | x :: xs, hl => by
    rw [List.flatMap_cons, List.length_append, flat_len f n xs (fun y hy => hl y (by simp [hy])), hl x (by simp), List.length_cons, Nat.succ_mul]; omega

/-- A row of the call's own, of flat data, as a slice. -/
theorem Sl.of_own {α : Type} {E : Flat α} {w : World} {base : Nat} {e : TypeId} {v : Value} {xs : List α} {n : Nat} (hn : xs.length = n) (h : w.ownsRow base e E.n v n (xs.flatMap E.enc)) (hok : ∀ x ∈ xs, E.ok x) :
    ∃ fp, Sl E.cod w v xs fp ∧ (∀ b ∈ fp, base ≤ b) ∧ fp.Nodup := by
  subst hn
  obtain ⟨h1, h2⟩ := h
  rcases h2 with ⟨hv, hz⟩ | ⟨g, cap, cur, hv, hg, hh, hnc, hcm, hsz, hxs⟩
  · have : xs = [] := List.eq_nil_of_length_eq_zero hz
    subst this
    exact ⟨[], ⟨none, 0, hv, by simp, by simp [maxLen], .inl ⟨rfl, rfl⟩⟩, by simp, by simp⟩
  · rcases Nat.eq_zero_or_pos xs.length with h0 | h0
    · have : xs = [] := List.eq_nil_of_length_eq_zero h0
      subst this
      exact ⟨[], ⟨_, cap, hv, hnc, hcm, .inl ⟨rfl, rfl⟩⟩, by simp, by simp⟩
    · have hgl : g < w.heap.size := by
        rcases Nat.lt_or_ge g w.heap.size with hlt | hge
        · exact hlt
        · rw [Array.getElem?_eq_none hge] at hh; cases hh
      refine ⟨[g], ⟨_, cap, hv, hnc, hcm, .inr ⟨g, 0, fun _ => [], rfl, hgl, by simp, fun i hi => ⟨E.enc xs[i], fun j hj => ?_, fun j hj => ?_, rfl, hok _ (List.getElem_mem hi), rfl⟩⟩⟩, by simpa using hg, by simp⟩
      · have hc : w.cell? ⟨g, 0 + i * E.n + j, none⟩ = cur[i * E.n + j]? := by simp [World.cell?, hh]
        rw [show E.cod.n = E.n from rfl, hc, ← flat_get E.enc E.n xs (fun x _ => E.len x) i hi j hj, ← hxs, List.getElem?_take_of_lt, Array.getElem?_toList]
        have : (i + 1) * E.n ≤ xs.length * E.n := Nat.mul_le_mul_right _ hi
        have hj' : j < E.n := hj
        rw [Nat.succ_mul] at this
        omega
      · simp [World.frozen?, hh]

end Go.Proofs.Ytmkjgehhkmfoiaa
