/- Parts of the proof: Base, All, Jg, Mark, TString, Nest, Seg, TRegion, Nm, Ms. -/
import Derived.Test.YtgnbhcgagdfaiaaGreatDoorRows
import Derived.WalkKit
import Derived.WalkSpells
import Derived.WalkLawsBesides
import Derived.Lib.Hide
import Derived.Deep.Draws
import Derived.Deep.QuietTactic
import Derived.BigQuiet
import Derived.Deep.DeepFit
import Derived.Lib.QuietBelow
import Derived.Sort.Walk0
import Derived.OrdersHeld
import Derived.Deep.RegionHeld
namespace Go.Proofs.YtgnbhcgagdfaiaaGreatDoor
open Go.RowKit

theorem ret_bool {a b : Bool} (h : a = b) : Ending.returned (.bool a) = .returned (.bool b) := by rw [h]
theorem ret_str {a b : ByteArray} (h : a = b) : Ending.returned (.string a) = .returned (.string b) := by rw [h]
theorem ret_int {k : IntKind} {a b : Int} (h : a = b) : Ending.returned (.int k a) = .returned (.int k b) := by rw [h]

theorem bytes_toList_inj {a b : ByteArray} (h : a.toList = b.toList) : a = b := by
  rw [ByteArray.toList_eq, ByteArray.toList_eq] at h
  exact ByteArray.ext (Array.toList_inj.mp h)
theorem bytes_beq_false {a b : ByteArray} (h : ¬ a = b) : (a.toList == b.toList) = false := by
  rw [beq_eq_false_iff_ne]
  exact fun e => h (bytes_toList_inj e)

/-- How a datum lies in cells: the cells, the datum, the blocks behind it. -/
structure Cod (α : Type) where
  n : Nat
  rd : World → List Value → α → List Nat → Prop
  pos : 0 < n
  len : ∀ {w cs x fp}, rd w cs x fp → cs.length = n
  lt : ∀ {w cs x fp}, rd w cs x fp → ∀ b ∈ fp, b < w.heap.size
  keep : ∀ {w w' cs x fp}, rd w cs x fp → (∀ b ∈ fp, w'.heap[b]? = w.heap[b]?) → rd w' cs x fp

/-- A datum whose cells are a function of it: no memory behind it. -/
structure Flat (α : Type) where
  n : Nat
  enc : α → List Value
  ok : α → Prop
  pos : 0 < n
  len : ∀ x, (enc x).length = n
  one : ∀ x, ∀ v ∈ enc x, v.oneCell' = true

def Flat.cod {α : Type} (E : Flat α) : Cod α where
  n := E.n
  rd := fun _ cs x fp => cs = E.enc x ∧ E.ok x ∧ fp = []
  pos := E.pos
  len := by rintro w cs x fp ⟨rfl, _, _⟩; exact E.len x
  lt := by rintro w cs x fp ⟨_, _, rfl⟩ b hb; simp at hb
  keep := by rintro w w' cs x fp h _; exact h

def fInt : Flat Int where
  n := 1
  enc := fun x => [.int .i64 x]
  ok := fun x => -9223372036854775808 ≤ x ∧ x ≤ 9223372036854775807
  pos := by omega
  len := fun _ => rfl
  one := by intro x v hv; simp at hv; subst hv; rfl
def fStr : Flat ByteArray where
  n := 1
  enc := fun x => [.string x]
  ok := fun x => x.size ≤ 9223372036854775807
  pos := by omega
  len := fun _ => rfl
  one := by intro x v hv; simp at hv; subst hv; rfl
def fBool : Flat Bool where
  n := 1
  enc := fun x => [.bool x]
  ok := fun _ => True
  pos := by omega
  len := fun _ => rfl
  one := by intro x v hv; simp at hv; subst hv; rfl
def fByte : Flat UInt8 where
  n := 1
  enc := fun x => [.int .u8 x.toNat]
  ok := fun _ => True
  pos := by omega
  len := fun _ => rfl
  one := by intro x v hv; simp at hv; subst hv; rfl

/-- A slice value that reads as a list. -/
def Sl {α : Type} (E : Cod α) (w : World) (v : Value) (xs : List α) (fp : List Nat) : Prop :=
  ∃ A cap, v = .slice A xs.length cap ∧ xs.length ≤ cap ∧ cap ≤ maxLen ∧
    ((xs = [] ∧ fp = []) ∨ ∃ b off F, A = some ⟨b, off, none⟩ ∧ b < w.heap.size ∧ fp = b :: (List.range xs.length).flatMap F ∧
      ∀ i (h : i < xs.length), ∃ cs, (∀ j, j < E.n → w.cell? ⟨b, off + i * E.n + j, none⟩ = cs[j]?) ∧ (∀ j, j < E.n → w.frozen? ⟨b, off + i * E.n + j, none⟩ = false) ∧ E.rd w cs xs[i] (F i))

theorem Sl.keep {α : Type} {E : Cod α} {w w' : World} {v : Value} {xs : List α} {fp : List Nat} (h : Sl E w v xs fp) (hk : ∀ b ∈ fp, w'.heap[b]? = w.heap[b]?) (hs : w.heap.size ≤ w'.heap.size) : Sl E w' v xs fp := by
  obtain ⟨A, cap, hv, hl, hc, hr⟩ := h
  refine ⟨A, cap, hv, hl, hc, ?_⟩
  rcases hr with ⟨h1, h2⟩ | ⟨b, off, F, hA, hb, hfp, hi⟩
  · exact .inl ⟨h1, h2⟩
  · refine .inr ⟨b, off, F, hA, by omega, hfp, fun i hlt => ?_⟩
    obtain ⟨cs, h1, h2, h3⟩ := hi i hlt
    have hbk : w'.heap[b]? = w.heap[b]? := hk b (by rw [hfp]; simp)
    refine ⟨cs, fun j hj => (World.cell?_of_block (w := w) (w' := w') (a := ⟨b, off + i * E.n + j, none⟩) hbk).trans (h1 j hj), fun j hj => (World.frozen?_of_block (w := w) (w' := w') (a := ⟨b, off + i * E.n + j, none⟩) hbk).trans (h2 j hj), E.keep h3 fun c hc => hk c ?_⟩
    rw [hfp]
    exact List.mem_cons_of_mem _ (List.mem_flatMap.2 ⟨i, by simpa using hlt, hc⟩)

theorem Sl.lt {α : Type} {E : Cod α} {w : World} {v : Value} {xs : List α} {fp : List Nat} (h : Sl E w v xs fp) : ∀ b ∈ fp, b < w.heap.size := by
  obtain ⟨A, cap, hv, hl, hc, hr⟩ := h
  intro c hc
  rcases hr with ⟨h1, rfl⟩ | ⟨b, off, F, hA, hb, rfl, hi⟩
  · simp at hc
  · rcases List.mem_cons.1 hc with rfl | hc
    · exact hb
    · obtain ⟨i, hi1, hi2⟩ := List.mem_flatMap.1 hc
      obtain ⟨cs, _, _, h3⟩ := hi i (by simpa using hi1)
      exact E.lt h3 c hi2

theorem Sl.below {α : Type} {E : Cod α} {w w' : World} {v : Value} {xs : List α} {fp : List Nat} {B : Nat} (h : Sl E w v xs fp) (hb : Below B w w') (hB : ∀ b ∈ fp, b < B) : Sl E w' v xs fp :=
  h.keep (fun b hm => hb.block b (hB b hm)) hb.size
theorem Sl.below' {α : Type} {E : Cod α} {w w' : World} {v : Value} {xs : List α} {fp : List Nat} (h : Sl E w v xs fp) (hb : Below w.heap.size w w') : Sl E w' v xs fp := h.below hb h.lt

/-- Slices as data. -/
def Cod.slice {α : Type} (E : Cod α) : Cod (List α) where
  n := 1
  rd := fun w cs xs fp => ∃ v, cs = [v] ∧ Sl E w v xs fp
  pos := by omega
  len := by rintro w cs x fp ⟨v, rfl, _⟩; rfl
  lt := by rintro w cs x fp ⟨v, _, h⟩; exact h.lt
  keep := by
    rintro w w' cs xs fp ⟨v, rfl, h⟩ hk
    refine ⟨v, rfl, ?_⟩
    obtain ⟨A, cap, hv, hl, hc, hr⟩ := h
    refine ⟨A, cap, hv, hl, hc, ?_⟩
    rcases hr with ⟨h1, h2⟩ | ⟨b, off, F, hA, hb, hfp, hi⟩
    · exact .inl ⟨h1, h2⟩
    · have hbk : w'.heap[b]? = w.heap[b]? := hk b (by rw [hfp]; simp)
      have hb' : b < w'.heap.size := by
        rcases Nat.lt_or_ge b w'.heap.size with hlt | hge
        · exact hlt
        · rw [Array.getElem?_eq_none hge, Array.getElem?_eq_getElem hb] at hbk; cases hbk
      refine .inr ⟨b, off, F, hA, hb', hfp, fun i hlt => ?_⟩
      obtain ⟨cs, h1, h2, h3⟩ := hi i hlt
      refine ⟨cs, fun j hj => (World.cell?_of_block (w := w) (w' := w') (a := ⟨b, off + i * E.n + j, none⟩) hbk).trans (h1 j hj), fun j hj => (World.frozen?_of_block (w := w) (w' := w') (a := ⟨b, off + i * E.n + j, none⟩) hbk).trans (h2 j hj), E.keep h3 fun c hc => hk c ?_⟩
      rw [hfp]
      exact List.mem_cons_of_mem _ (List.mem_flatMap.2 ⟨i, by simpa using hlt, hc⟩)

/-- The shape of a slice value, ahead of a walk. -/
theorem Sl.form {α : Type} {E : Cod α} {w : World} {v : Value} {xs : List α} {fp : List Nat} (h : Sl E w v xs fp) :
    ∃ A cap, v = .slice A xs.length cap ∧ xs.length ≤ cap ∧ cap ≤ 9223372036854775807 := by
  obtain ⟨A, cap, hv, hl, hc, _⟩ := h
  exact ⟨A, cap, hv, hl, by unfold maxLen at hc; exact hc⟩

/-- One element of a slice of flat data: its cells. -/
theorem Sl.at_ {α : Type} {E : Flat α} {w : World} {A : Option Addr} {len cap : Nat} {xs : List α} {fp : List Nat} (h : Sl E.cod w (.slice A len cap) xs fp) {k : Nat} (hk : k < xs.length) :
    ∃ b off, A = some ⟨b, off, none⟩ ∧ b ∈ fp ∧ E.ok xs[k] ∧ (∀ j, j < E.n → w.cell? ⟨b, off + k * E.n + j, none⟩ = (E.enc xs[k])[j]?) ∧ (∀ j, j < E.n → w.frozen? ⟨b, off + k * E.n + j, none⟩ = false) := by
  obtain ⟨A', cap', hv, hl, hc, hr⟩ := h
  injection hv with hA hn hcap
  subst hA
  rcases hr with ⟨h1, h2⟩ | ⟨b, off, F, hA, hb, hfp, hi⟩
  · subst h1; simp at hk
  · obtain ⟨cs, h1, h2, h3, h4, h5⟩ := hi k hk
    subst h3
    exact ⟨b, off, hA, by rw [hfp]; simp, h4, h1, h2⟩

theorem Sl.cell1 {α : Type} {E : Flat α} {w : World} {A : Option Addr} {len cap : Nat} {xs : List α} {fp : List Nat} (h : Sl E.cod w (.slice A len cap) xs fp) (h1 : E.n = 1) {k : Nat} (hk : k < xs.length) {u : Value} (hu : E.enc xs[k] = [u]) :
    ∃ b off, A = some ⟨b, off, none⟩ ∧ b ∈ fp ∧ E.ok xs[k] ∧ w.cell? ⟨b, off + k, none⟩ = some u ∧ w.frozen? ⟨b, off + k, none⟩ = false := by
  obtain ⟨b, off, hA, hb, hok, hc, hf⟩ := h.at_ hk
  refine ⟨b, off, hA, hb, hok, ?_, ?_⟩
  · have := hc 0 (by omega); rw [h1, hu] at this; simpa using this
  · have := hf 0 (by omega); rw [h1] at this; simpa using this

theorem flat_get {α : Type} (f : α → List Value) (n : Nat) : ∀ (xs : List α), (∀ x ∈ xs, (f x).length = n) → ∀ (i : Nat) (h : i < xs.length) (j : Nat), j < n → (xs.flatMap f)[i * n + j]? = (f xs[i])[j]?
  | [], _, i, h, _, _ => by simp at h
  | x :: xs, hl, 0, _, j, hj => by
    have hx : (f x).length = n := hl x (by simp)
    rw [List.flatMap_cons, Nat.zero_mul, Nat.zero_add, List.getElem?_append_left (by omega)]
    rfl
  | x :: xs, hl, i + 1, h, j, hj => by
    have hx : (f x).length = n := hl x (by simp)
    rw [List.flatMap_cons, List.getElem?_append_right (by rw [hx, Nat.succ_mul]; omega)]
    have e : (i + 1) * n + j - (f x).length = i * n + j := by rw [hx, Nat.succ_mul]; omega
    rw [e]
    exact flat_get f n xs (fun y hy => hl y (by simp [hy])) i (by simpa using h) j hj

theorem flat_len {α : Type} (f : α → List Value) (n : Nat) : ∀ (xs : List α), (∀ x ∈ xs, (f x).length = n) → (xs.flatMap f).length = xs.length * n
  | [], _ => by simp
  | x :: xs, hl => by
    rw [List.flatMap_cons, List.length_append, flat_len f n xs (fun y hy => hl y (by simp [hy])), hl x (by simp), List.length_cons, Nat.succ_mul]; omega

/-- A row of the call's own, of flat data, as a slice. -/
theorem Sl.of_own {α : Type} {E : Flat α} {w : World} {base : Nat} {e : TypeId} {v : Value} {xs : List α} {n : Nat} (hn : xs.length = n) (h : w.ownsRow base e E.n v n (xs.flatMap E.enc)) (hok : ∀ x ∈ xs, E.ok x) :
    ∃ fp, Sl E.cod w v xs fp ∧ (∀ b ∈ fp, base ≤ b) ∧ fp.Nodup := by
  subst hn
  obtain ⟨h1, h2⟩ := h
  rcases h2 with ⟨hv, hz⟩ | ⟨g, cap, cur, hv, hg, hh, hnc, hcm, hsz, hxs⟩
  · have : xs = [] := List.eq_nil_of_length_eq_zero hz
    subst this
    exact ⟨[], ⟨none, 0, hv, by simp, by simp [maxLen], .inl ⟨rfl, rfl⟩⟩, by simp, by simp⟩
  · rcases Nat.eq_zero_or_pos xs.length with h0 | h0
    · have : xs = [] := List.eq_nil_of_length_eq_zero h0
      subst this
      exact ⟨[], ⟨_, cap, hv, hnc, hcm, .inl ⟨rfl, rfl⟩⟩, by simp, by simp⟩
    · have hgl : g < w.heap.size := by
        rcases Nat.lt_or_ge g w.heap.size with hlt | hge
        · exact hlt
        · rw [Array.getElem?_eq_none hge] at hh; cases hh
      refine ⟨[g], ⟨_, cap, hv, hnc, hcm, .inr ⟨g, 0, fun _ => [], rfl, hgl, by simp, fun i hi => ⟨E.enc xs[i], fun j hj => ?_, fun j hj => ?_, rfl, hok _ (List.getElem_mem hi), rfl⟩⟩⟩, by simpa using hg, by simp⟩
      · have hc : w.cell? ⟨g, 0 + i * E.n + j, none⟩ = cur[i * E.n + j]? := by simp [World.cell?, hh]
        rw [show E.cod.n = E.n from rfl, hc, ← flat_get E.enc E.n xs (fun x _ => E.len x) i hi j hj, ← hxs, List.getElem?_take_of_lt, Array.getElem?_toList]
        have : (i + 1) * E.n ≤ xs.length * E.n := Nat.mul_le_mul_right _ hi
        have hj' : j < E.n := hj
        rw [Nat.succ_mul] at this
        omega
      · simp [World.frozen?, hh]

/-! ### A row of the call's own that is filled place by place -/

theorem run_make_rowN {P : Program} (t e : TypeId) (i : TypeInfo) (z : Value) (ht : P.underlying t = some (.slice e)) (hi : P.info? e = some i) (hz : i.zero = some z)
    (kl kc : IntKind) (n c : Nat) (hnc : n ≤ c) (hbytes : i.bytes * c ≤ 281474976710656) (h63 : c ≤ 9223372036854775807) (w : World) :
    (Instr.makeSlice t (.int kl (n : Int)) (.int kc (c : Int))).run P w = .ok (.slice (some ⟨w.heap.size, 0, none⟩) n c) (w.alloc (.cells (madeCells z.cells (c * i.size)) e)) := by
  have hb : (i.bytes : Int) * (c : Int) ≤ 281474976710656 := by
    have h : ((i.bytes * c : Nat) : Int) ≤ 281474976710656 := by omega
    rwa [Int.natCast_mul] at h
  have hr := run_make (P := P) w t e i z ht hi hz kl kc n c (by omega) (by omega) hb (by omega)
  simp only [Int.toNat_natCast] at hr
  exact hr

/-- Row g of n places of type e, of which the first ones hold ys. -/
def Fill (w : World) (base g : Nat) (e : TypeId) (size n : Nat) (ys : List Value) : Prop :=
  ∃ zs : List Value, w.ownsRow base e size (.slice (some ⟨g, 0, none⟩) n n) n (ys ++ zs)

theorem Fill.start (w : World) (e : TypeId) (size n : Nat) (z : Array Value) (hn : n ≤ 9223372036854775807) : Fill (w.alloc (.cells (madeCells z (n * size)) e)) w.heap.size w.heap.size e size n [] :=
  ⟨_, World.ownsRow_lit w _ n (Nat.le_refl _) (by unfold maxLen; exact hn) (size_madeCells _ _)⟩

theorem Fill.start1 (w : World) (e : TypeId) (n : Nat) (z : Array Value) (hn : n ≤ 9223372036854775807) : Fill (w.alloc (.cells (madeCells z n) e)) w.heap.size w.heap.size e 1 n [] := by
  have := Fill.start w e 1 n z hn
  rwa [Nat.mul_one] at this

section
variable {w w' : World} {base g : Nat} {e : TypeId} {size n : Nat} {ys : List Value}
theorem Fill.len (h : Fill w base g e size n ys) : ys.length ≤ n * size := by
  obtain ⟨zs, h⟩ := h
  have := h.1
  simp at this
  omega
theorem Fill.lt (h : Fill w base g e size n ys) : g < w.heap.size := by
  obtain ⟨zs, h⟩ := h
  exact (h.lt g rfl).2
theorem Fill.cell (h : Fill w base g e size n ys) {j : Nat} (hj : j < n * size) : ∃ u, w.cell? ⟨g, j, none⟩ = some u := by
  obtain ⟨zs, h⟩ := h
  refine ⟨_, (h.cellAt j hj).trans (List.getElem?_eq_getElem (by rw [h.1]; exact hj))⟩
theorem Fill.frozen (h : Fill w base g e size n ys) (j : Nat) : w.frozen? ⟨g, j, none⟩ = false := by
  obtain ⟨zs, h⟩ := h
  exact h.frozenAt j
/-- The next place gets its value. -/
theorem Fill.put (h : Fill w base g e size n ys) (hj : ys.length < n * size) (u : Value) : Fill (w.setCell ⟨g, ys.length, none⟩ u) base g e size n (ys ++ [u]) := by
  obtain ⟨zs, h⟩ := h
  have hl := h.1
  rw [List.length_append] at hl
  match zs, hl with
  | z :: zs, _ =>
    refine ⟨zs, ?_⟩
    have := (h.stored ys.length u).1
    rw [List.set_append_right _ _ (Nat.le_refl _), Nat.sub_self, List.set_cons_zero] at this
    rw [List.append_assoc]
    exact this
  | [], hl => simp at hl; omega
theorem Fill.kept {row : Option Nat} (h : Fill w base g e size n ys) (hg : w.grownBy w' row) (hr : row ≠ some g) : Fill w' base g e size n ys := by
  obtain ⟨zs, h⟩ := h
  exact ⟨zs, h.kept hg (.inr (by simp [Value.ownBlock]; exact fun h => hr h.symm))⟩
theorem Fill.below {B : Nat} (h : Fill w base g e size n ys) (hb : Below B w w') (hB : g < B) : Fill w' base g e size n ys := by
  obtain ⟨zs, h⟩ := h
  obtain ⟨h1, h2⟩ := h
  refine ⟨zs, h1, ?_⟩
  rcases h2 with h2 | ⟨g', cap, cur, hv, hg, hh, r⟩
  · exact .inl h2
  · have : g' = g := by injection hv with h _ _; injection h with h; injection h with h _ _; exact h.symm
    subst this
    exact .inr ⟨g', cap, cur, hv, hg, by rw [hb.block _ hB]; exact hh, r⟩
theorem Fill.done (h : Fill w base g e size n ys) (hy : ys.length = n * size) : w.ownsRow base e size (.slice (some ⟨g, 0, none⟩) n n) n ys := by
  obtain ⟨zs, h⟩ := h
  have hl := h.1
  rw [List.length_append, hy] at hl
  have : zs = [] := List.eq_nil_of_length_eq_zero (by omega)
  subst this
  rwa [List.append_nil] at h
end

theorem flat_take_step {α : Type} {E : Flat α} {xs : List α} {k : Nat} (hk : k < xs.length) : (xs.take (k + 1)).flatMap E.enc = (xs.take k).flatMap E.enc ++ E.enc xs[k] := by
  rw [List.take_succ_eq_append_getElem hk, List.flatMap_append]; simp
theorem flat_take_len {α : Type} {E : Flat α} {xs : List α} {k : Nat} (hk : k ≤ xs.length) : ((xs.take k).flatMap E.enc).length = k * E.n := by
  rw [flat_len E.enc E.n _ (fun x _ => E.len x), List.length_take, Nat.min_eq_left hk]
/-- A round that fills one place of one cell. -/
theorem fill_step {α : Type} {E : Flat α} {w : World} {base g : Nat} {e : TypeId} {xs : List α} {k : Nat} {u : Value} (h1 : E.n = 1) (hf : Fill w base g e 1 xs.length ((xs.take k).flatMap E.enc)) (hk : k < xs.length) (hu : E.enc xs[k] = [u]) :
    Fill (w.setCell ⟨g, k, none⟩ u) base g e 1 xs.length ((xs.take (k + 1)).flatMap E.enc) := by
  have hl : ((xs.take k).flatMap E.enc).length = k := by rw [flat_take_len (by omega), h1]; omega
  have := hf.put (by rw [hl]; omega) u
  rw [hl] at this
  rw [flat_take_step hk, hu]
  exact this
theorem Sl.oks {α : Type} {E : Flat α} {w : World} {v : Value} {xs : List α} {fp : List Nat} (h : Sl E.cod w v xs fp) : ∀ x ∈ xs, E.ok x := by
  intro x hx
  obtain ⟨A, cap, rfl, _, _⟩ := h.form
  obtain ⟨k, hk, rfl⟩ := List.getElem_of_mem hx
  obtain ⟨_, _, _, _, hok, _⟩ := h.at_ hk
  exact hok

theorem below_drewN {B : Nat} {a w : World} (h : Below B a w) (n : Nat) : Below B a (w.drewN n) := ⟨h.os, h.tape, h.output, h.size, h.block⟩
theorem Sl.drewN {α : Type} {E : Cod α} {w : World} {v : Value} {xs : List α} {fp : List Nat} (h : Sl E w v xs fp) (n : Nat) : Sl E (w.drewN n) v xs fp := h.below' (below_drewN (Below.refl _ _) n)
/-- The end of a call that says true and turns nothing that was there. -/
def YesR (w : World) (e : Ending) (w' : World) : Prop := e = .returned (.bool true) ∧ Below w.heap.size w w'

theorem sum_take_step_ {α : Type} (f : α → Nat) (xs : List α) (k : Nat) (h : k < xs.length) : ((xs.take (k + 1)).map f).sum = ((xs.take k).map f).sum + f xs[k] := by
  rw [List.take_succ_eq_append_getElem h, List.map_append, List.sum_append]; simp
theorem Fill.put_at {w : World} {base g : Nat} {e : TypeId} {size n : Nat} {ys : List Value} (h : Fill w base g e size n ys) {p : Nat} (hp : p = ys.length) (hj : p < n * size) (u : Value) : Fill (w.setCell ⟨g, p, none⟩ u) base g e size n (ys ++ [u]) := by
  subst hp; exact h.put hj u

theorem quiet_left {P : Program} {f : FuncId} {args : Array Value} {w : World} {n : Nat} {v : Value}
    (h : Calls P f args (w.drewN n) fun e w' => e = .returned v ∧ w.drewN n = w') : Calls P f args (w.drewN n) fun e w'' => e = .returned v ∧ ∃ m, w'' = w.drewN m :=
  h.mono fun _ _ ⟨he, hm⟩ => ⟨he, n, hm.symm⟩

/-- What a size check leaves: it has failed, or the rest is what is left. -/
def szPost (left : Int) (tot : Nat) (r : Int) : Prop := r = -1 ∨ (0 ≤ r ∧ r + tot = left)
def SzR (left : Int) (tot : Nat) (w : World) (e : Ending) (w' : World) : Prop := ∃ r : Int, e = .returned (.int .i64 r) ∧ szPost left tot r ∧ Below w.heap.size w w'
theorem SzR.no {left : Int} {tot : Nat} {w w' : World} (h : Below w.heap.size w w') : SzR left tot w (.returned (.int .i64 (-1))) w' := ⟨-1, rfl, .inl rfl, h⟩
theorem SzR.yes {left r : Int} {tot : Nat} {w w' : World} (h0 : 0 ≤ r) (h1 : r + tot = left) (h : Below w.heap.size w w') : SzR left tot w (.returned (.int .i64 r)) w' := ⟨r, rfl, .inr ⟨h0, h1⟩, h⟩

/-- A value that the call has made: it reads as the datum, through new blocks, none of them twice. -/
structure New {α : Type} (E : Cod α) (w : World) (v : Value) (xs : List α) (w' : World) : Prop where
  rd : ∃ fp, Sl E w' v xs fp ∧ (∀ b ∈ fp, w.heap.size ≤ b) ∧ fp.Nodup
  below : Below w.heap.size w w'
def NewR {α : Type} (E : Cod α) (w : World) (xs : List α) (e : Ending) (w' : World) : Prop := ∃ v, e = .returned v ∧ New E w v xs w'

/-! ### append of one element that has just been laid in a block of its own -/
theorem wpList_append_one {P : Program} {w : World} {ops : Array Oper} {rest : List Oper} {o : Oper} {a : Act} {Q : Exit → Act → World → Prop} (hgd : o.guard = none) (s x : Operand) (t : TypeId)
    (ho : o.op = .call { callee := .builtin .append, args := #[s, x], argTypes := #[t, t] })
    (base : Nat) (e : TypeId) (i : TypeInfo) (z : Value) (size bytes : Nat) (ht : P.underlying t = some (.slice e)) (hi : P.info? e = some i) (hz : i.zero = some z)
    (hsize : i.size = size) (hby : i.bytes = bytes) (hzs : z.cells.size = size) (hsz : 0 < size)
    (v : Value) (n : Nat) (xs : List Value) (hs : a.eval s = v) (hown : w.ownsRow base e size v n xs) (us : List Value) (hul : us.length = size) (h1 : ∀ u ∈ us, u.oneCell' = true)
    (hx : a.eval x = .slice (some ⟨w.heap.size, 0, none⟩) 1 1) (hn : n ≤ 1000000000) (hb : bytes ≤ 1000) (hbase : base ≤ w.heap.size)
    (h : ∀ v' w', w'.ownsRow base e size v' (n + 1) (xs ++ us) → Below base w w' → w.grownBy w' v.ownBlock → w.heap.size < w'.heap.size → wpList P ops Q rest (a.put o.dst v') w') : wpList P ops Q (o :: rest) a (w.alloc (.cells us.toArray e)) := by
  refine wpList_append_own _ hgd s x t ho base e i z size bytes ht hi hz hsize hby hzs hsz v n xs hs (hown.alloc _) ⟨w.heap.size, 0, none⟩ 1 1 us hx (by omega) ?_ h1 (by unfold maxLen; omega) ?_ (by simp; omega) ?_
  · intro j u hj
    have : (⟨w.heap.size, 0, none⟩ : Addr).add j = ⟨w.heap.size, j, none⟩ := by unfold Addr.add; by_cases h0 : j = 0 <;> simp [h0]
    rw [this, World.cell?_alloc_at _ _ _ _ rfl]
    simpa using hj
  · have : (n + 1) * bytes ≤ 1000000001 * 1000 := Nat.mul_le_mul (by omega) hb
    omega
  · intro v' w' h2 h3 _
    have h4 := h3.size
    simp at h4
    refine h v' w' h2 ?_ ⟨h3.os, h3.tape, h3.output, by omega, fun k hk hne => (h3.block k (by simp; omega) hne).trans (Below.heap_alloc w _ k hk)⟩ (by omega)
    exact ((Below.refl _ _).alloc hbase _).grown h3 (by simp; omega) (fun k hk => by
      have := (hown.alloc (.cells us.toArray e)).lt k hk
      exact this.1)

end Go.Proofs.YtgnbhcgagdfaiaaGreatDoor

namespace Go.Proofs.YtgnbhcgagdfaiaaGreatDoor
open Go.RowKit

/-! ### every index below n is in order -/
def allIdx (f : Nat → Bool) (n : Nat) : Bool := (List.range n).all f
theorem allIdx_zero {f : Nat → Bool} : allIdx f 0 = true := rfl
theorem allIdx_step {f : Nat → Bool} {k : Nat} (h : allIdx f k = true) (h1 : f k = true) : allIdx f (k + 1) = true := by
  unfold allIdx at *; rw [List.range_succ, List.all_append, h]; simp [h1]
theorem allIdx_true {f : Nat → Bool} {n : Nat} : allIdx f n = true ↔ ∀ i, i < n → f i = true := by
  unfold allIdx; rw [List.all_eq_true]; simp
theorem allIdx_bad {f : Nat → Bool} {k n : Nat} (h : k < n) (h1 : f k = false) : allIdx f n = false := by
  cases hh : allIdx f n with
  | false => rfl
  | true => rw [allIdx_true.1 hh k h] at h1; cases h1
theorem allIdx_full {f : Nat → Bool} {k n : Nat} (h : n ≤ k) (hk : k ≤ n) (h0 : allIdx f k = true) : allIdx f n = true := by
  have : k = n := by omega
  rw [← this]; exact h0
theorem allIdx_congr {f g : Nat → Bool} {n : Nat} (h : ∀ i, i < n → f i = g i) : allIdx f n = allIdx g n := by
  cases hh : allIdx g n with
  | true => rw [allIdx_true] at *; intro i hi; rw [h i hi]; exact hh i hi
  | false =>
    cases h2 : allIdx f n with
    | false => rfl
    | true =>
      have : allIdx g n = true := by rw [allIdx_true] at *; intro i hi; rw [← h i hi]; exact h2 i hi
      rw [this] at hh; cases hh
theorem all_eq_allIdx {α : Type} (p : α → Bool) (xs : List α) (d : α) : xs.all p = allIdx (fun i => p (xs.getD i d)) xs.length := by
  cases hh : allIdx (fun i => p (xs.getD i d)) xs.length with
  | true =>
    rw [allIdx_true] at hh
    rw [List.all_eq_true]
    intro x hx
    obtain ⟨i, hi, rfl⟩ := List.getElem_of_mem hx
    have := hh i hi
    simpa [List.getD_eq_getElem?_getD, hi] using this
  | false =>
    cases h2 : xs.all p with
    | false => rfl
    | true =>
      rw [List.all_eq_true] at h2
      have : allIdx (fun i => p (xs.getD i d)) xs.length = true := by
        rw [allIdx_true]; intro i hi
        have := h2 xs[i] (List.getElem_mem hi)
        simpa [List.getD_eq_getElem?_getD, hi] using this
      rw [this] at hh; cases hh
theorem getD_of_lt {α : Type} {xs : List α} {i : Nat} {d : α} (h : i < xs.length) : xs.getD i d = xs[i] := by
  simp [List.getD_eq_getElem?_getD, h]

/-! ### the order of strings -/
def ltS (a b : ByteArray) : Bool := Op.bytesLess a.toList b.toList
theorem ltS_eq (a b : ByteArray) : ltS a b = decide (a.data.toList < b.data.toList) := by
  unfold ltS; rw [bytesLess_eq, ByteArray.toList_eq, ByteArray.toList_eq]
theorem ltS_irrefl (a : ByteArray) : ltS a a = false := by
  rw [ltS_eq]; simp [List.lt_irrefl]
theorem ltS_trans {a b c : ByteArray} (h1 : ltS a b = true) (h2 : ltS b c = true) : ltS a c = true := by
  rw [ltS_eq, decide_eq_true_eq] at *; exact List.lt_trans h1 h2
theorem ltS_asymm {a b : ByteArray} (h : ltS a b = true) : ltS b a = false := by
  cases hh : ltS b a with
  | false => rfl
  | true => have := ltS_trans h hh; rw [ltS_irrefl] at this; cases this
theorem data_inj {a b : ByteArray} (h : a.data.toList = b.data.toList) : a = b := ByteArray.ext (Array.toList_inj.mp h)
theorem ltS_tri {a b : ByteArray} (h1 : ltS a b = false) (h2 : ltS b a = false) : a = b := by
  rw [ltS_eq, decide_eq_false_iff_not] at *
  exact data_inj (List.le_antisymm h2 h1)
theorem eqS_true {a b : ByteArray} : (a.toList == b.toList) = true ↔ a = b := by
  rw [beq_iff_eq]; exact ⟨bytes_toList_inj, fun h => by rw [h]⟩
theorem eqS_eq (a b : ByteArray) : (a.toList == b.toList) = decide (a = b) := by
  by_cases h : a = b
  · subst h; simp
  · rw [bytes_beq_false h]; simp [h]
theorem leS_eq (a b : ByteArray) : (Op.bytesLess a.toList b.toList || a.toList == b.toList) = !(ltS b a) := by
  cases h : ltS b a with
  | true =>
    have h1 : ltS a b = false := ltS_asymm h
    have h2 : ¬ a = b := fun e => by subst e; rw [ltS_irrefl] at h; cases h
    have : Op.bytesLess a.toList b.toList = false := h1
    rw [this, bytes_beq_false h2]; rfl
  | false =>
    cases h1 : ltS a b with
    | true => have : Op.bytesLess a.toList b.toList = true := h1; rw [this]; rfl
    | false =>
      have := ltS_tri h1 h
      subst this
      simp
end Go.Proofs.YtgnbhcgagdfaiaaGreatDoor

namespace Go.Proofs.YtgnbhcgagdfaiaaGreatDoor
open Go.RowKit
set_option linter.unusedVariables false

/-- j is reached from i. -/
def Rch (adj : Nat → Nat → Bool) (i j : Nat) : Prop := ∀ S : Nat → Prop, (∀ x y, S x → adj x y = true → S y) → S i → S j
theorem Rch.refl (adj : Nat → Nat → Bool) (i : Nat) : Rch adj i i := fun _ _ h => h
theorem Rch.step {adj : Nat → Nat → Bool} {i j k : Nat} (h : Rch adj i j) (hk : adj j k = true) : Rch adj i k := fun S hc hi => hc _ _ (h S hc hi) hk
theorem Rch.trans {adj : Nat → Nat → Bool} {i j k : Nat} (h : Rch adj i j) (h2 : Rch adj j k) : Rch adj i k := fun S hc hi => h2 S hc (h S hc hi)
structure Graph (adj : Nat → Nat → Bool) (n : Nat) : Prop where
  sym : ∀ x y, adj x y = true → adj y x = true
  lt : ∀ x y, adj x y = true → x < n ∧ y < n
theorem Rch.symm {adj : Nat → Nat → Bool} {n i j : Nat} (hg : Graph adj n) (h : Rch adj i j) : Rch adj j i :=
  h (fun x => Rch adj x i) (fun x y hx hxy => ((Rch.refl adj y).step (hg.sym _ _ hxy)).trans hx) (Rch.refl adj i)
noncomputable def rchB (adj : Nat → Nat → Bool) (i j : Nat) : Bool := @decide (Rch adj i j) (Classical.propDecidable _)
theorem rchB_true {adj : Nat → Nat → Bool} {i j : Nat} : rchB adj i j = true ↔ Rch adj i j := by unfold rchB; exact @decide_eq_true_iff _ (Classical.propDecidable _)
theorem rchB_false {adj : Nat → Nat → Bool} {i j : Nat} : rchB adj i j = false ↔ ¬ Rch adj i j := by rw [← rchB_true]; simp
/-- The component of i, sorted. -/
noncomputable def compL (n : Nat) (adj : Nat → Nat → Bool) (i : Nat) : List Nat := (List.range n).filter (rchB adj i)
noncomputable def seenB (adj : Nat → Nat → Bool) (k j : Nat) : Bool := (List.range k).any (fun i => rchB adj i j)
theorem seenB_true {adj : Nat → Nat → Bool} {k j : Nat} : seenB adj k j = true ↔ ∃ i < k, Rch adj i j := by
  unfold seenB
  rw [List.any_eq_true]
  constructor
  · rintro ⟨i, hi, h⟩; exact ⟨i, List.mem_range.1 hi, rchB_true.1 h⟩
  · rintro ⟨i, hi, h⟩; exact ⟨i, List.mem_range.2 hi, rchB_true.2 h⟩
theorem seenB_zero {adj : Nat → Nat → Bool} {j : Nat} : seenB adj 0 j = false := rfl
theorem seenB_eq {a b : Bool} (h : a = true ↔ b = true) : a = b := by cases a <;> cases b <;> simp_all
theorem seenB_skip {adj : Nat → Nat → Bool} {n k : Nat} (hg : Graph adj n) (h : seenB adj k k = true) (j : Nat) : seenB adj (k + 1) j = seenB adj k j := by
  refine seenB_eq ?_
  rw [seenB_true, seenB_true]
  obtain ⟨i, hi, hik⟩ := seenB_true.1 h
  constructor
  · rintro ⟨m, hm, hr⟩
    rcases Nat.lt_or_ge m k with h1 | h1
    · exact ⟨m, h1, hr⟩
    · obtain rfl : m = k := by omega
      exact ⟨i, hi, hik.trans hr⟩
  · rintro ⟨m, hm, hr⟩; exact ⟨m, by omega, hr⟩
theorem seenB_new {adj : Nat → Nat → Bool} {k : Nat} (j : Nat) : seenB adj (k + 1) j = (seenB adj k j || rchB adj k j) := by
  refine seenB_eq ?_
  rw [Bool.or_eq_true, seenB_true, seenB_true, rchB_true]
  constructor
  · rintro ⟨m, hm, hr⟩
    rcases Nat.lt_or_ge m k with h1 | h1
    · exact .inl ⟨m, h1, hr⟩
    · obtain rfl : m = k := by omega
      exact .inr hr
  · rintro (⟨m, hm, hr⟩ | hr)
    · exact ⟨m, by omega, hr⟩
    · exact ⟨k, by omega, hr⟩
/-- The components of the vertices below k, by their least members. -/
noncomputable def groupsL (n : Nat) (adj : Nat → Nat → Bool) (k : Nat) : List (List Nat) := ((List.range k).filter (fun i => !seenB adj i i)).map (compL n adj)
theorem groupsL_zero {n : Nat} {adj : Nat → Nat → Bool} : groupsL n adj 0 = [] := rfl
theorem groupsL_skip {n : Nat} {adj : Nat → Nat → Bool} {k : Nat} (h : seenB adj k k = true) : groupsL n adj (k + 1) = groupsL n adj k := by
  unfold groupsL
  rw [List.range_succ, List.filter_append, List.filter_cons, h]
  simp
theorem groupsL_new {n : Nat} {adj : Nat → Nat → Bool} {k : Nat} (h : seenB adj k k = false) : groupsL n adj (k + 1) = groupsL n adj k ++ [compL n adj k] := by
  unfold groupsL
  rw [List.range_succ, List.filter_append, List.filter_cons, h]
  simp
theorem groupsL_len {n : Nat} {adj : Nat → Nat → Bool} {k : Nat} : (groupsL n adj k).length ≤ k := by
  unfold groupsL
  rw [List.length_map]
  exact Nat.le_trans (List.length_filter_le _ _) (by rw [List.length_range]; exact Nat.le_refl _)
/-- The search from k: the first at vertices of the queue have all their neighbours in it. -/
structure Queue (adj : Nat → Nat → Bool) (n k : Nat) (q : List Nat) (at_ : Nat) : Prop where
  first : k ∈ q
  nd : q.Nodup
  rch : ∀ x ∈ q, Rch adj k x
  lt : ∀ x ∈ q, x < n
  done : ∀ i (h : i < q.length), i < at_ → ∀ y, adj q[i] y = true → y ∈ q
theorem Queue.start {adj : Nat → Nat → Bool} {n k : Nat} (hk : k < n) : Queue adj n k [k] 0 :=
  ⟨by simp, by simp, fun x hx => by rw [List.mem_singleton] at hx; subst hx; exact Rch.refl _ _, fun x hx => by rw [List.mem_singleton] at hx; subst hx; exact hk, fun i _ h => absurd h (Nat.not_lt_zero _)⟩
theorem Queue.add {adj : Nat → Nat → Bool} {n k at_ y : Nat} {q : List Nat} (hg : Graph adj n) (h : Queue adj n k q at_) (hat : at_ < q.length) (hy : adj q[at_] y = true) (hn : y ∉ q) : Queue adj n k (q ++ [y]) at_ := by
  refine ⟨List.mem_append_left _ h.first, ?_, ?_, ?_, ?_⟩
  · rw [List.nodup_append]
    exact ⟨h.nd, by simp, fun a ha b hb => by rw [List.mem_singleton] at hb; subst hb; exact fun e => hn (e ▸ ha)⟩
  · intro x hx
    rcases List.mem_append.1 hx with hx | hx
    · exact h.rch x hx
    · rw [List.mem_singleton] at hx; subst hx
      exact (h.rch _ (List.getElem_mem hat)).step hy
  · intro x hx
    rcases List.mem_append.1 hx with hx | hx
    · exact h.lt x hx
    · rw [List.mem_singleton] at hx; subst hx
      exact (hg.lt _ _ hy).2
  · intro i hi hia z hz
    have hi' : i < q.length := by omega
    rw [List.getElem_append_left hi'] at hz
    exact List.mem_append_left _ (h.done i hi' hia z hz)
theorem Queue.next {adj : Nat → Nat → Bool} {n k at_ : Nat} {q : List Nat} (h : Queue adj n k q at_) (hat : at_ < q.length) (hall : ∀ y, adj q[at_] y = true → y ∈ q) : Queue adj n k q (at_ + 1) :=
  ⟨h.first, h.nd, h.rch, h.lt, fun i hi hia y hy => by
    rcases Nat.lt_or_ge i at_ with h1 | h1
    · exact h.done i hi h1 y hy
    · obtain rfl : i = at_ := by omega
      exact hall y hy⟩
theorem Queue.len {adj : Nat → Nat → Bool} {n k at_ : Nat} {q : List Nat} (h : Queue adj n k q at_) : q.length ≤ n := by
  have h1 : q.length ≤ (List.range n).length := by
    have : ∀ (l m : List Nat), l.Nodup → (∀ x ∈ l, x ∈ m) → l.length ≤ m.length := by
      intro l
      induction l with
      | nil => intro m _ _; simp
      | cons a l ih =>
        intro m hnd hs
        rw [List.nodup_cons] at hnd
        have ha : a ∈ m := hs a (by simp)
        have h2 := ih (m.erase a) hnd.2 (fun x hx => (List.mem_erase_of_ne (show x ≠ a from fun e => hnd.1 (by rw [← e]; exact hx))).2 (hs x (by simp [hx])))
        rw [List.length_erase_of_mem ha] at h2
        have := List.length_pos_of_mem ha
        rw [List.length_cons]
        omega
    exact this q _ h.nd (fun x hx => List.mem_range.2 (h.lt x hx))
  rw [List.length_range] at h1
  exact h1
theorem Queue.full {adj : Nat → Nat → Bool} {n k at_ : Nat} {q : List Nat} (h : Queue adj n k q at_) (hat : q.length ≤ at_) (x : Nat) : x ∈ q ↔ Rch adj k x := by
  refine ⟨h.rch x, fun hr => hr (· ∈ q) (fun a b ha hab => ?_) h.first⟩
  obtain ⟨i, hi, rfl⟩ := List.getElem_of_mem ha
  exact h.done i hi (by omega) b hab
/-- A vertex that the search meets was not seen ahead of it. -/
theorem Queue.fresh {adj : Nat → Nat → Bool} {n k at_ y : Nat} {q : List Nat} (hg : Graph adj n) (h : Queue adj n k q at_) (hk : seenB adj k k = false) (hat : at_ < q.length) (hy : adj q[at_] y = true) : seenB adj k y = false := by
  cases hs : seenB adj k y
  · rfl
  · obtain ⟨i, hi, hr⟩ := seenB_true.1 hs
    have h1 : Rch adj k y := (h.rch _ (List.getElem_mem hat)).step hy
    have h2 := seenB_true.2 ⟨i, hi, hr.trans (h1.symm hg)⟩
    rw [hk] at h2
    cases h2
def memN (x : Nat) (q : List Nat) : Bool := decide (x ∈ q)
theorem memN_true {x : Nat} {q : List Nat} : memN x q = true ↔ x ∈ q := by unfold memN; simp
theorem sorted_eq : ∀ (l m : List Nat), l.Pairwise (· < ·) → m.Pairwise (· < ·) → (∀ x, x ∈ l ↔ x ∈ m) → l = m := by
  intro l
  induction l with
  | nil =>
    intro m _ _ h
    cases m with
    | nil => rfl
    | cons b m => exact absurd ((h b).2 (by simp)) (by simp)
  | cons a l ih =>
    intro m hl hm h
    cases m with
    | nil => exact absurd ((h a).1 (by simp)) (by simp)
    | cons b m =>
      rw [List.pairwise_cons] at hl hm
      have hab : a = b := by
        rcases List.mem_cons.1 ((h a).1 (by simp)) with h1 | h1
        · exact h1
        · rcases List.mem_cons.1 ((h b).2 (by simp)) with h2 | h2
          · exact h2.symm
          · have := hm.1 a h1; have := hl.1 b h2; omega
      subst hab
      rw [ih m hl.2 hm.2 (fun x => ?_)]
      constructor
      · intro hx
        rcases List.mem_cons.1 ((h x).1 (by simp [hx])) with h1 | h1
        · subst h1; exact absurd (hl.1 _ hx) (Nat.lt_irrefl _)
        · exact h1
      · intro hx
        rcases List.mem_cons.1 ((h x).2 (by simp [hx])) with h1 | h1
        · subst h1; exact absurd (hm.1 _ hx) (Nat.lt_irrefl _)
        · exact h1
theorem compL_sorted {n : Nat} {adj : Nat → Nat → Bool} {i : Nat} : (compL n adj i).Pairwise (· < ·) := (List.pairwise_lt_range).filter _
theorem compL_mem {n : Nat} {adj : Nat → Nat → Bool} {i x : Nat} : x ∈ compL n adj i ↔ x < n ∧ Rch adj i x := by
  unfold compL
  rw [List.mem_filter, List.mem_range, rchB_true]
theorem comp_of_queue {adj : Nat → Nat → Bool} {n k at_ : Nat} {q s : List Nat} (h : Queue adj n k q at_) (hat : q.length ≤ at_) (hs : s.Pairwise (· < ·)) (hm : ∀ x, x ∈ s ↔ x ∈ q) : s = compL n adj k := by
  refine sorted_eq _ _ hs compL_sorted (fun x => ?_)
  rw [hm, compL_mem]
  constructor
  · intro hx; exact ⟨h.lt x hx, h.rch x hx⟩
  · intro hx; exact (h.full hat x).2 hx.2
/-- What has been seen when the search from k is over. -/
theorem seen_after {adj : Nat → Nat → Bool} {n k at_ : Nat} {q : List Nat} (h : Queue adj n k q at_) (hat : q.length ≤ at_) (j : Nat) : (seenB adj k j || memN j q) = seenB adj (k + 1) j := by
  rw [seenB_new]
  congr 1
  refine seenB_eq ?_
  rw [memN_true, rchB_true]
  exact h.full hat j
end Go.Proofs.YtgnbhcgagdfaiaaGreatDoor

namespace Go.Proofs.YtgnbhcgagdfaiaaGreatDoor
open Go.RowKit

/-! ### cells in a row -/
def Cells (w : World) (b off : Nat) (vs : List Value) : Prop := ∀ j, j < vs.length → w.cell? ⟨b, off + j, none⟩ = vs[j]? ∧ w.frozen? ⟨b, off + j, none⟩ = false

section
variable {w w' : World} {b off : Nat} {vs : List Value}
theorem Cells.get (h : Cells w b off vs) {j : Nat} (hj : j < vs.length) : w.cell? ⟨b, off + j, none⟩ = some vs[j] := by
  rw [(h j hj).1]; exact List.getElem?_eq_getElem hj
theorem Cells.free (h : Cells w b off vs) {j : Nat} (hj : j < vs.length) : w.frozen? ⟨b, off + j, none⟩ = false := (h j hj).2
theorem Cells.keep (h : Cells w b off vs) (hk : w'.heap[b]? = w.heap[b]?) : Cells w' b off vs := fun j hj =>
  ⟨(World.cell?_of_block (w := w) (w' := w') (a := ⟨b, off + j, none⟩) hk).trans (h j hj).1, (World.frozen?_of_block (w := w) (w' := w') (a := ⟨b, off + j, none⟩) hk).trans (h j hj).2⟩
theorem frozen?_setCell (w : World) (p q : Addr) (u : Value) : (w.setCell p u).frozen? q = w.frozen? q := by
  simp only [World.frozen?, World.setCell, Array.getElem?_modify]
  by_cases h : p.block = q.block
  · rw [if_pos h]
    cases hh : w.heap[q.block]? with
    | none => simp
    | some o => cases o <;> simp
  · rw [if_neg h]
theorem Cells.set (h : Cells w b off vs) {p : Nat} {j : Nat} (hp : p = off + j) (hj : j < vs.length) (u : Value) : Cells (w.setCell ⟨b, p, none⟩ u) b off (vs.set j u) := by
  subst hp
  intro i hi
  rw [List.length_set] at hi
  refine ⟨?_, (frozen?_setCell _ _ _ _).trans (h i hi).2⟩
  by_cases he : i = j
  · subst he
    rw [List.getElem?_set_self hj]
    have hc := (h i hi).1
    rw [List.getElem?_eq_getElem hi] at hc
    simp only [World.cell?] at hc ⊢
    simp only [World.setCell, Array.getElem?_modify]
    cases hh : w.heap[b]? with
    | none => rw [hh] at hc; cases hc
    | some o =>
      rw [hh] at hc
      cases o with
      | cells c e f =>
        simp at hc
        simp only [Option.map_some, if_true]
        simp
        have : off + i < c.size := by
          rcases Nat.lt_or_ge (off + i) c.size with h | h
          · exact h
          · rw [Array.getElem?_eq_none h] at hc; cases hc
        simp [this]
      | _ => simp at hc
  · rw [List.getElem?_set_ne (fun e => he e.symm), World.cell?_setCell_other _ _ _ _ (by simp <;> omega)]
    exact (h i hi).1
end

theorem Cells.put {w : World} {b off : Nat} {pre l : List Value} (h : Cells w b off (pre ++ l)) {m j p : Nat} (hm : pre.length = m) (hp : p = off + (m + j)) (hj : j < l.length) (u : Value) : Cells (w.setCell ⟨b, p, none⟩ u) b off (pre ++ l.set j u) := by
  have := h.set (j := m + j) hp (by rw [List.length_append]; omega) u
  rwa [List.set_append_right _ _ (by omega), hm, Nat.add_sub_cancel_left] at this
theorem Cells.at_mid {w : World} {b off : Nat} {pre l : List Value} (h : Cells w b off (pre ++ l)) {m j p : Nat} {u : Value} (hm : pre.length = m) (hp : p = off + (m + j)) (hj : j < l.length) (hu : l[j]? = some u) : w.cell? ⟨b, p, none⟩ = some u := by
  subst hp
  rw [(h (m + j) (by rw [List.length_append]; omega)).1, List.getElem?_append_right (by omega), hm, Nat.add_sub_cancel_left, hu]
theorem Cells.free_mid {w : World} {b off : Nat} {pre l : List Value} (h : Cells w b off (pre ++ l)) {m j p : Nat} (hm : pre.length = m) (hp : p = off + (m + j)) (hj : j < l.length) : w.frozen? ⟨b, p, none⟩ = false := by
  subst hp
  exact (h (m + j) (by rw [List.length_append]; omega)).2
theorem marks_step {α : Type} {E : Flat α} {w : World} {b off k : Nat} {f : Nat → α} {xs : List α} {pre post us : List Value} (hp : ((List.range k).map f).flatMap E.enc = pre) (hr : (xs.drop (k + 1)).flatMap E.enc = post) (hu : E.enc (f k) = us) (h : Cells w b off (pre ++ (us ++ post))) :
    Cells w b off (((List.range (k + 1)).map f).flatMap E.enc ++ (xs.drop (k + 1)).flatMap E.enc) := by
  rw [List.range_succ, List.map_append, List.flatMap_append, hp, hr]
  simp only [List.map_cons, List.map_nil, List.flatMap_cons, List.flatMap_nil, List.append_nil, hu, List.append_assoc]
  exact h

/-- A slice of flat data, its cells in one row. -/
theorem Sl.cells {α : Type} {E : Flat α} {w : World} {A : Option Addr} {len cap : Nat} {xs : List α} {fp : List Nat} (h : Sl E.cod w (.slice A len cap) xs fp) (hne : 0 < xs.length) :
    ∃ b off, A = some ⟨b, off, none⟩ ∧ fp = [b] ∧ b < w.heap.size ∧ Cells w b off (xs.flatMap E.enc) := by
  obtain ⟨A', cap', hv, hl, hc, hr⟩ := h
  injection hv with hA hn hcap
  subst hA
  rcases hr with ⟨h1, _⟩ | ⟨b, off, F, hA, hb, hfp, hi⟩
  · subst h1; simp at hne
  · have hF : (List.range xs.length).flatMap F = [] := by
      rw [List.flatMap_eq_nil_iff]
      intro i hi'
      obtain ⟨cs, _, _, _, _, h5⟩ := hi i (by simpa using hi')
      exact h5
    refine ⟨b, off, hA, by rw [hfp, hF], hb, fun j hj => ?_⟩
    rw [flat_len E.enc E.n _ (fun x _ => E.len x)] at hj
    have hpos := E.pos
    have h1 : j / E.n < xs.length := Nat.div_lt_of_lt_mul (by rw [Nat.mul_comm]; exact hj)
    have h2 : j % E.n < E.n := Nat.mod_lt _ hpos
    have h3 : j / E.n * E.n + j % E.n = j := by rw [Nat.mul_comm]; exact Nat.div_add_mod j E.n
    obtain ⟨cs, hc1, hc2, hc3, hok, _⟩ := hi _ h1
    have e1 := hc1 (j % E.n) h2
    have e2 := hc2 (j % E.n) h2
    have hcn : E.cod.n = E.n := rfl
    rw [hcn, Nat.add_assoc, h3] at e1 e2
    refine ⟨?_, e2⟩
    rw [e1, hc3, ← flat_get E.enc E.n xs (fun x _ => E.len x) _ h1 _ h2, h3]

theorem Sl.of_cells {α : Type} {E : Flat α} {w : World} {xs : List α} {b off cap : Nat} (hc : xs.length ≤ cap) (hm : cap ≤ 9223372036854775807) (hb : b < w.heap.size) (h : Cells w b off (xs.flatMap E.enc)) (hok : ∀ x ∈ xs, E.ok x) :
    0 < xs.length → Sl E.cod w (.slice (some ⟨b, off, none⟩) xs.length cap) xs [b] := by
  intro hne
  refine ⟨_, cap, rfl, hc, by unfold maxLen; exact hm, .inr ⟨b, off, fun _ => [], rfl, hb, by simp, fun i hi => ⟨E.enc xs[i], fun j hj => ?_, fun j hj => ?_, rfl, hok _ (List.getElem_mem hi), rfl⟩⟩⟩
  all_goals
    have hj' : j < E.n := hj
    have hlt : i * E.n + j < (xs.flatMap E.enc).length := by
      rw [flat_len E.enc E.n _ (fun x _ => E.len x)]
      have : (i + 1) * E.n ≤ xs.length * E.n := Nat.mul_le_mul_right _ hi
      rw [Nat.succ_mul] at this
      omega
    have := h _ hlt
    rw [show E.cod.n = E.n from rfl, Nat.add_assoc]
  · rw [this.1, flat_get E.enc E.n xs (fun x _ => E.len x) _ hi _ hj']
  · exact this.2

theorem Sl.atk {α : Type} {E : Flat α} {w : World} {b off len cap : Nat} {xs : List α} {fp : List Nat} (h : Sl E.cod w (.slice (some ⟨b, off, none⟩) len cap) xs fp) {k : Nat} (hk : k < xs.length) {j : Nat} (hj : j < E.n) :
    w.cell? ⟨b, off + k * E.n + j, none⟩ = (E.enc xs[k])[j]? := by
  obtain ⟨b', off', hA, _, _, hc, _⟩ := h.at_ hk
  injection hA with hA
  injection hA with h1 h2 _
  subst h1 h2
  exact hc j hj

/-- Of what was there only the blocks of fp may have turned. -/
structure Only (fp : List Nat) (w w' : World) : Prop where
  os : w'.os = w.os
  tape : w'.tape = w.tape
  output : w'.output = w.output
  size : w.heap.size ≤ w'.heap.size
  block : ∀ k, k < w.heap.size → k ∉ fp → w'.heap[k]? = w.heap[k]?
theorem Only.below {fp : List Nat} {w w' : World} {B : Nat} (h : Only fp w w') (hB : B ≤ w.heap.size) (hf : ∀ b ∈ fp, B ≤ b) : Below B w w' :=
  ⟨h.os, h.tape, h.output, h.size, fun k hk => h.block k (by omega) (fun hm => by have := hf k hm; omega)⟩
theorem Only.of_below {fp : List Nat} {w w' : World} (h : Below w.heap.size w w') : Only fp w w' := ⟨h.os, h.tape, h.output, h.size, fun k hk _ => h.block k hk⟩
theorem Only.trans {fp : List Nat} {a b c : World} (h : Only fp a b) (k : Only fp b c) : Only fp a c :=
  ⟨k.os.trans h.os, k.tape.trans h.tape, k.output.trans h.output, Nat.le_trans h.size k.size, fun i hi hn => (k.block i (Nat.lt_of_lt_of_le hi h.size) hn).trans (h.block i hi hn)⟩
theorem Only.set {w w' : World} {g : Nat} (h : Only [g] w w') (o : Nat) (u : Value) : Only [g] w (w'.setCell ⟨g, o, none⟩ u) :=
  ⟨h.os, h.tape, h.output, by simpa [World.setCell] using h.size, fun i hi hn => (Below.heap_setCell w' ⟨g, o, none⟩ u i (by simpa using hn)).trans (h.block i hi hn)⟩
theorem Only.refl (fp : List Nat) (w : World) : Only fp w w := .of_below (Below.refl _ _)
theorem Sl.only {α : Type} {E : Cod α} {w w' : World} {v : Value} {xs : List α} {fp fp' : List Nat} (h : Sl E w v xs fp) (hb : Only fp' w w') (hd : ∀ b ∈ fp, b ∉ fp') : Sl E w' v xs fp :=
  h.keep (fun b hm => hb.block b (h.lt b hm) (hd b hm)) hb.size

/-- What a marking helper leaves. -/
def MarkR {α : Type} (E : Cod α) (fp : List Nat) (w : World) (r : Int) (v : Value) (ys : List α) (e : Ending) (w' : World) : Prop := e = .returned (.int .i64 r) ∧ Sl E w' v ys fp ∧ Only fp w w'

/-! ### the mark's text -/
def mtStep (k : Int) (s : ByteArray) : ByteArray := ⟨#[UInt8.ofNat (48 + k % 10).toNat]⟩ ++ s
def mtLoop : Nat → Int → ByteArray → ByteArray
  | 0, _, s => s
  | f + 1, k, s => if 0 < k then mtLoop f (k / 10) (mtStep k s) else s
def mt (k : Int) : ByteArray := if k ≤ 0 then ⟨#[109, 48]⟩ else ⟨#[109]⟩ ++ mtLoop k.toNat k ⟨#[]⟩

theorem mtStep_size (k : Int) (s : ByteArray) : (mtStep k s).size = s.size + 1 := by
  unfold mtStep; rw [ByteArray.size_append]; show 1 + s.size = _; omega
theorem mtLoop_step {f : Nat} {k : Int} {s : ByteArray} (h : 0 < k) : mtLoop (f + 1) k s = mtLoop f (k / 10) (mtStep k s) := by rw [mtLoop, if_pos h]

theorem mtLoop_size : ∀ (f : Nat) (k : Int) (s : ByteArray), (mtLoop f k s).size ≤ s.size + f
  | 0, _, _ => by simp [mtLoop]
  | f + 1, k, s => by
    unfold mtLoop
    split
    · have := mtLoop_size f (k / 10) (mtStep k s); rw [mtStep_size] at this; omega
    · omega
theorem mt_ok (k : Int) (hk : k ≤ 1000000000000) : fStr.ok (mt k) := by
  show (mt k).size ≤ _
  unfold mt
  split
  · show 2 ≤ _; omega
  · rw [ByteArray.size_append]
    have := mtLoop_size k.toNat k ⟨#[]⟩
    have h1 : (ByteArray.mk #[109]).size = 1 := rfl
    have h2 : (ByteArray.mk #[]).size = 0 := rfl
    omega

set_option maxRecDepth 100000 in
set_option maxHeartbeats 400000 in
theorem markText_any (k : Int) (w : World) (hk : k ≤ 1000000000000) :
    Calls Tryz.prog 40 #[.int .i64 k] w fun e w' => e = .returned (.string (mt k)) ∧ Below w.heap.size w w' := by
  by_cases h0 : k ≤ 0
  · have hm : mt k = ⟨#[109, 48]⟩ := by unfold mt; rw [if_pos h0]
    rw [hm]
    go_enter Tryz.func40, Tryz.ntmps40
    go_wp2
    go_ret
    exact ⟨rfl, Below.refl _ _⟩
  · have hcv : ∀ (n : Int) (W : World), (convert 34 9 (.slice (some ⟨W.heap.size, 0, none⟩) 1 1)).run Tryz.prog (W.alloc (.cells #[.int .u8 n] 5)) = .ok (.string ⟨#[UInt8.ofNat n.toNat]⟩) (W.alloc (.cells #[.int .u8 n] 5)) := fun n W =>
      run_convert_bytes_arg _ _ _ Tryz.underlying34 Tryz.underlying5 W.heap.size 0 1 1 [n] rfl (fun i hi => by (obtain rfl : i = 0 := by omega); simp) _ Tryz.underlying9
    go_enter Tryz.func40, Tryz.ntmps40
    go_wp2
    go_loopw [0, 3] (fun n s wr => ∃ (j : Int) (t : ByteArray) (f : Nat), n = .int .i64 j ∧ s = .string t ∧ 0 ≤ j ∧ j ≤ f ∧ t.size + f ≤ k ∧ Hid (mtLoop f j t = mtLoop k.toNat k ⟨#[]⟩) ∧ Below w.heap.size w wr) (fun n _ _ => (intOf n).toNat)
    case atStart => exact ⟨k, _, k.toNat, rfl, rfl, by omega, by omega, by show ((0 : Nat) : Int) + _ ≤ _; omega, rfl, Below.refl _ _⟩
    case round =>
      obtain ⟨j, t, f, rfl, rfl, hj0, hjf, hsz, HE, hb⟩ := hrel
      have hbs := hb.size
      by_cases hj : 0 < j
      · have hj10 : 0 ≤ j % 10 := by omega
        have hj11 : j % 10 ≤ 9 := by omega
        have hjd : 0 ≤ j / 10 := by omega
        have hjd2 : j / 10 < j := by omega
        obtain ⟨g, rfl⟩ : ∃ g, f = g + 1 := ⟨f - 1, by omega⟩
        go_wp2
        go_roundw
        case rel => exact ⟨j / 10, mtStep j t, g, rfl, rfl, by omega, by omega, by rw [mtStep_size]; omega, HE.out ▸ (mtLoop_step hj).symm, (by repeat (first | exact Below.refl _ _ | assumption | refine Below.alloc ?_ (by first | omega | (simp <;> omega)) _ | refine Below.setCell ?_ (by first | (show _ ≤ _; omega) | (simp <;> omega)) _ | refine Below.drew ?_ | refine below_drewN ?_ _))⟩
        case measure => simp [intOf]; omega
      · have hf : mtLoop f j t = t := by cases f with | zero => rfl | succ f => simp [mtLoop, hj]
        have hm : mt k = ⟨#[109]⟩ ++ t := by unfold mt; rw [if_neg (by omega), ← HE.out, hf]
        have HM := Lib.hid hm
        clear hm hf
        go_wp2
        go_ret
        exact ⟨ret_str HM.out.symm, hb⟩
end Go.Proofs.YtgnbhcgagdfaiaaGreatDoor

namespace Go.Proofs.YtgnbhcgagdfaiaaGreatDoor
open Go.RowKit
set_option linter.unusedVariables false

def totString (x : ByteArray) : Nat := x.size
def totStringS (xs : List ByteArray) : Nat := xs.length + (xs.map totString).sum

set_option maxRecDepth 100000 in
set_option maxHeartbeats 1000000 in
theorem szStringS_any (v : Value) (xs : List ByteArray) (fp : List Nat) (left : Int) (w : World) (hx : Sl fStr.cod w v xs fp) (h0 : 0 ≤ left) (h1 : left ≤ 1048576) :
    Calls Tryz.prog 58 #[v, .int .i64 left] w fun e w' => SzR left (totStringS xs) w e w' := by
  obtain ⟨A, cap, rfl, hlen, hcap⟩ := hx.form
  by_cases hl : left - (xs.length : Int) < 0
  · go_enter Tryz.func58, Tryz.ntmps58
    go_wp2
    go_ret
    exact .no (Below.refl _ _)
  · go_enter Tryz.func58, Tryz.ntmps58
    go_wp2
    go_loopw [1, 5] (fun l i wr => ∃ k : Nat, k ≤ xs.length ∧ i = .int .i64 k ∧ Below w.heap.size w wr ∧ ∃ r : Int, l = .int .i64 r ∧ 0 ≤ r ∧ r + (xs.length + ((xs.take k).map totString).sum : Nat) = left) (fun _ i _ => xs.length - (intOf i).toNat)
    case atStart => exact ⟨0, Nat.zero_le _, rfl, Below.refl _ _, _, rfl, by omega, by simp⟩
    case round =>
      obtain ⟨k, hk, rfl, hb, r, rfl, hr0, hr⟩ := hrel
      have HR := Lib.hid hr
      clear hr
      have hr1 : r ≤ 1048576 := by have := HR.out; omega
      by_cases hlt : k < xs.length
      · obtain ⟨b, off, rfl, _, hok, hc, _⟩ := (hx.below' hb).at_ hlt
        have hc0 : wr.cell? ⟨b, off + k, none⟩ = some (.string xs[k]) := by have := hc 0 (by decide); rw [show off + k * fStr.n + 0 = off + k from by show off + k * 1 + 0 = _; omega] at this; exact this
        clear hc
        have hsz0 : xs[k].size ≤ 9223372036854775807 := hok
        by_cases hneg : r - (xs[k].size : Int) < 0
        · go_wp2
          go_ret
          exact .no hb
        · go_wp2
          go_roundw
          case rel => exact ⟨k + 1, by omega, by go_num, hb, _, rfl, by omega, by have := HR.out; have hst := sum_take_step_ totString xs k hlt; unfold totString at hst this ⊢; omega⟩
          case measure => simp [intOf]; omega
      · go_wp2
        go_ret
        exact .yes hr0 (by have := HR.out; rw [List.take_of_length_le (by omega)] at this; exact this) hb

theorem infoString : (Tryz.prog.info? 9).map (fun i => (i.zero, i.size, i.bytes)) = some (some (.string ⟨#[]⟩), 1, 16) := by kernel_rfl
set_option maxRecDepth 100000 in
set_option maxHeartbeats 1000000 in
theorem toStringS_any (v : Value) (xs : List ByteArray) (fp : List Nat) (w : World) (hx : Sl fStr.cod w v xs fp) (h1 : xs.length ≤ 1048576) :
    Calls Tryz.prog 64 #[v] w fun e w' => NewR fStr.cod w xs e w' := by
  obtain ⟨A, cap, rfl, hlen, hcap⟩ := hx.form
  obtain ⟨i0, hi, hz0, hz1, hz2⟩ := info_parts infoString
  have hmk := fun W => run_make_rowN (P := Tryz.prog) 24 9 i0 _ Tryz.underlying24 hi hz0 .i64 .i64 xs.length xs.length (Nat.le_refl _) (by rw [hz2]; omega) (by omega) W
  rw [hz1] at hmk
  go_enter Tryz.func64, Tryz.ntmps64
  go_wp2
  go_loopw [4] (fun i wr => ∃ k : Nat, k ≤ xs.length ∧ i = .int .i64 k ∧ Fill wr w.heap.size w.heap.size 9 1 xs.length ((xs.take k).flatMap fStr.enc) ∧ Below w.heap.size w wr) (fun i _ => xs.length - (intOf i).toNat)
  case atStart => exact ⟨0, Nat.zero_le _, rfl, Fill.start1 w _ _ _ (by omega), (Below.refl _ _).alloc (Nat.le_refl _) _⟩
  case round =>
    obtain ⟨k, hk, rfl, hf, hb⟩ := hrel
    by_cases hlt : k < xs.length
    · obtain ⟨b, off, rfl, _, hok, hc, _⟩ := (hx.below' hb).at_ hlt
      have hc0 : wr.cell? ⟨b, off + k, none⟩ = some (.string xs[k]) := by have := hc 0 (by decide); rw [show off + k * fStr.n + 0 = off + k from by show off + k * 1 + 0 = _; omega] at this; exact this
      clear hc
      obtain ⟨u, hu⟩ := hf.cell (j := k) (by omega)
      have hfz := hf.frozen k
      go_wp2
      go_roundw
      case rel => exact ⟨k + 1, by omega, by go_num, fill_step rfl hf hlt rfl, hb.setCell (Nat.le_refl _) _⟩
      case measure => simp [intOf]; omega
    · have hk' : k = xs.length := by omega
      subst hk'
      rw [List.take_length] at hf
      go_wp2
      go_ret
      exact ⟨_, rfl, Sl.of_own rfl (hf.done (flat_len _ 1 _ (fun _ _ => rfl))) hx.oks, hb⟩

set_option maxRecDepth 100000 in
set_option maxHeartbeats 400000 in
theorem eqStringS_any (v v' : Value) (xs : List ByteArray) (fp fp' : List Nat) (w : World) (hx : Sl fStr.cod w v xs fp) (hy : Sl fStr.cod w v' xs fp') :
    Calls Tryz.prog 9 #[v, v'] w fun e w' => YesR w e w' := by
  obtain ⟨A, cap, rfl, hlen, hcap⟩ := hx.form
  obtain ⟨A', cap', rfl, hlen', hcap'⟩ := hy.form
  go_enter Tryz.func9, Tryz.ntmps9
  go_wp2
  go_loopw [5] (fun i wr => ∃ k : Nat, k ≤ xs.length ∧ i = .int .i64 k ∧ ∃ n, wr = w.drewN n) (fun i _ => xs.length - (intOf i).toNat)
  case atStart => exact ⟨0, Nat.zero_le _, rfl, 0, rfl⟩
  case round =>
    obtain ⟨k, hk, rfl, n, rfl⟩ := hrel
    by_cases hlt : k < xs.length
    · obtain ⟨b, off, rfl, _, hok, hc, _⟩ := hx.cell1 rfl hlt rfl
      obtain ⟨b', off', rfl, _, hok', hc', _⟩ := hy.cell1 rfl hlt rfl
      go_wp2
      go_quiet (fail)
      go_wp2
      go_roundw
      case rel => exact ⟨k + 1, by omega, by go_num, _, rfl⟩
      case measure => simp [intOf]; omega
    · go_wp2
      go_ret
      exact ⟨rfl, below_drewN (Below.refl _ _) _⟩

def mkString (k : Int) : ByteArray := mt (k)
def marksString (k : Int) (n : Nat) : List ByteArray := (List.range n).map fun (i : Nat) => mkString (k + 1 * (i : Int))

theorem marksString_get (k0 : Int) (n i : Nat) (h : i < (marksString k0 n).length) : (marksString k0 n)[i] = mkString (k0 + 1 * (i : Int)) := by
  simp [marksString]
theorem marksString_len (k0 : Int) (n : Nat) : (marksString k0 n).length = n := by simp [marksString]

set_option maxRecDepth 100000 in
set_option maxHeartbeats 2000000 in
theorem markStringS_any (v : Value) (xs : List ByteArray) (fp : List Nat) (k0 : Int) (w : World) (hx : Sl fStr.cod w v xs fp) (h0 : 0 ≤ k0) (h1 : k0 + 1 * (xs.length : Int) ≤ 1000000000000) :
    Calls Tryz.prog 12 #[v, .int .i64 k0] w fun e w' => MarkR fStr.cod fp w (k0 + 1 * (xs.length : Int)) v (marksString k0 xs.length) e w' := by
  obtain ⟨A, cap, rfl, hlen, hcap⟩ := hx.form
  by_cases hne : xs.length = 0
  · have : xs = [] := List.eq_nil_of_length_eq_zero hne
    subst this
    go_enter Tryz.func12, Tryz.ntmps12
    go_wp2
    go_loop [1, 5] (fun n i => i = .int .i64 0 ∧ n = .int .i64 k0) (fun _ _ => 0)
    case atStart => exact ⟨rfl, rfl⟩
    case round =>
      obtain ⟨rfl, rfl⟩ := hrel
      go_wp2
      go_ret
      exact ⟨ret_int (by simp), hx, .refl _ _⟩
  · obtain ⟨b, off, rfl, rfl, hbs, hcs0⟩ := hx.cells (by omega)
    go_enter Tryz.func12, Tryz.ntmps12
    go_wp2
    go_loopw [1, 5] (fun n i wr => ∃ k : Nat, k ≤ xs.length ∧ i = .int .i64 k ∧ ∃ q : Int, n = .int .i64 q ∧ 0 ≤ q ∧ Hid (q = k0 + 1 * (k : Int)) ∧ Cells wr b off (((List.range k).map fun (i : Nat) => mkString (k0 + 1 * (i : Int))).flatMap fStr.enc ++ (xs.drop k).flatMap fStr.enc) ∧ Only [b] w wr) (fun _ i _ => xs.length - (intOf i).toNat)
    case atStart => exact ⟨0, Nat.zero_le _, rfl, k0, rfl, h0, by show _ = _; simp, by simpa using hcs0, .refl _ _⟩
    case round =>
      obtain ⟨k, hk, rfl, q, rfl, hq0, HQ, hcs, ho⟩ := hrel
      by_cases hlt : k < xs.length
      · have hq1 : q + 1 ≤ 1000000000000 := by have := HQ.out; omega
        have HC : Cells wr b off (((List.range k).map fun (i : Nat) => mkString (k0 + 1 * (i : Int))).flatMap fStr.enc ++ ((.string xs[k] : Value) :: (xs.drop (k + 1)).flatMap fStr.enc)) := by
          have := hcs
          rw [List.drop_eq_getElem_cons hlt, List.flatMap_cons] at this
          exact this
        generalize HP : ((List.range k).map fun (i : Nat) => mkString (k0 + 1 * (i : Int))).flatMap fStr.enc = pre at *
        have HL : pre.length = k * 1 := by rw [← HP, flat_len fStr.enc 1 _ (fun _ _ => rfl)]; simp
        generalize HR : (xs.drop (k + 1)).flatMap fStr.enc = post at *
        have HPH := Lib.hid HP
        clear HP hcs
        have HRH := Lib.hid HR
        clear HR
        have HLH := Lib.hid HL
        clear HL
        go_wp2_with fail
        refine (markText_any _ _ (by omega)).mono ?_
        rintro e w0 ⟨rfl, hbm⟩
        have HD0 := HC.keep (hbm.block b (by have := ho.size; simp at this ⊢; omega))
        have hoo := ho.trans (.of_below hbm)
        clear ho hbm HC
        have ho := hoo
        clear hoo
        have hu0 := HD0.at_mid (m := k * 1) (j := 0) (p := off + k) HLH.out (by omega) (by simp) rfl
        have hz0 := HD0.free_mid (m := k * 1) (j := 0) (p := off + k) HLH.out (by omega) (by simp)
        go_wp2
        have HC0 := HD0.put (m := k * 1) (j := 0) (p := off + k) HLH.out (by omega) (by simp) (.string (mt (q)))
        have ho_ := ho.set (off + k) (.string (mt (q)))
        clear hu0 hz0 ho
        have ho := ho_
        clear ho_
        clear HD0
        go_roundw
        case rel => exact ⟨k + 1, by omega, by go_num, q + 1, by go_num, by omega, by have := HQ.out; show _ = _; omega, marks_step (f := fun (i : Nat) => mkString (k0 + 1 * (i : Int))) HPH.out HRH.out (by rw [← HQ.out] <;> rfl) HC0, ho⟩
        case measure => simp [intOf]; omega
      · have hk' : k = xs.length := by omega
        subst hk'
        rw [List.drop_length, List.flatMap_nil, List.append_nil] at hcs
        go_wp2
        go_ret
        have hsz := ho.size
        have hm := Sl.of_cells (E := fStr) (cap := cap) (xs := marksString k0 xs.length) (by rw [marksString_len]; exact hlen) hcap (by omega) hcs (by intro x hx; simp [marksString] at hx; obtain ⟨i, hi, rfl⟩ := hx; exact mt_ok _ (by omega)) (by rw [marksString_len]; omega)
        rw [marksString_len] at hm
        exact ⟨ret_int HQ.out, hm, ho⟩

set_option maxRecDepth 100000 in
set_option maxHeartbeats 2000000 in
theorem heldStringS_any (v : Value) (n0 : Nat) (fp : List Nat) (k0 : Int) (w : World) (hx0 : Sl fStr.cod w v (marksString k0 n0) fp) (h0 : 0 ≤ k0) (h1 : k0 + 1 * (n0 : Int) ≤ 1000000000000) :
    Calls Tryz.prog 13 #[v, .int .i64 k0] w fun e w' => e = .returned (.int .i64 (k0 + 1 * (n0 : Int))) ∧ Below w.heap.size w w' := by
  have hn0 : (marksString k0 n0).length = n0 := marksString_len _ _
  obtain ⟨xs, hxs⟩ : ∃ xs, xs = marksString k0 n0 := ⟨_, rfl⟩
  rw [← hxs] at hx0 hn0
  have hx := hx0
  clear hx0
  rw [← hn0] at h1
  have HN := Lib.hid hn0
  clear hn0
  have HXS := Lib.hid hxs
  clear hxs
  obtain ⟨A, cap, rfl, hlen, hcap⟩ := hx.form
  go_enter Tryz.func13, Tryz.ntmps13
  go_wp2
  go_loopw [1, 5] (fun n i wr => ∃ k : Nat, k ≤ xs.length ∧ i = .int .i64 k ∧ ∃ q : Int, n = .int .i64 q ∧ 0 ≤ q ∧ Hid (q = k0 + 1 * (k : Int)) ∧ Below w.heap.size w wr) (fun _ i _ => xs.length - (intOf i).toNat)
  case atStart => exact ⟨0, Nat.zero_le _, rfl, k0, rfl, h0, by show _ = _; omega, Below.refl _ _⟩
  case round =>
    obtain ⟨k, hk, rfl, q, rfl, hq0, HQ, hb⟩ := hrel
    by_cases hlt : k < xs.length
    · have hq1 : q + 1 ≤ 1000000000000 := by have := HQ.out; omega
      obtain ⟨b, off, rfl, _⟩ := hx.at_ hlt
      have hget : xs[k] = mkString (k0 + 1 * (k : Int)) := by
        have hxs := HXS.out
        subst hxs
        exact marksString_get _ _ _ _
      rw [← HQ.out] at hget
      have HG := Lib.hid hget
      clear hget
      have hc0 : wr.cell? ⟨b, off + k, none⟩ = some (.string (mt (q))) := by
        have h := (hx.below' hb).atk hlt (j := 0) (by decide)
        rw [HG.out, show off + k * fStr.n + 0 = off + k from by (show off + k * 1 + 0 = _); omega] at h
        exact h
      have gc0 := cell_regrown hc0
      clear hc0
      have cq : ∀ d os, Calls Tryz.prog 40 #[.int .i64 (q)] (Go.Sort.grow (redrawn wr d) os) fun e w'' => e = .returned (.string (mt (q))) ∧ ∃ p : Regrown, w'' = Go.Sort.grow (redrawn wr p.d) p.os := fun d os => Calls.regrown_of (markText_any _ _ (by omega))
      go_wp2_with fail
      refine wp_region_quiet_below (by kernel_rfl) (by kernel_rfl) ?_
      repeat (quiet_step (exact cq _ _))
      refine wpQuiet_nil ?_
      intro _ hw'
      obtain ⟨⟨dq, osq⟩, hw''⟩ := hw'
      subst hw''
      have hbq := below_regrown wr dq osq
      clear gc0 cq
      generalize Go.Sort.grow (redrawn wr dq) osq = wq0 at *
      have hbb := hb.trans (hbq.mono hb.size)
      clear hb hbq
      have hb := hbb
      clear hbb
      go_wp2
      go_roundw
      case rel => exact ⟨k + 1, by omega, by go_num, q + 1, by go_num, by omega, by have := HQ.out; show _ = _; omega, hb⟩
      case measure => simp [intOf]; omega
    · have hk' : k = xs.length := by omega
      go_wp2
      go_ret
      exact ⟨ret_int (by rw [HQ.out, hk', HN.out]), hb⟩

end Go.Proofs.YtgnbhcgagdfaiaaGreatDoor

namespace Go.Proofs.YtgnbhcgagdfaiaaGreatDoor
open Go.RowKit
set_option linter.unusedVariables false

/-- The rows of a slice of slices, laid open. -/
structure NRows {α : Type} (E : Cod α) (w : World) (b off n : Nat) (V : Nat → Value) (cur : Nat → List α) (F : Nat → List Nat) : Prop where
  cell : ∀ i, i < n → w.cell? ⟨b, off + i, none⟩ = some (V i)
  frz : ∀ i, i < n → w.frozen? ⟨b, off + i, none⟩ = false
  rd : ∀ i, i < n → Sl E w (V i) (cur i) (F i)
section
variable {α : Type} {E : Cod α} {w w' : World} {b off n cap len : Nat} {A : Option Addr} {V : Nat → Value} {cur : Nat → List α} {F : Nat → List Nat} {xss : List (List α)} {fp : List Nat}
theorem Sl.rows (h : Sl E.slice w (.slice A len cap) xss fp) (h0 : 0 < xss.length) :
    ∃ b off V F, A = some ⟨b, off, none⟩ ∧ b < w.heap.size ∧ fp = b :: (List.range xss.length).flatMap F ∧ NRows E w b off xss.length V (fun i => xss.getD i []) F := by
  obtain ⟨A', cap', hv, hl, hc, hr⟩ := h
  injection hv with hA hn hcap
  subst hA
  rcases hr with ⟨h1, _⟩ | ⟨b, off, F, hA, hb, hfp, hi⟩
  · subst h1; simp at h0
  · have hex : ∀ i, ∃ u, ∀ h : i < xss.length, w.cell? ⟨b, off + i, none⟩ = some u ∧ w.frozen? ⟨b, off + i, none⟩ = false ∧ Sl E w u xss[i] (F i) := fun i => by
      by_cases hlt : i < xss.length
      · obtain ⟨cs, h1, h2, u, rfl, h3⟩ := hi i hlt
        refine ⟨u, fun _ => ⟨?_, ?_, h3⟩⟩
        · have := h1 0 (show 0 < 1 by omega); simpa [Cod.slice] using this
        · have := h2 0 (show 0 < 1 by omega); simpa [Cod.slice] using this
      · exact ⟨undef, fun h => absurd h hlt⟩
    refine ⟨b, off, fun i => Classical.choose (hex i), F, hA, hb, hfp, ⟨fun i h => ?_, fun i h => ?_, fun i h => ?_⟩⟩
    · exact (Classical.choose_spec (hex i) h).1
    · exact (Classical.choose_spec (hex i) h).2.1
    · have := (Classical.choose_spec (hex i) h).2.2
      simpa [List.getD_eq_getElem?_getD, h] using this
theorem NRows.sl (h : NRows E w b off n V cur F) (hb : b < w.heap.size) (hn : xss.length = n) (hx : ∀ i (hi : i < xss.length), xss[i] = cur i) (hc : n ≤ cap) (hm : cap ≤ maxLen) :
    Sl E.slice w (.slice (some ⟨b, off, none⟩) n cap) xss (b :: (List.range n).flatMap F) := by
  subst hn
  refine ⟨_, cap, rfl, hc, hm, .inr ⟨b, off, F, rfl, hb, rfl, fun i hi => ⟨[V i], fun j hj => ?_, fun j hj => ?_, V i, rfl, ?_⟩⟩⟩
  · have hj' : j = 0 := by have : j < 1 := hj; omega
    subst hj'
    have := h.cell i hi
    simpa [Cod.slice] using this
  · have hj' : j = 0 := by have : j < 1 := hj; omega
    subst hj'
    have := h.frz i hi
    simpa [Cod.slice] using this
  · rw [hx i hi]; exact h.rd i hi
theorem NRows.below (h : NRows E w b off n V cur F) (hb : b < w.heap.size) (hw : Below w.heap.size w w') : NRows E w' b off n V cur F :=
  ⟨fun i hi => (hw.cell (p := ⟨b, off + i, none⟩) hb).trans (h.cell i hi), fun i hi => (hw.frozen (p := ⟨b, off + i, none⟩) hb).trans (h.frz i hi), fun i hi => (h.rd i hi).below' hw⟩
theorem NRows.congr {cur' : Nat → List α} (h : NRows E w b off n V cur F) (hc : ∀ i, i < n → cur i = cur' i) : NRows E w b off n V cur' F :=
  ⟨h.cell, h.frz, fun i hi => by rw [← hc i hi]; exact h.rd i hi⟩
/-- No block twice. -/
theorem rows_apart (hnd : (b :: (List.range n).flatMap F).Nodup) : (∀ i, i < n → b ∉ F i) ∧ (∀ i j, i < n → j < n → i ≠ j → ∀ c ∈ F i, c ∉ F j) ∧ ∀ i, i < n → (F i).Nodup := by
  rw [List.nodup_cons] at hnd
  obtain ⟨h1, h2⟩ := hnd
  refine ⟨fun i hi hm => h1 (List.mem_flatMap.2 ⟨i, by simpa using hi, hm⟩), ?_, ?_⟩
  · have h3 : ∀ i j, i < j → j < n → ∀ c ∈ F i, c ∉ F j := by
      intro i j hij hj c hc hc'
      have e1 : List.range n = List.range j ++ (List.range (n - j)).map (j + ·) := by rw [← List.range_add]; congr 1; omega
      rw [e1, List.flatMap_append, List.nodup_append] at h2
      exact h2.2.2 c (List.mem_flatMap.2 ⟨i, by simpa using hij, hc⟩) c (List.mem_flatMap.2 ⟨j, by simp; omega, hc'⟩) rfl
    intro i j hi hj hne c hc hc'
    rcases Nat.lt_or_ge i j with h | h
    · exact h3 i j h hj c hc hc'
    · exact h3 j i (by omega) hi c hc' hc
  · intro i hi
    have e1 : List.range n = List.range i ++ (List.range (n - i)).map (i + ·) := by rw [← List.range_add]; congr 1; omega
    have e2 : List.range (n - i) = 0 :: (List.range (n - i - 1)).map Nat.succ := by
      rw [← List.range_succ_eq_map]; congr 1; omega
    rw [e1, e2, List.flatMap_append, List.nodup_append] at h2
    have h4 := h2.2.1
    rw [List.map_cons, List.flatMap_cons, List.nodup_append] at h4
    simpa using h4.1
/-- One row is written, through its own blocks alone. -/
theorem NRows.step {ys : List α} {k : Nat} (h : NRows E w b off n V cur F) (hnd : (b :: (List.range n).flatMap F).Nodup) (hb : b < w.heap.size) (hk : k < n) (hs : Sl E w' (V k) ys (F k)) (ho : Only (F k) w w') :
    NRows E w' b off n V (fun i => if i = k then ys else cur i) F := by
  obtain ⟨h1, h2, _⟩ := rows_apart hnd
  have hbk := ho.block b hb (h1 k hk)
  refine ⟨fun i hi => (World.cell?_of_block (a := ⟨b, off + i, none⟩) hbk).trans (h.cell i hi), fun i hi => (World.frozen?_of_block (a := ⟨b, off + i, none⟩) hbk).trans (h.frz i hi), fun i hi => ?_⟩
  by_cases e : i = k
  · subst e; rw [if_pos rfl]; exact hs
  · rw [if_neg e]; exact (h.rd i hi).only ho (h2 i k hi hk e)
theorem Only.sub {fp fp' : List Nat} (h : Only fp w w') (hs : ∀ c ∈ fp, c ∈ fp') : Only fp' w w' := ⟨h.os, h.tape, h.output, h.size, fun k hk hn => h.block k hk (fun hm => hn (hs k hm))⟩
theorem Sl.elem {k : Nat} (h : Sl E.slice w (.slice A len cap) xss fp) (hk : k < xss.length) :
    ∃ b off vk fk, A = some ⟨b, off, none⟩ ∧ w.cell? ⟨b, off + k, none⟩ = some vk ∧ Sl E w vk xss[k] fk ∧ b ∈ fp := by
  obtain ⟨b, off, V, F, hA, hb, hfp, hr⟩ := h.rows (by omega)
  have := hr.rd k hk
  simp [List.getD_eq_getElem?_getD, hk] at this
  exact ⟨b, off, V k, F k, hA, hr.cell k hk, this, by rw [hfp]; simp⟩
end
/-! ### A slice of slices that the call fills row by row -/
/-- The block g holds n slices, of which the first k are made: they read as the first k rows. -/
def SSt {α : Type} (E : Cod α) (w : World) (g : Nat) (T : TypeId) (xss : List (List α)) (k : Nat) : Prop :=
  ∃ (V : Nat → Value) (F : Nat → List Nat), Fill w g g T 1 xss.length ((List.range k).map V) ∧ (∀ i, i < k → w.cell? ⟨g, i, none⟩ = some (V i)) ∧ (∀ i, i < k → Sl E w (V i) (xss.getD i []) (F i)) ∧ ((List.range k).flatMap F).Nodup ∧ (∀ c ∈ (List.range k).flatMap F, g < c ∧ c < w.heap.size)
theorem SSt.start {α : Type} {E : Cod α} (w : World) (T : TypeId) (z : Value) (xss : List (List α)) (hn : xss.length ≤ 9223372036854775807) : SSt E (w.alloc (.cells (madeCells #[z] xss.length) T)) w.heap.size T xss 0 :=
  ⟨fun _ => undef, fun _ => [], by simpa using Fill.start1 w T xss.length #[z] hn, fun _ h => absurd h (Nat.not_lt_zero _), fun _ h => absurd h (Nat.not_lt_zero _), by simp, by simp⟩
section
variable {α : Type} {E : Cod α} {w w' : World} {g : Nat} {T : TypeId} {xss : List (List α)} {k : Nat}
theorem SSt.below (h : SSt E w g T xss k) (hb : Below w.heap.size w w') : SSt E w' g T xss k := by
  obtain ⟨V, F, h1, h2, h3, h4, h5⟩ := h
  exact ⟨V, F, h1.below hb h1.lt, fun i hi => (hb.cell (p := ⟨g, i, none⟩) h1.lt).trans (h2 i hi), fun i hi => (h3 i hi).below' hb, h4, fun c hc => ⟨(h5 c hc).1, Nat.lt_of_lt_of_le (h5 c hc).2 hb.size⟩⟩
theorem SSt.cell (h : SSt E w g T xss k) {j : Nat} (hj : j < xss.length) : ∃ u, w.cell? ⟨g, j, none⟩ = some u := by
  obtain ⟨V, F, h1, _⟩ := h
  exact h1.cell (by omega)
theorem SSt.frozen (h : SSt E w g T xss k) (j : Nat) : w.frozen? ⟨g, j, none⟩ = false := by
  obtain ⟨V, F, h1, _⟩ := h
  exact h1.frozen j
theorem SSt.lt (h : SSt E w g T xss k) : g < w.heap.size := by
  obtain ⟨V, F, h1, _⟩ := h
  exact h1.lt
/-- The next row is made and laid in. -/
theorem SSt.next (h : SSt E w g T xss k) (hk : k < xss.length) {y : Value} (hn : New E w y xss[k] w') : SSt E (w'.setCell ⟨g, k, none⟩ y) g T xss (k + 1) := by
  have hg := h.lt
  obtain ⟨V, F, h1, h2, h3, h4, h5⟩ := h
  obtain ⟨⟨f, hs, hlo, hnd⟩, hb⟩ := hn
  have ho : Only [g] w' (w'.setCell ⟨g, k, none⟩ y) := (Only.refl _ _).set k y
  have hne : ∀ c, g < c → c ∉ [g] := fun c hc hm => by rw [List.mem_singleton] at hm; omega
  have e1 : ∀ i, i < k → (fun i => if i = k then y else V i) i = V i := fun i hi => if_neg (by omega)
  have e2 : ∀ i, i < k → (fun i => if i = k then f else F i) i = F i := fun i hi => if_neg (by omega)
  have em : (List.range (k + 1)).map (fun i => if i = k then y else V i) = (List.range k).map V ++ [y] := by
    rw [List.range_succ, List.map_append, List.map_cons, List.map_nil, if_pos rfl]
    congr 1
    exact List.map_congr_left (fun i hi => e1 i (by simpa using hi))
  have ef : (List.range (k + 1)).flatMap (fun i => if i = k then f else F i) = (List.range k).flatMap F ++ f := by
    rw [List.range_succ, List.flatMap_append, List.flatMap_cons, List.flatMap_nil, if_pos rfl, List.append_nil]
    congr 1
    rw [List.flatMap_def, List.flatMap_def]
    congr 1
    exact List.map_congr_left (fun i hi => e2 i (by simpa using hi))
  have hf2 : Fill w' g g T 1 xss.length ((List.range k).map V) := h1.below hb hg
  refine ⟨fun i => if i = k then y else V i, fun i => if i = k then f else F i, ?_, ?_, ?_, ?_, ?_⟩
  · rw [em]
    exact hf2.put_at (by simp) (by omega) y
  · intro i hi
    dsimp only
    by_cases e : i = k
    · subst e
      rw [if_pos rfl]
      obtain ⟨u, hu⟩ := hf2.cell (j := i) (by omega)
      exact World.cell?_setCell_same w' _ y hu
    · rw [if_neg e, World.cell?_setCell_other _ _ _ _ (by intro h; injection h with _ h _; exact e h.symm)]
      exact (hb.cell (p := ⟨g, i, none⟩) hg).trans (h2 i (by omega))
  · intro i hi
    dsimp only
    by_cases e : i = k
    · subst e
      rw [if_pos rfl, if_pos rfl, show xss.getD i [] = xss[i] from by simp [List.getD_eq_getElem?_getD, hk]]
      exact hs.only ho (fun b hb' => hne b (by have := hlo b hb'; omega))
    · rw [if_neg e, if_neg e]
      exact ((h3 i (by omega)).below' hb).only ho (fun b hb' => hne b (h5 b (List.mem_flatMap.2 ⟨i, by simp; omega, hb'⟩)).1)
  · rw [ef, List.nodup_append]
    exact ⟨h4, hnd, fun a ha b hb' e => by have := (h5 a ha).2; have := hlo b hb'; omega⟩
  · rw [ef]
    intro c hc
    have hsz : (w'.setCell ⟨g, k, none⟩ y).heap.size = w'.heap.size := by simp
    rcases List.mem_append.1 hc with hc | hc
    · exact ⟨(h5 c hc).1, by rw [hsz]; exact Nat.lt_of_lt_of_le (h5 c hc).2 hb.size⟩
    · exact ⟨by have := hlo c hc; omega, by rw [hsz]; exact hs.lt c hc⟩
theorem SSt.done (h : SSt E w g T xss xss.length) (hm : xss.length ≤ maxLen) : ∃ fp, Sl E.slice w (.slice (some ⟨g, 0, none⟩) xss.length xss.length) xss fp ∧ (∀ b ∈ fp, g ≤ b) ∧ fp.Nodup := by
  have hg := h.lt
  obtain ⟨V, F, h1, h2, h3, h4, h5⟩ := h
  have hr : NRows E w g 0 xss.length V (fun i => xss.getD i []) F := ⟨fun i hi => by simpa using h2 i hi, fun i _ => by simpa using h1.frozen i, h3⟩
  refine ⟨_, hr.sl hg rfl (fun i hi => by simp [List.getD_eq_getElem?_getD, hi]) (Nat.le_refl _) hm, ?_, ?_⟩
  · intro b hb
    rcases List.mem_cons.1 hb with rfl | hb
    · exact Nat.le_refl _
    · exact Nat.le_of_lt (h5 b hb).1
  · rw [List.nodup_cons]
    exact ⟨fun hm' => Nat.lt_irrefl _ (h5 _ hm').1, h4⟩
end
def preS (ns : List Nat) (i : Nat) : Nat := (ns.take i).sum
theorem preS_succ {ns : List Nat} {i : Nat} (h : i < ns.length) : preS ns (i + 1) = preS ns i + ns[i] := by
  unfold preS; rw [List.take_succ_eq_append_getElem h, List.sum_append]; simp
theorem preS_full {ns : List Nat} {i : Nat} (h : ns.length ≤ i) : preS ns i = ns.sum := by unfold preS; rw [List.take_of_length_le h]
theorem preS_le (ns : List Nat) (i : Nat) : preS ns i ≤ ns.sum := by
  have h := List.sum_append (l₁ := ns.take i) (l₂ := ns.drop i)
  rw [List.take_append_drop] at h
  unfold preS; omega
end Go.Proofs.YtgnbhcgagdfaiaaGreatDoor

namespace Go.Proofs.YtgnbhcgagdfaiaaGreatDoor
open Go.RowKit

/-- Operations that yield a value and do nothing else. -/
def valueOnly (o : Oper) : Bool :=
  match o.op with
  | .move _ | .assign _ | .pick .. | .load .. | .binOp .. | .unOp .. | .convert .. | .slice .. | .fieldAddr .. | .field .. | .indexAddr .. | .index .. | .lookup .. | .build .. | .extract .. | .typeAssert .. | .sliceToArrayPointer .. | .makeInterface .. => true
  | .nilCheck _ => true
  | .call { callee := .builtin b, .. } => match b with | .len | .cap | .max | .min => true | _ => false
  | _ => false

theorem value_of_map {P : Program} {s : Sem Value} {w w' : World} {n : Next} (h : ((do pure (.value (← s)) : Sem Next)).run P w = .ok n w') : ∃ v, n = .value v := by
  rw [Sem.run_bind] at h
  generalize s.run P w = r at h
  cases r with
  | ok v w1 => exact ⟨v, by injection h with h1 _; exact h1.symm⟩
  | halt x w1 => cases h

theorem value_of_valueOnly {P : Program} {ρ : Operand → Value} {o : Oper} {w w' : World} {n : Next} (hv : valueOnly o = true) (h : (execOp ρ o).run P w = .ok n w') : ∃ v, n = .value v := by
  obtain ⟨dst, op, ty, pos, after, guard⟩ := o
  unfold valueOnly at hv
  cases op <;> simp only [Bool.false_eq_true] at hv <;> try contradiction
  case move x => exact ⟨_, by injection h with h1 _; exact h1.symm⟩
  case assign x => exact ⟨_, by injection h with h1 _; exact h1.symm⟩
  case nilCheck x =>
    simp only [execOp] at h
    split at h
    all_goals first
      | (simp [runtimePanic] at h; done)
      | (exact ⟨_, by injection h with h1 _; exact h1.symm⟩)
      | skip
    all_goals
      split at h
      all_goals first
        | (simp [runtimePanic] at h; done)
        | (exact ⟨_, by injection h with h1 _; exact h1.symm⟩)
        | skip
    rename_i t1 w1 _
    rw [Sem.run_bind] at h
    generalize program.run P w = r1 at h
    cases r1 with
    | halt x w1 => cases h
    | ok p w1 =>
      rw [Result.andThen_ok, Sem.run_bind] at h
      generalize Sem.run P (nilAhead _ _ _ _) w1 = r2 at h
      cases r2 with
      | halt x w1 => cases h
      | ok b w2 =>
        rw [Result.andThen_ok] at h
        split at h
        · simp [unsupported] at h
        · exact ⟨_, by injection h with h1 _; exact h1.symm⟩
  case call c =>
    obtain ⟨callee, args, ats⟩ := c
    cases callee <;> simp only [Bool.false_eq_true] at hv <;> try contradiction
    rename_i b
    cases b
    all_goals first
      | exact absurd hv (by decide)
      | exact value_of_map h
  case pick c a b =>
    simp only [execOp] at h
    rw [Sem.run_bind] at h
    generalize (asBool (ρ c)).run P w = r at h
    cases r with
    | ok v w1 => exact ⟨_, by injection h with h1 _; exact h1.symm⟩
    | halt x w1 => cases h
  all_goals exact value_of_map h

section
variable {P : Program} {ops : Array Oper} {Q : Exit → Act → World → Prop} {md : Region.Mode} {C : World → Prop}

/-- The walk: 'true': the operation only looks, and yields one value in every world of the class; 'false': it acts, in the world at hand, and leaves one of the class. -/
def wpMix (P : Program) (ops : Array Oper) (Q : Exit → Act → World → Prop) (C : World → Prop) : List Bool → List Oper → Act → World → Prop
  | _, [], a, w => Q .normal a w
  | [], _ :: _, _, _ => False
  | true :: ks, o :: l, a, w => if Region.wanted o (yielded ops a.tmps) then o.quiet P a C (fun a' => wpMix P ops Q C ks l a' w) else wpMix P ops Q C ks l (a.put o.dst undef) w
  | false :: ks, o :: l, a, w => if Region.wanted o (yielded ops a.tmps) then o.wp P a w (fun a' w' => C w' ∧ wpMix P ops Q C ks l a' w') Q else wpMix P ops Q C ks l (a.put o.dst undef) w

/-- Is this order of the walk one that serves for all? -/
def mixB (md : Region.Mode) (ops : Array Oper) : List Nat → List Bool → Array Bool → Bool
  | [], _, listed => (Region.ready md ops listed).isEmpty
  | i :: is, true :: ks, listed => (Region.ready md ops listed).contains i && Region.free md ops listed i && ((ops[i]?).map valueOnly).getD false && mixB md ops is ks (listed.setIfInBounds i true)
  | i :: is, false :: ks, listed => (Region.ready md ops listed == [i]) && mixB md ops is ks (listed.setIfInBounds i true)
  | _ :: _, [], _ => false

theorem yieldsIf_of_quiet {o : Oper} {a : Act} {K : Act → Prop} (hv : valueOnly o = true) (h : o.quiet P a C K) : ∃ v, (∀ w, C w → (execOp a.eval o).run P w = .ok (.value v) w) ∧ K (a.put o.dst v) := by
  obtain ⟨v, h1, h2⟩ := h
  refine ⟨v, fun w hw => ?_, h2⟩
  have h3 := h1 w hw
  unfold Oper.quietAt at h3
  generalize hr : (execOp a.eval o).run P w = r at h3
  cases r with
  | halt x w' => simp only [Oper.quietUpon] at h3
  | ok n w' =>
    obtain ⟨u, rfl⟩ := value_of_valueOnly hv hr
    simp only [Oper.quietUpon] at h3
    obtain ⟨rfl, rfl⟩ := h3
    rfl

theorem wpAnyH_of_mix (hs : Region.noSelect ops = true) (hQ : ∀ (c : _) (a : Act) (d : Option Tmp) (v : Value) (w : World), Q (.panic c) (a.put d v) w → Q (.panic c) a w) :
    ∀ (is : List Nat) (ks : List Bool) (l : List Oper) (listed : Array Bool) (a : Act) (w : World), (∀ j : Nat, l[j]? = (is[j]?).bind (fun i => ops[i]?)) → l.length = is.length →
      mixB md ops is ks listed = true → C w → wpMix P ops Q C ks l a w → wpAnyH P md ops Q C is.length listed a w := by
  intro is
  induction is with
  | nil =>
    intro ks l listed a w _ hn hB _ h
    obtain rfl : l = [] := List.eq_nil_of_length_eq_zero hn
    have h' : Q .normal a w := by cases ks <;> exact h
    exact ⟨by simpa [mixB] using hB, h'⟩
  | cons i is ih =>
    intro ks l listed a w hl hn hB hC h
    cases l with
    | nil => simp at hn
    | cons o l =>
      have ho : ops[i]? = some o := by simpa using (hl 0).symm
      have hl' : ∀ j : Nat, l[j]? = (is[j]?).bind (fun i => ops[i]?) := fun j => by simpa using hl (j + 1)
      have hn' : l.length = is.length := by simpa using hn
      cases ks with
      | nil => simp [mixB] at hB
      | cons k ks =>
        cases k with
        | true =>
          simp only [mixB, Bool.and_eq_true, ho, Option.map_some, Option.getD_some] at hB
          obtain ⟨⟨⟨hr, hf⟩, hv⟩, hB'⟩ := hB
          simp only [wpMix] at h
          by_cases hw : Region.wanted o (yielded ops a.tmps) = true
          · rw [if_pos hw] at h
            obtain ⟨v, h1, h2⟩ := yieldsIf_of_quiet hv h
            exact wpAnyH_take ho hs hf hr (fun c a w => hQ c a _ _ w) (.inl ⟨hw, h1⟩) hC (ih ks l _ _ w hl' hn' hB' hC h2)
          · rw [if_neg hw] at h
            exact wpAnyH_take ho hs hf hr (fun c a w => hQ c a _ _ w) (.inr ⟨by simpa using hw, rfl⟩) hC (ih ks l _ _ w hl' hn' hB' hC h)
        | false =>
          simp only [mixB, Bool.and_eq_true] at hB
          obtain ⟨hr, hB'⟩ := hB
          simp only [wpMix] at h
          refine wpAnyH_all (rs := [i]) (by simpa using hr) (by simp) (fun j hj => ?_)
          obtain rfl : j = i := by simpa using hj
          unfold wpOp
          simp only [ho]
          by_cases hw : Region.wanted o (yielded ops a.tmps) = true
          · rw [if_pos hw] at h ⊢
            exact .inl (Oper.wp_mono (fun a' w' hh => ⟨hh.1, ih ks l _ a' w' hl' hn' hB' hh.1 hh.2⟩) h)
          · rw [if_neg hw] at h ⊢
            exact ⟨hC, ih ks l _ _ w hl' hn' hB' hC h⟩

/-- The same, closed to whoever would unfold it. -/
structure Mix (P : Program) (ops : Array Oper) (Q : Exit → Act → World → Prop) (C : World → Prop) (ks : List Bool) (l : List Oper) (a : Act) (w : World) : Prop where
  out : wpMix P ops Q C ks l a w
/-- A region, in the text's order. -/
theorem wp_region_mix {id : Nat} {l : List Oper} {a : Act} {w : World} (ks : List Bool) (hm : P.follows .mixedOrders = true) (hs : Region.noSelect l.toArray = true)
    (hB : mixB .any l.toArray (List.range l.length) ks (Array.replicate l.length false) = true)
    (hQ : ∀ (c : _) (a : Act) (d : Option Tmp) (v : Value) (w : World), Q (.panic c) (a.put d v) w → Q (.panic c) a w) (hC : C w.drew) (h : Mix P l.toArray Q C ks l a w.drew) : (Code.region id l.toArray true).wp P Q a w := by
  refine wp_region_held (S := C) hm ?_
  have := wpAnyH_of_mix (md := .any) hs hQ (List.range l.length) ks l (Array.replicate l.length false) a w.drew (fun j => by
    by_cases hj : j < l.length
    · simp [hj]
    · simp [hj]) (by simp) hB hC h.out
  simpa using this
/-- A region, in an order of our own. -/
theorem wp_region_mixed {id : Nat} {l : List Oper} {a : Act} {w : World} (is : List Nat) (ks : List Bool) (hm : P.follows .mixedOrders = true) (hs : Region.noSelect l.toArray = true)
    (hB : (is.all (fun i => decide (i < l.length)) && decide (is.length = l.length) && mixB .any l.toArray is ks (Array.replicate l.length false)) = true)
    (hQ : ∀ (c : _) (a : Act) (d : Option Tmp) (v : Value) (w : World), Q (.panic c) (a.put d v) w → Q (.panic c) a w) (hC : C w.drew) (h : Mix P l.toArray Q C ks (is.map fun i => l.getD i default) a w.drew) : (Code.region id l.toArray true).wp P Q a w := by
  simp only [Bool.and_eq_true, decide_eq_true_eq, List.all_eq_true] at hB
  obtain ⟨⟨h1, h2⟩, h3⟩ := hB
  refine wp_region_held (S := C) hm ?_
  have := wpAnyH_of_mix (md := .any) hs hQ is ks (is.map fun i => l.getD i default) (Array.replicate l.length false) a w.drew (fun j => by
    rw [List.getElem?_map]
    cases hj : is[j]? with
    | none => rfl
    | some i =>
      have hi := h1 i (List.mem_of_getElem? hj)
      simp [hi, List.getD_eq_getElem?_getD]) (by simp) h3 hC h.out
  rw [h2] at this
  simpa using this

theorem wpMix_pure {ks : List Bool} {o : Oper} {l : List Oper} {a : Act} {w : World} (hw : Region.wanted o (yielded ops a.tmps) = true)
    (h : ∀ K : Act → Prop, (∀ a', Mix P ops Q C ks l a' w → K a') → o.quiet P a C K) : Mix P ops Q C (true :: ks) (o :: l) a w := by
  refine ⟨?_⟩
  simp only [wpMix]; rw [if_pos hw]; exact h _ fun _ h => h.out
theorem wpMix_skip {k : Bool} {ks : List Bool} {o : Oper} {l : List Oper} {a : Act} {w : World} (hw : Region.wanted o (yielded ops a.tmps) = false)
    (h : ∀ K : Act → Prop, (∀ a', Mix P ops Q C ks l a' w → K a') → K (a.put o.dst undef)) : Mix P ops Q C (k :: ks) (o :: l) a w := by
  have h' : wpMix P ops Q C ks l (a.put o.dst undef) w := h _ fun _ h => h.out
  refine ⟨?_⟩
  cases k <;> (simp only [wpMix]; rw [if_neg (by rw [hw]; exact Bool.false_ne_true)]; exact h')
theorem wpMix_act {ks : List Bool} {o : Oper} {l : List Oper} {a : Act} {w : World} (hw : Region.wanted o (yielded ops a.tmps) = true)
    (h : ∀ K : Act → World → Prop, (∀ a' w', C w' → Mix P ops Q C ks l a' w' → K a' w') → o.wp P a w K Q) : Mix P ops Q C (false :: ks) (o :: l) a w := by
  refine ⟨?_⟩
  simp only [wpMix]; rw [if_pos hw]; exact h _ fun _ _ hc h => ⟨hc, h.out⟩
theorem mix_world {ks : List Bool} {l : List Oper} {a : Act} {w : World} (X : World → Prop) (hX : X w) (h : ∀ N, X N → Mix P ops Q C ks l a N) : Mix P ops Q C ks l a w := h w hX
/-- The world gets a name, and what is known of it is said. -/
theorem at_world {c : Code} {a : Act} {w : World} (X : World → Prop) (hX : X w) (h : ∀ W, X W → c.wp P Q a W) : c.wp P Q a w := h w hX
theorem wpMix_nil {ks : List Bool} {a : Act} {w : World} (h : Q .normal a w) : Mix P ops Q C ks [] a w := by refine ⟨?_⟩; cases ks <;> exact h
end
end Go.Proofs.YtgnbhcgagdfaiaaGreatDoor

namespace Go.Proofs.YtgnbhcgagdfaiaaGreatDoor
open Go.RowKit
set_option linter.unusedVariables false

structure DRegion where
  id : ByteArray
  level : Int
  near : List ByteArray
  deriving DecidableEq
def rg0 : DRegion := ⟨⟨#[]⟩, 0, []⟩
def cRegion : Cod DRegion where
  n := 3
  rd := fun w cs x fp => ∃ v, cs = [.string x.id, .int .i64 x.level, v] ∧ fStr.ok x.id ∧ fInt.ok x.level ∧ fStr.cod.slice.rd w [v] x.near fp
  pos := by omega
  len := by rintro w cs x fp ⟨v, rfl, _⟩; rfl
  lt := by rintro w cs x fp ⟨v, _, _, _, h⟩; exact fStr.cod.slice.lt h
  keep := by rintro w w' cs x fp ⟨v, rfl, h1, h2, h⟩ hk; exact ⟨v, rfl, h1, h2, fStr.cod.slice.keep h hk⟩
/-- The rows of a slice of regions, laid open. -/
structure RRows (w : World) (b off n : Nat) (V : Nat → Value) (cur : Nat → DRegion) (F : Nat → List Nat) : Prop where
  c0 : ∀ i, i < n → w.cell? ⟨b, off + i * 3, none⟩ = some (.string (cur i).id)
  c1 : ∀ i, i < n → w.cell? ⟨b, off + i * 3 + 1, none⟩ = some (.int .i64 (cur i).level)
  c2 : ∀ i, i < n → w.cell? ⟨b, off + i * 3 + 2, none⟩ = some (V i)
  z : ∀ i, i < n → ∀ j, j < 3 → w.frozen? ⟨b, off + i * 3 + j, none⟩ = false
  ok : ∀ i, i < n → fStr.ok (cur i).id ∧ fInt.ok (cur i).level
  rd : ∀ i, i < n → Sl fStr.cod w (V i) (cur i).near (F i)
section
variable {w w' : World} {b off n cap len : Nat} {A : Option Addr} {V : Nat → Value} {cur : Nat → DRegion} {F : Nat → List Nat} {xs : List DRegion} {fp : List Nat}
theorem Sl.regs (h : Sl cRegion w (.slice A len cap) xs fp) (h0 : 0 < xs.length) :
    ∃ b off V F, A = some ⟨b, off, none⟩ ∧ b < w.heap.size ∧ fp = b :: (List.range xs.length).flatMap F ∧ RRows w b off xs.length V (fun i => xs.getD i rg0) F := by
  obtain ⟨A', cap', hv, hl, hc, hr⟩ := h
  injection hv with hA hn hcap
  subst hA
  rcases hr with ⟨h1, _⟩ | ⟨b, off, F, hA, hb, hfp, hi⟩
  · subst h1; simp at h0
  · have hex : ∀ i, ∃ u, ∀ h : i < xs.length, w.cell? ⟨b, off + i * 3, none⟩ = some (.string xs[i].id) ∧ w.cell? ⟨b, off + i * 3 + 1, none⟩ = some (.int .i64 xs[i].level) ∧ w.cell? ⟨b, off + i * 3 + 2, none⟩ = some u ∧ (∀ j, j < 3 → w.frozen? ⟨b, off + i * 3 + j, none⟩ = false) ∧ (fStr.ok xs[i].id ∧ fInt.ok xs[i].level) ∧ Sl fStr.cod w u xs[i].near (F i) := fun i => by
      by_cases hlt : i < xs.length
      · obtain ⟨cs, h1, h2, v, rfl, h3, h4, u, hu, h5⟩ := hi i hlt
        injection hu with hu _
        subst hu
        exact ⟨v, fun _ => ⟨h1 0 (by decide), h1 1 (by decide), h1 2 (by decide), fun j hj => h2 j hj, ⟨h3, h4⟩, h5⟩⟩
      · exact ⟨undef, fun h => absurd h hlt⟩
    have hg : ∀ i (h : i < xs.length), xs.getD i rg0 = xs[i] := fun i h => by simp [List.getD_eq_getElem?_getD, h]
    refine ⟨b, off, fun i => Classical.choose (hex i), F, hA, hb, hfp, ⟨fun i h => ?_, fun i h => ?_, fun i h => ?_, fun i h => ?_, fun i h => ?_, fun i h => ?_⟩⟩
    · have := (Classical.choose_spec (hex i) h).1; rw [hg i h]; exact this
    · have := (Classical.choose_spec (hex i) h).2.1; rw [hg i h]; exact this
    · exact (Classical.choose_spec (hex i) h).2.2.1
    · exact (Classical.choose_spec (hex i) h).2.2.2.1
    · have := (Classical.choose_spec (hex i) h).2.2.2.2.1; rw [hg i h]; exact this
    · have := (Classical.choose_spec (hex i) h).2.2.2.2.2; rw [hg i h]; exact this
theorem RRows.sl (h : RRows w b off n V cur F) (hb : b < w.heap.size) (hn : xs.length = n) (hx : ∀ i (hi : i < xs.length), xs[i] = cur i) (hc : n ≤ cap) (hm : cap ≤ maxLen) :
    Sl cRegion w (.slice (some ⟨b, off, none⟩) n cap) xs (b :: (List.range n).flatMap F) := by
  subst hn
  refine ⟨_, cap, rfl, hc, hm, .inr ⟨b, off, F, rfl, hb, rfl, fun i hi => ⟨[.string (cur i).id, .int .i64 (cur i).level, V i], fun j hj => ?_, fun j hj => h.z i hi j hj, ?_⟩⟩⟩
  · match j, hj with
    | 0, _ => exact h.c0 i hi
    | 1, _ => exact h.c1 i hi
    | 2, _ => exact h.c2 i hi
  · rw [hx i hi]
    exact ⟨V i, rfl, (h.ok i hi).1, (h.ok i hi).2, V i, rfl, h.rd i hi⟩
theorem RRows.below (h : RRows w b off n V cur F) (hb : b < w.heap.size) (hw : Below w.heap.size w w') : RRows w' b off n V cur F :=
  ⟨fun i hi => (hw.cell (p := ⟨b, _, none⟩) hb).trans (h.c0 i hi), fun i hi => (hw.cell (p := ⟨b, _, none⟩) hb).trans (h.c1 i hi), fun i hi => (hw.cell (p := ⟨b, _, none⟩) hb).trans (h.c2 i hi), fun i hi j hj => (hw.frozen (p := ⟨b, _, none⟩) hb).trans (h.z i hi j hj), h.ok, fun i hi => (h.rd i hi).below' hw⟩
theorem RRows.congr {cur' : Nat → DRegion} (h : RRows w b off n V cur F) (hc : ∀ i, i < n → cur i = cur' i) : RRows w b off n V cur' F :=
  ⟨fun i hi => by rw [← hc i hi]; exact h.c0 i hi, fun i hi => by rw [← hc i hi]; exact h.c1 i hi, h.c2, h.z, fun i hi => by rw [← hc i hi]; exact h.ok i hi, fun i hi => by rw [← hc i hi]; exact h.rd i hi⟩
theorem RRows.setId {k : Nat} (h : RRows w b off n V cur F) (hbF : ∀ i, i < n → b ∉ F i) (hk : k < n) (s : ByteArray) (hs : fStr.ok s) :
    RRows (w.setCell ⟨b, off + k * 3, none⟩ (.string s)) b off n V (fun i => if i = k then ⟨s, (cur i).level, (cur i).near⟩ else cur i) F := by
  have hne : ∀ p, p ≠ off + k * 3 → (w.setCell ⟨b, off + k * 3, none⟩ (.string s)).cell? ⟨b, p, none⟩ = w.cell? ⟨b, p, none⟩ := fun p hp => World.cell?_setCell_other _ _ _ _ (fun e => by injection e with _ e _; exact hp e.symm)
  refine ⟨fun i hi => ?_, fun i hi => ?_, fun i hi => ?_, fun i hi j hj => (frozen?_setCell _ _ _ _).trans (h.z i hi j hj), fun i hi => ?_, fun i hi => ?_⟩
  · by_cases e : i = k
    · subst e; rw [if_pos rfl]; exact World.cell?_setCell_same w _ _ (h.c0 i hi)
    · rw [if_neg e, hne _ (by omega)]; exact h.c0 i hi
  · rw [hne _ (by omega)]
    by_cases e : i = k
    · rw [if_pos e]; exact h.c1 i hi
    · rw [if_neg e]; exact h.c1 i hi
  · rw [hne _ (by omega)]; exact h.c2 i hi
  · by_cases e : i = k
    · rw [if_pos e]; exact ⟨hs, (h.ok i hi).2⟩
    · rw [if_neg e]; exact h.ok i hi
  · have ho : Only [b] w (w.setCell ⟨b, off + k * 3, none⟩ (.string s)) := (Only.refl _ _).set _ _
    have hr := (h.rd i hi).only ho (fun c hc hc2 => by rw [List.mem_singleton] at hc2; subst hc2; exact hbF i hi hc)
    by_cases e : i = k
    · rw [if_pos e]; exact hr
    · rw [if_neg e]; exact hr
theorem RRows.setLevel {k : Nat} (h : RRows w b off n V cur F) (hbF : ∀ i, i < n → b ∉ F i) (hk : k < n) (s : Int) (hs : fInt.ok s) :
    RRows (w.setCell ⟨b, off + k * 3 + 1, none⟩ (.int .i64 s)) b off n V (fun i => if i = k then ⟨(cur i).id, s, (cur i).near⟩ else cur i) F := by
  have hne : ∀ p, p ≠ off + k * 3 + 1 → (w.setCell ⟨b, off + k * 3 + 1, none⟩ (.int .i64 s)).cell? ⟨b, p, none⟩ = w.cell? ⟨b, p, none⟩ := fun p hp => World.cell?_setCell_other _ _ _ _ (fun e => by injection e with _ e _; exact hp e.symm)
  refine ⟨fun i hi => ?_, fun i hi => ?_, fun i hi => ?_, fun i hi j hj => (frozen?_setCell _ _ _ _).trans (h.z i hi j hj), fun i hi => ?_, fun i hi => ?_⟩
  · rw [hne _ (by omega)]
    by_cases e : i = k
    · rw [if_pos e]; exact h.c0 i hi
    · rw [if_neg e]; exact h.c0 i hi
  · by_cases e : i = k
    · subst e; rw [if_pos rfl]; exact World.cell?_setCell_same w _ _ (h.c1 i hi)
    · rw [if_neg e, hne _ (by omega)]; exact h.c1 i hi
  · rw [hne _ (by omega)]; exact h.c2 i hi
  · by_cases e : i = k
    · rw [if_pos e]; exact ⟨(h.ok i hi).1, hs⟩
    · rw [if_neg e]; exact h.ok i hi
  · have ho : Only [b] w (w.setCell ⟨b, off + k * 3 + 1, none⟩ (.int .i64 s)) := (Only.refl _ _).set _ _
    have hr := (h.rd i hi).only ho (fun c hc hc2 => by rw [List.mem_singleton] at hc2; subst hc2; exact hbF i hi hc)
    by_cases e : i = k
    · rw [if_pos e]; exact hr
    · rw [if_neg e]; exact hr
theorem RRows.setNear {k : Nat} {ys : List ByteArray} (h : RRows w b off n V cur F) (hb : b < w.heap.size) (hbF : b ∉ F k) (hap : ∀ i, i < n → i ≠ k → ∀ c ∈ F i, c ∉ F k) (hk : k < n) (hs : Sl fStr.cod w' (V k) ys (F k)) (ho : Only (F k) w w') :
    RRows w' b off n V (fun i => if i = k then ⟨(cur i).id, (cur i).level, ys⟩ else cur i) F := by
  have hbk := ho.block b hb hbF
  have hc : ∀ p, w'.cell? ⟨b, p, none⟩ = w.cell? ⟨b, p, none⟩ := fun p => World.cell?_of_block (a := ⟨b, p, none⟩) hbk
  have hz : ∀ p, w'.frozen? ⟨b, p, none⟩ = w.frozen? ⟨b, p, none⟩ := fun p => World.frozen?_of_block (a := ⟨b, p, none⟩) hbk
  refine ⟨fun i hi => ?_, fun i hi => ?_, fun i hi => (hc _).trans (h.c2 i hi), fun i hi j hj => (hz _).trans (h.z i hi j hj), fun i hi => ?_, fun i hi => ?_⟩
  · rw [hc]; by_cases e : i = k
    · rw [if_pos e]; exact h.c0 i hi
    · rw [if_neg e]; exact h.c0 i hi
  · rw [hc]; by_cases e : i = k
    · rw [if_pos e]; exact h.c1 i hi
    · rw [if_neg e]; exact h.c1 i hi
  · by_cases e : i = k
    · rw [if_pos e]; exact h.ok i hi
    · rw [if_neg e]; exact h.ok i hi
  · by_cases e : i = k
    · subst e; rw [if_pos rfl]; exact hs
    · rw [if_neg e]; exact (h.rd i hi).only ho (hap i hi e)
/-- One region of a slice. -/
theorem Sl.reg {k : Nat} (h : Sl cRegion w (.slice A len cap) xs fp) (hk : k < xs.length) :
    ∃ b off vk fk, A = some ⟨b, off, none⟩ ∧ w.cell? ⟨b, off + k * 3, none⟩ = some (.string xs[k].id) ∧ w.cell? ⟨b, off + k * 3 + 1, none⟩ = some (.int .i64 xs[k].level) ∧ w.cell? ⟨b, off + k * 3 + 2, none⟩ = some vk ∧ Sl fStr.cod w vk xs[k].near fk ∧ b ∈ fp ∧ (∀ c ∈ fk, c ∈ fp) ∧ fStr.ok xs[k].id ∧ fInt.ok xs[k].level := by
  obtain ⟨b, off, V, F, hA, hb, hfp, hr⟩ := h.regs (by omega)
  have e : xs.getD k rg0 = xs[k] := by simp [List.getD_eq_getElem?_getD, hk]
  have h0 := hr.c0 k hk
  have h1 := hr.c1 k hk
  have h3 := hr.rd k hk
  have h4 := hr.ok k hk
  rw [e] at h0 h1 h3 h4
  exact ⟨b, off, V k, F k, hA, h0, h1, hr.c2 k hk, h3, by rw [hfp]; simp, fun c hc => by rw [hfp]; exact List.mem_cons_of_mem _ (List.mem_flatMap.2 ⟨k, by simpa using hk, hc⟩), h4.1, h4.2⟩
end
def totRegion (x : DRegion) : Nat := x.id.size + totStringS x.near
def totRegionS (xs : List DRegion) : Nat := xs.length + (xs.map totRegion).sum
theorem totRegionS_mem {xs : List DRegion} {r : DRegion} (h : r ∈ xs) : totRegion r ≤ totRegionS xs := by
  unfold totRegionS
  have : totRegion r ≤ (xs.map totRegion).sum := by
    obtain ⟨i, hi, rfl⟩ := List.getElem_of_mem h
    have h1 := sum_take_step_ totRegion xs i hi
    have h2 : ((xs.take (i + 1)).map totRegion).sum ≤ (xs.map totRegion).sum := by
      have h3 := congrArg (fun l => (l.map totRegion).sum) (List.take_append_drop (i + 1) xs)
      simp only [List.map_append, List.sum_append] at h3
      omega
    omega
  omega
set_option maxRecDepth 100000 in
set_option maxHeartbeats 2000000 in
theorem szRegion_any (x : DRegion) (v : Value) (fp : List Nat) (left : Int) (w : World) (hx : Sl fStr.cod w v x.near fp) (hok : fStr.ok x.id) (h0 : 0 ≤ left) (h1 : left ≤ 1048576) :
    Calls Tryz.prog 26 #[.agg #[.string x.id, .int .i64 x.level, v], .int .i64 left] w fun e w' => SzR left (totRegion x) w e w' := by
  obtain ⟨A, cap, rfl, hlen, hcap⟩ := hx.form
  have hsz : x.id.size ≤ 9223372036854775807 := hok
  have hB : Below w.heap.size w (w.alloc (.cells #[.string x.id, .int .i64 x.level, .slice A x.near.length cap] 56)) := (Below.refl _ _).alloc (Nat.le_refl _) _
  have hx2 := hx.below' hB
  by_cases hl : left - (x.id.size : Int) < 0
  · go_enter Tryz.func26, Tryz.ntmps26
    go_wp2
    go_ret
    exact .no hB
  · go_enter Tryz.func26, Tryz.ntmps26
    go_wp2_with fail
    refine (szStringS_any _ _ _ _ _ hx2 (by omega) (by omega)).mono ?_
    rintro e w2 ⟨q, rfl, hq, hb2⟩
    have hbb := hB.trans (hb2.mono hB.size)
    by_cases hneg : q < 0
    · go_wp2
      go_ret
      exact .no hbb
    · have hq2 : 0 ≤ q ∧ q + (totStringS x.near : Nat) = left - (x.id.size : Int) := by
        rcases hq with h | h
        · omega
        · exact h
      have HQ := Lib.hid hq2.2
      clear hq hq2
      go_wp2
      go_ret
      exact .yes (by omega) (by have := HQ.out; unfold totRegion; omega) hbb
set_option maxRecDepth 100000 in
set_option maxHeartbeats 2000000 in
theorem szRegionS_any (v : Value) (xs : List DRegion) (fp : List Nat) (left : Int) (w : World) (hx : Sl cRegion w v xs fp) (h0 : 0 ≤ left) (h1 : left ≤ 1048576) :
    Calls Tryz.prog 5 #[v, .int .i64 left] w fun e w' => SzR left (totRegionS xs) w e w' := by
  obtain ⟨A, cap, rfl, hlen, hcap⟩ := hx.form
  by_cases hl : left - (xs.length : Int) < 0
  · go_enter Tryz.func5, Tryz.ntmps5
    go_wp2
    go_ret
    exact .no (Below.refl _ _)
  · go_enter Tryz.func5, Tryz.ntmps5
    go_wp2
    go_loopw [1, 5] (fun l i wr => ∃ k : Nat, k ≤ xs.length ∧ i = .int .i64 k ∧ Below w.heap.size w wr ∧ ∃ r : Int, l = .int .i64 r ∧ 0 ≤ r ∧ r + (xs.length + ((xs.take k).map totRegion).sum : Nat) = left) (fun _ i _ => xs.length - (intOf i).toNat)
    case atStart => exact ⟨0, Nat.zero_le _, rfl, Below.refl _ _, _, rfl, by omega, by simp⟩
    case round =>
      obtain ⟨k, hk, rfl, hb, r, rfl, hr0, hr⟩ := hrel
      have HR := Lib.hid hr
      clear hr
      have hr1 : r ≤ 1048576 := by have := HR.out; omega
      by_cases hlt : k < xs.length
      · obtain ⟨b, off, vk, fk, rfl, hc0, hc1, hc2, hs0, _, _, hok, _⟩ := (hx.below' hb).reg hlt
        obtain ⟨A1, cap1, rfl, _, _⟩ := hs0.form
        go_wp2_with fail
        refine (szRegion_any xs[k] _ _ r _ hs0 hok hr0 hr1).mono ?_
        rintro e w2 ⟨q, rfl, hq, hb2⟩
        have hbb := hb.trans (hb2.mono hb.size)
        by_cases hneg : q < 0
        · go_wp2
          go_ret
          exact .no hbb
        · have hq2 : 0 ≤ q ∧ q + (totRegion xs[k] : Nat) = r := by
            rcases hq with h | h
            · omega
            · exact h
          have HQ := Lib.hid hq2.2
          clear hq hq2 hc0 hc1 hc2
          go_wp2
          go_roundw
          case rel => exact ⟨k + 1, by omega, by go_num, hbb, _, rfl, by omega, by have := HR.out; have := HQ.out; have hst := sum_take_step_ totRegion xs k hlt; omega⟩
          case measure => simp [intOf]; omega
      · go_wp2
        go_ret
        exact .yes hr0 (by have := HR.out; rw [List.take_of_length_le (by omega)] at this; unfold totRegionS; exact this) hb
set_option maxRecDepth 100000 in
set_option maxHeartbeats 2000000 in
theorem eqRegion_any (x : DRegion) (v v' : Value) (fp fp' : List Nat) (w : World) (hx : Sl fStr.cod w v x.near fp) (hy : Sl fStr.cod w v' x.near fp') :
    Calls Tryz.prog 39 #[.agg #[.string x.id, .int .i64 x.level, v], .agg #[.string x.id, .int .i64 x.level, v']] w fun e w' => YesR w e w' := by
  obtain ⟨A, cap, rfl, hlen, hcap⟩ := hx.form
  obtain ⟨A', cap', rfl, hlen', hcap'⟩ := hy.form
  have hB : Below w.heap.size w ((w.alloc (.cells #[.string x.id, .int .i64 x.level, .slice A x.near.length cap] 63)).alloc (.cells #[.string x.id, .int .i64 x.level, .slice A' x.near.length cap'] 63)) := ((Below.refl _ _).alloc (Nat.le_refl _) _).alloc (by simp) _
  have hx2 := hx.below' hB
  have hy2 := hy.below' hB
  go_enter Tryz.func39, Tryz.ntmps39
  go_wp2_with fail
  refine (eqStringS_any _ _ _ _ _ _ hx2 hy2).mono ?_
  rintro e w1 ⟨rfl, hb⟩
  go_wp2
  go_ret
  exact ⟨rfl, hB.trans (hb.mono hB.size)⟩
set_option maxRecDepth 100000 in
set_option maxHeartbeats 4000000 in
theorem eqRegionS_any (v v' : Value) (xs : List DRegion) (fp fp' : List Nat) (w : World) (hx : Sl cRegion w v xs fp) (hy : Sl cRegion w v' xs fp') :
    Calls Tryz.prog 10 #[v, v'] w fun e w' => YesR w e w' := by
  obtain ⟨A, cap, rfl, hlen, hcap⟩ := hx.form
  obtain ⟨A', cap', rfl, hlen', hcap'⟩ := hy.form
  go_enter Tryz.func10, Tryz.ntmps10
  go_wp2
  go_loopw [5] (fun i wr => ∃ k : Nat, k ≤ xs.length ∧ i = .int .i64 k ∧ Below w.heap.size w wr) (fun i _ => xs.length - (intOf i).toNat)
  case atStart => exact ⟨0, Nat.zero_le _, rfl, Below.refl _ _⟩
  case round =>
    obtain ⟨k, hk, rfl, hb⟩ := hrel
    by_cases hlt : k < xs.length
    · obtain ⟨b, off, vk, fk, rfl, hc0, hc1, hc2, hs0, _⟩ := (hx.below' hb).reg hlt
      obtain ⟨b', off', vk', fk', rfl, hd0, hd1, hd2, hs1, _⟩ := (hy.below' hb).reg hlt
      obtain ⟨A1, cap1, rfl, _, _⟩ := hs0.form
      obtain ⟨A2, cap2, rfl, _, _⟩ := hs1.form
      go_wp2
      have ghc0 := cell_regrown hc0
      have ghc1 := cell_regrown hc1
      have ghc2 := cell_regrown hc2
      have ghd0 := cell_regrown hd0
      have ghd1 := cell_regrown hd1
      have ghd2 := cell_regrown hd2
      refine wp_region_mix (C := fun w' => ∃ p : Regrown, w' = Go.Sort.grow (redrawn wr p.d) p.os) [true, true, true, true, true, true, true, true, false, true] (by kernel_rfl) (by kernel_rfl) (by kernel_rfl) (fun _ _ d _ _ h => by cases d <;> exact h) (regrown_of_below (Below.drew (Below.refl _ _))) ?_
      have hS0 : Below (wr.heap.size) wr wr.drew := Below.drew (Below.refl _ _)
      refine wpMix_pure (by kernel_rfl) (fun K hK => ?_); go_big_quiet_op; refine hK _ ?_; clear hK K
      refine wpMix_pure (by kernel_rfl) (fun K hK => ?_); go_big_quiet_op; refine hK _ ?_; clear hK K
      refine wpMix_pure (by kernel_rfl) (fun K hK => ?_); go_big_quiet_op; refine hK _ ?_; clear hK K
      refine wpMix_pure (by kernel_rfl) (fun K hK => ?_); go_big_quiet_op; refine hK _ ?_; clear hK K
      refine wpMix_pure (by kernel_rfl) (fun K hK => ?_); go_big_quiet_op; refine hK _ ?_; clear hK K
      refine wpMix_pure (by kernel_rfl) (fun K hK => ?_); go_big_quiet_op; refine hK _ ?_; clear hK K
      refine wpMix_pure (by kernel_rfl) (fun K hK => ?_); go_big_quiet_op; refine hK _ ?_; clear hK K
      refine wpMix_pure (by kernel_rfl) (fun K hK => ?_); go_big_quiet_op; refine hK _ ?_; clear hK K
      refine wpMix_act (by kernel_rfl) (fun K hK => ?_)
      go_big_op
      refine (eqRegion_any xs[k] _ _ _ _ _ (hs0.below' hS0) (hs1.below' hS0)).mono ?_
      rintro e wr1 ⟨rfl, hbr1⟩
      have hbr1S : Below (wr.heap.size) wr wr1 := hS0.trans (hbr1.mono hS0.size)
      refine hK _ _ (regrown_of_below hbr1S) ?_
      clear hK K
      refine wpMix_pure (by kernel_rfl) (fun K hK => ?_); go_big_quiet_op; refine hK _ ?_; clear hK K
      refine wpMix_nil ?_
      have hbb := hb.trans (hbr1S.mono hb.size)
      go_wp2
      go_roundw
      case rel => exact ⟨k + 1, by omega, by go_num, hbb⟩
      case measure => simp [intOf]; omega
    · go_wp2
      go_ret
      exact ⟨rfl, hb⟩

theorem Only.setIn {fp : List Nat} {w w' : World} {g : Nat} (h : Only fp w w') (hg : g ∈ fp) (o : Nat) (u : Value) : Only fp w (w'.setCell ⟨g, o, none⟩ u) :=
  ⟨h.os, h.tape, h.output, by simpa [World.setCell] using h.size, fun i hi hn => (Below.heap_setCell w' ⟨g, o, none⟩ u i (fun e => hn (by rw [e]; exact hg))).trans (h.block i hi hn)⟩
theorem three_mid (w : World) (o1 o3 : Obj) (cs : Array Value) (T : TypeId) (j : Nat) : (((w.alloc o1).alloc (.cells cs T)).alloc o3).cell? ⟨w.heap.size + 1, j, none⟩ = cs[j]? ∧ (((w.alloc o1).alloc (.cells cs T)).alloc o3).frozen? ⟨w.heap.size + 1, j, none⟩ = false := by
  have hb := (Below.refl ((w.alloc o1).alloc (.cells cs T)).heap.size ((w.alloc o1).alloc (.cells cs T))).alloc (Nat.le_refl _) o3
  have hlt : w.heap.size + 1 < ((w.alloc o1).alloc (.cells cs T)).heap.size := by rw [World.size_alloc, World.size_alloc]; omega
  have h2 : ((w.alloc o1).alloc (.cells cs T)).cell? ⟨(w.alloc o1).heap.size, j, none⟩ = cs[j]? := by rw [World.cell?_alloc_at _ _ _ _ rfl]
  have h3 : ((w.alloc o1).alloc (.cells cs T)).frozen? ⟨(w.alloc o1).heap.size, j, none⟩ = false := by rw [World.frozen?_alloc_at _ _ _ _ rfl]
  rw [World.size_alloc] at h2 h3
  exact ⟨(hb.cell (p := ⟨w.heap.size + 1, j, none⟩) hlt).trans h2, (hb.frozen (p := ⟨w.heap.size + 1, j, none⟩) hlt).trans h3⟩
theorem three_top (w : World) (o1 o2 : Obj) (cs : Array Value) (T : TypeId) (j : Nat) : (((w.alloc o1).alloc o2).alloc (.cells cs T)).cell? ⟨w.heap.size + 1 + 1, j, none⟩ = cs[j]? ∧ (((w.alloc o1).alloc o2).alloc (.cells cs T)).frozen? ⟨w.heap.size + 1 + 1, j, none⟩ = false := by
  have h2 : (((w.alloc o1).alloc o2).alloc (.cells cs T)).cell? ⟨((w.alloc o1).alloc o2).heap.size, j, none⟩ = cs[j]? := by rw [World.cell?_alloc_at _ _ _ _ rfl]
  have h3 : (((w.alloc o1).alloc o2).alloc (.cells cs T)).frozen? ⟨((w.alloc o1).alloc o2).heap.size, j, none⟩ = false := by rw [World.frozen?_alloc_at _ _ _ _ rfl]
  rw [World.size_alloc, World.size_alloc] at h2 h3
  exact ⟨h2, h3⟩
theorem hit_cellG {w : World} {p : Addr} {x : Value} (h : (w.cell? p).isSome = true) : (w.setCell p x).cell? p = some x := by
  obtain ⟨v, hv⟩ := Option.isSome_iff_exists.1 h
  exact World.cell?_setCell_same w p x hv
set_option maxRecDepth 100000 in
set_option maxHeartbeats 4000000 in
theorem toRegion_any (x : DRegion) (v : Value) (fp : List Nat) (w : World) (hx : Sl fStr.cod w v x.near fp) (hl : x.near.length ≤ 1048576) :
    Calls Tryz.prog 34 #[.agg #[.string x.id, .int .i64 x.level, v]] w fun e w' => ∃ A c, e = .returned (.agg #[.string x.id, .int .i64 x.level, .slice A x.near.length c]) ∧ New fStr.cod w (.slice A x.near.length c) x.near w' := by
  obtain ⟨A, cap, rfl, hlen, hcap⟩ := hx.form
  have hB : Below w.heap.size w (((w.alloc (.cells #[.string x.id, .int .i64 x.level, .slice A x.near.length cap] 56)).alloc (.cells #[.string ⟨#[]⟩, .int .i64 0, .slice none 0 0] 63)).alloc (.cells #[.string x.id, .int .i64 x.level, .slice none 0 0] 63)) := (((Below.refl _ _).alloc (Nat.le_refl _) _).alloc (by simp) _).alloc (by simp; omega) _
  have hx2 := hx.below' hB
  have d0 : (((w.alloc (.cells #[.string x.id, .int .i64 x.level, .slice A x.near.length cap] 56)).alloc (.cells #[.string ⟨#[]⟩, .int .i64 0, .slice none 0 0] 63)).alloc (.cells #[.string x.id, .int .i64 x.level, .slice none 0 0] 63)).cell? ⟨w.heap.size + 1, 0, none⟩ = some (.string ⟨#[]⟩) := (three_mid _ _ _ _ _ _).1
  have d1 : (((w.alloc (.cells #[.string x.id, .int .i64 x.level, .slice A x.near.length cap] 56)).alloc (.cells #[.string ⟨#[]⟩, .int .i64 0, .slice none 0 0] 63)).alloc (.cells #[.string x.id, .int .i64 x.level, .slice none 0 0] 63)).cell? ⟨w.heap.size + 1, 1, none⟩ = some (.int .i64 0) := (three_mid _ _ _ _ _ _).1
  have d2 : (((w.alloc (.cells #[.string x.id, .int .i64 x.level, .slice A x.near.length cap] 56)).alloc (.cells #[.string ⟨#[]⟩, .int .i64 0, .slice none 0 0] 63)).alloc (.cells #[.string x.id, .int .i64 x.level, .slice none 0 0] 63)).cell? ⟨w.heap.size + 1, 2, none⟩ = some (.slice none 0 0) := (three_mid _ _ _ _ _ _).1
  have e0 : (((w.alloc (.cells #[.string x.id, .int .i64 x.level, .slice A x.near.length cap] 56)).alloc (.cells #[.string ⟨#[]⟩, .int .i64 0, .slice none 0 0] 63)).alloc (.cells #[.string x.id, .int .i64 x.level, .slice none 0 0] 63)).cell? ⟨w.heap.size + 1 + 1, 0, none⟩ = some (.string x.id) := (three_top _ _ _ _ _ _).1
  have e1 : (((w.alloc (.cells #[.string x.id, .int .i64 x.level, .slice A x.near.length cap] 56)).alloc (.cells #[.string ⟨#[]⟩, .int .i64 0, .slice none 0 0] 63)).alloc (.cells #[.string x.id, .int .i64 x.level, .slice none 0 0] 63)).cell? ⟨w.heap.size + 1 + 1, 1, none⟩ = some (.int .i64 x.level) := (three_top _ _ _ _ _ _).1
  have e2 : (((w.alloc (.cells #[.string x.id, .int .i64 x.level, .slice A x.near.length cap] 56)).alloc (.cells #[.string ⟨#[]⟩, .int .i64 0, .slice none 0 0] 63)).alloc (.cells #[.string x.id, .int .i64 x.level, .slice none 0 0] 63)).cell? ⟨w.heap.size + 1 + 1, 2, none⟩ = some (.slice none 0 0) := (three_top _ _ _ _ _ _).1
  have zz1 : ∀ j, (((w.alloc (.cells #[.string x.id, .int .i64 x.level, .slice A x.near.length cap] 56)).alloc (.cells #[.string ⟨#[]⟩, .int .i64 0, .slice none 0 0] 63)).alloc (.cells #[.string x.id, .int .i64 x.level, .slice none 0 0] 63)).frozen? ⟨w.heap.size + 1, j, none⟩ = false := fun j => (three_mid _ _ _ _ _ _).2
  have zz2 : ∀ j, (((w.alloc (.cells #[.string x.id, .int .i64 x.level, .slice A x.near.length cap] 56)).alloc (.cells #[.string ⟨#[]⟩, .int .i64 0, .slice none 0 0] 63)).alloc (.cells #[.string x.id, .int .i64 x.level, .slice none 0 0] 63)).frozen? ⟨w.heap.size + 1 + 1, j, none⟩ = false := fun j => (three_top _ _ _ _ _ _).2
  have hsz : (((w.alloc (.cells #[.string x.id, .int .i64 x.level, .slice A x.near.length cap] 56)).alloc (.cells #[.string ⟨#[]⟩, .int .i64 0, .slice none 0 0] 63)).alloc (.cells #[.string x.id, .int .i64 x.level, .slice none 0 0] 63)).heap.size = w.heap.size + 1 + 1 + 1 := by simp
  go_enter Tryz.func34, Tryz.ntmps34
  go_wp2_with fail
  generalize (((w.alloc (.cells #[.string x.id, .int .i64 x.level, .slice A x.near.length cap] 56)).alloc (.cells #[.string ⟨#[]⟩, .int .i64 0, .slice none 0 0] 63)).alloc (.cells #[.string x.id, .int .i64 x.level, .slice none 0 0] 63)) = W at *
  refine (toStringS_any _ _ _ _ hx2 hl).mono ?_
  rintro e w2 ⟨y, rfl, ⟨⟨fy, hsy, hlo, hnd⟩, hb⟩⟩
  obtain ⟨Ay, cy, rfl, _, _⟩ := hsy.form
  replace d0 := (hb.cell (p := ⟨w.heap.size + 1, 0, none⟩) (by show w.heap.size + 1 < _; omega)).trans d0
  replace d1 := (hb.cell (p := ⟨w.heap.size + 1, 1, none⟩) (by show w.heap.size + 1 < _; omega)).trans d1
  replace d2 := (hb.cell (p := ⟨w.heap.size + 1, 2, none⟩) (by show w.heap.size + 1 < _; omega)).trans d2
  replace e0 := (hb.cell (p := ⟨w.heap.size + 1 + 1, 0, none⟩) (by show w.heap.size + 1 + 1 < _; omega)).trans e0
  replace e1 := (hb.cell (p := ⟨w.heap.size + 1 + 1, 1, none⟩) (by show w.heap.size + 1 + 1 < _; omega)).trans e1
  replace e2 := (hb.cell (p := ⟨w.heap.size + 1 + 1, 2, none⟩) (by show w.heap.size + 1 + 1 < _; omega)).trans e2
  have z0 := (hb.frozen (p := ⟨w.heap.size + 1, 0, none⟩) (by show w.heap.size + 1 < _; omega)).trans (zz1 0)
  have z1 := (hb.frozen (p := ⟨w.heap.size + 1, 1, none⟩) (by show w.heap.size + 1 < _; omega)).trans (zz1 1)
  have z2 := (hb.frozen (p := ⟨w.heap.size + 1, 2, none⟩) (by show w.heap.size + 1 < _; omega)).trans (zz1 2)
  have y2 := (hb.frozen (p := ⟨w.heap.size + 1 + 1, 2, none⟩) (by show w.heap.size + 1 + 1 < _; omega)).trans (zz2 2)
  have hbb := hB.trans (hb.mono hB.size)
  have hlo2 : ∀ b ∈ fy, w.heap.size + 3 ≤ b := fun b hbm => by have := hlo b hbm; omega
  have hbs := hbb.size
  clear zz1 zz2 hb hlo hx2
  go_wp2
  refine bodyPost_ret (v := .agg #[.string x.id, .int .i64 x.level, .slice Ay x.near.length cy]) (by simp [results, hit_cellG, d0, d1, d2, e0, e1, e2, Tryz.results34, go_sem]) rfl ⟨Ay, cy, rfl, ⟨⟨fy, hsy.only (fp' := [w.heap.size + 1, w.heap.size + 1 + 1]) ?_ ?_, fun b hbm => by have := hlo2 b hbm; omega, hnd⟩, ?_⟩⟩
  · repeat (refine Only.setIn ?_ (by simp) _ _)
    exact Only.refl _ _
  · intro b h1 h2
    have := hlo2 b h1
    simp at h2
    omega
  · exact ((((hbb.setCell (show w.heap.size ≤ w.heap.size + 1 + 1 by omega) _).setCell (show w.heap.size ≤ w.heap.size + 1 by omega) _).setCell (show w.heap.size ≤ w.heap.size + 1 by omega) _).setCell (show w.heap.size ≤ w.heap.size + 1 by omega) _)

/-- A row of regions that the call fills one by one. -/
def RSt (w : World) (g : Nat) (T : TypeId) (xs : List DRegion) (k : Nat) : Prop :=
  ∃ (V : Nat → Value) (F : Nat → List Nat), Fill w g g T 3 xs.length ((List.range k).flatMap fun i => [.string (xs.getD i rg0).id, .int .i64 (xs.getD i rg0).level, V i]) ∧ RRows w g 0 k V (fun i => xs.getD i rg0) F ∧ ((List.range k).flatMap F).Nodup ∧ (∀ c ∈ (List.range k).flatMap F, g < c ∧ c < w.heap.size)
theorem RSt.start (w : World) (T : TypeId) (z : Array Value) (xs : List DRegion) (hn : xs.length ≤ 9223372036854775807) : RSt (w.alloc (.cells (madeCells z (xs.length * 3)) T)) w.heap.size T xs 0 :=
  ⟨fun _ => undef, fun _ => [], by simpa using Fill.start w T 3 xs.length z hn, ⟨fun _ h => absurd h (Nat.not_lt_zero _), fun _ h => absurd h (Nat.not_lt_zero _), fun _ h => absurd h (Nat.not_lt_zero _), fun _ h => absurd h (Nat.not_lt_zero _), fun _ h => absurd h (Nat.not_lt_zero _), fun _ h => absurd h (Nat.not_lt_zero _)⟩, by simp, by simp⟩
section
variable {w w' : World} {g : Nat} {T : TypeId} {xs : List DRegion} {k : Nat}
theorem RSt.lt (h : RSt w g T xs k) : g < w.heap.size := by
  obtain ⟨V, F, h1, _⟩ := h
  exact h1.lt
theorem RSt.below (h : RSt w g T xs k) (hb : Below w.heap.size w w') : RSt w' g T xs k := by
  obtain ⟨V, F, h1, h2, h4, h5⟩ := h
  exact ⟨V, F, h1.below hb h1.lt, h2.below h1.lt hb, h4, fun c hc => ⟨(h5 c hc).1, Nat.lt_of_lt_of_le (h5 c hc).2 hb.size⟩⟩
theorem RSt.cell (h : RSt w g T xs k) {j : Nat} (hj : j < xs.length * 3) : ∃ u, w.cell? ⟨g, j, none⟩ = some u := by
  obtain ⟨V, F, h1, _⟩ := h
  exact h1.cell hj
theorem RSt.frozen (h : RSt w g T xs k) (j : Nat) : w.frozen? ⟨g, j, none⟩ = false := by
  obtain ⟨V, F, h1, _⟩ := h
  exact h1.frozen j
theorem RSt.next (h : RSt w g T xs k) (hk : k < xs.length) {y : Value} (hok : fStr.ok xs[k].id ∧ fInt.ok xs[k].level) (hn : New fStr.cod w y xs[k].near w') :
    RSt (((w'.setCell ⟨g, k * 3, none⟩ (.string xs[k].id)).setCell ⟨g, k * 3 + 1, none⟩ (.int .i64 xs[k].level)).setCell ⟨g, k * 3 + 2, none⟩ y) g T xs (k + 1) := by
  have hg := h.lt
  obtain ⟨V, F, h1, h2, h4, h5⟩ := h
  obtain ⟨⟨f, hs, hlo, hnd⟩, hb⟩ := hn
  generalize hW : ((w'.setCell ⟨g, k * 3, none⟩ (.string xs[k].id)).setCell ⟨g, k * 3 + 1, none⟩ (.int .i64 xs[k].level)).setCell ⟨g, k * 3 + 2, none⟩ y = W
  have ho : Only [g] w' W := by rw [← hW]; exact (((Only.refl _ _).set _ _).set _ _).set _ _
  have hgd : xs.getD k rg0 = xs[k] := by simp [List.getD_eq_getElem?_getD, hk]
  have hne : ∀ c, g < c → c ∉ [g] := fun c hc hm => by rw [List.mem_singleton] at hm; omega
  have em : (List.range (k + 1)).flatMap (fun i => [Value.string (xs.getD i rg0).id, Value.int .i64 (xs.getD i rg0).level, (fun i => if i = k then y else V i) i]) = (List.range k).flatMap (fun i => [Value.string (xs.getD i rg0).id, Value.int .i64 (xs.getD i rg0).level, V i]) ++ [.string xs[k].id] ++ [.int .i64 xs[k].level] ++ [y] := by
    rw [List.range_succ, List.flatMap_append, List.flatMap_cons, List.flatMap_nil, List.append_nil]
    have e0 : (List.range k).flatMap (fun i => [Value.string (xs.getD i rg0).id, Value.int .i64 (xs.getD i rg0).level, (fun i => if i = k then y else V i) i]) = (List.range k).flatMap (fun i => [Value.string (xs.getD i rg0).id, Value.int .i64 (xs.getD i rg0).level, V i]) := by
      rw [List.flatMap_def, List.flatMap_def]
      congr 1
      exact List.map_congr_left (fun i hi => by
        have : i ≠ k := by have : i < k := by simpa using hi
                           omega
        simp only [if_neg this])
    rw [e0, hgd]
    simp
  have ef : (List.range (k + 1)).flatMap (fun i => if i = k then f else F i) = (List.range k).flatMap F ++ f := by
    rw [List.range_succ, List.flatMap_append, List.flatMap_cons, List.flatMap_nil, if_pos rfl, List.append_nil]
    congr 1
    rw [List.flatMap_def, List.flatMap_def]
    congr 1
    exact List.map_congr_left (fun i hi => if_neg (by have : i < k := by simpa using hi
                                                      omega))
  have hf2 : Fill w' g g T 3 xs.length ((List.range k).flatMap fun i => [.string (xs.getD i rg0).id, .int .i64 (xs.getD i rg0).level, V i]) := h1.below hb hg
  have hl : ((List.range k).flatMap fun i => [Value.string (xs.getD i rg0).id, Value.int .i64 (xs.getD i rg0).level, V i]).length = k * 3 := by
    rw [flat_len _ 3 _ (fun _ _ => rfl)]; simp
  have hgw : g < w'.heap.size := Nat.lt_of_lt_of_le hg hb.size
  have h2' := h2.below hg hb
  have hk3 : k * 3 + 3 ≤ xs.length * 3 := by omega
  have p1 := hf2.put_at (p := k * 3) hl.symm (by omega) (.string xs[k].id)
  have p2 := p1.put_at (p := k * 3 + 1) (by rw [List.length_append, hl]; rfl) (by omega) (.int .i64 xs[k].level)
  have p3 := p2.put_at (p := k * 3 + 2) (by rw [List.length_append, List.length_append, hl]; rfl) (by omega) y
  rw [hW] at p3
  have hcell : ∀ j, j ≠ k * 3 → j ≠ k * 3 + 1 → j ≠ k * 3 + 2 → W.cell? ⟨g, j, none⟩ = w'.cell? ⟨g, j, none⟩ := fun j a1 a2 a3 => by
    rw [← hW, World.cell?_setCell_other _ _ _ _ (fun e => by injection e with _ e _; exact a3 e.symm), World.cell?_setCell_other _ _ _ _ (fun e => by injection e with _ e _; exact a2 e.symm), World.cell?_setCell_other _ _ _ _ (fun e => by injection e with _ e _; exact a1 e.symm)]
  obtain ⟨zs, hz⟩ := p3
  have q : ∀ j, j < 3 → W.cell? ⟨g, k * 3 + j, none⟩ = [Value.string xs[k].id, Value.int .i64 xs[k].level, y][j]? := fun j hj => by
    rw [hz.cellAt _ (by omega), List.append_assoc, List.append_assoc, List.append_assoc, List.getElem?_append_right (by rw [hl]; omega), hl, show k * 3 + j - k * 3 = j by omega]
    match j, hj with
    | 0, _ => rfl
    | 1, _ => rfl
    | 2, _ => rfl
  refine ⟨fun i => if i = k then y else V i, fun i => if i = k then f else F i, ?_, ⟨fun i hi => ?_, fun i hi => ?_, fun i hi => ?_, fun i hi j hj => hz.frozenAt _, fun i hi => ?_, fun i hi => ?_⟩, ?_, ?_⟩
  · rw [em]; exact ⟨zs, hz⟩
  · rw [Nat.zero_add]
    by_cases e : i = k
    · subst e; rw [hgd]; exact q 0 (by omega)
    · rw [hcell _ (by omega) (by omega) (by omega)]
      have := h2'.c0 i (by omega); rw [Nat.zero_add] at this; exact this
  · rw [Nat.zero_add]
    by_cases e : i = k
    · subst e; rw [hgd]; exact q 1 (by omega)
    · rw [hcell _ (by omega) (by omega) (by omega)]
      have := h2'.c1 i (by omega); rw [Nat.zero_add] at this; exact this
  · rw [Nat.zero_add]
    by_cases e : i = k
    · subst e; rw [if_pos rfl]; exact q 2 (by omega)
    · rw [hcell _ (by omega) (by omega) (by omega), if_neg e]
      have := h2'.c2 i (by omega); rw [Nat.zero_add] at this; exact this
  · by_cases e : i = k
    · subst e; rw [hgd]; exact hok
    · exact h2.ok i (by omega)
  · by_cases e : i = k
    · subst e; rw [if_pos rfl, if_pos rfl, hgd]
      exact hs.only ho (fun b hb' => hne b (by have := hlo b hb'; omega))
    · rw [if_neg e, if_neg e]
      exact (h2'.rd i (by omega)).only ho (fun b hb' => hne b (h5 b (List.mem_flatMap.2 ⟨i, by simp; omega, hb'⟩)).1)
  · rw [ef, List.nodup_append]
    exact ⟨h4, hnd, fun a ha b hb' e => by have := (h5 a ha).2; have := hlo b hb'; omega⟩
  · rw [ef]
    intro c hc
    have hsz : W.heap.size = w'.heap.size := by rw [← hW]; simp
    rcases List.mem_append.1 hc with hc | hc
    · exact ⟨(h5 c hc).1, by rw [hsz]; exact Nat.lt_of_lt_of_le (h5 c hc).2 hb.size⟩
    · exact ⟨by have := hlo c hc; omega, by rw [hsz]; exact hs.lt c hc⟩
theorem RSt.done (h : RSt w g T xs xs.length) (hm : xs.length ≤ maxLen) : ∃ fp, Sl cRegion w (.slice (some ⟨g, 0, none⟩) xs.length xs.length) xs fp ∧ (∀ b ∈ fp, g ≤ b) ∧ fp.Nodup := by
  have hg := h.lt
  obtain ⟨V, F, h1, h2, h4, h5⟩ := h
  refine ⟨_, h2.sl hg rfl (fun i hi => by simp [List.getD_eq_getElem?_getD, hi]) (Nat.le_refl _) hm, ?_, ?_⟩
  · intro b hb
    rcases List.mem_cons.1 hb with rfl | hb
    · exact Nat.le_refl _
    · exact Nat.le_of_lt (h5 b hb).1
  · rw [List.nodup_cons]
    exact ⟨fun hm' => Nat.lt_irrefl _ (h5 _ hm').1, h4⟩
end
theorem infoRegionS : (Tryz.prog.info? 63).map (fun i => (i.zero, i.size, i.bytes)) = some (some (.agg #[.string ⟨#[]⟩, .int .i64 0, .slice none 0 0]), 3, 48) := by kernel_rfl
set_option maxRecDepth 100000 in
set_option maxHeartbeats 4000000 in
theorem toRegionS_any (v : Value) (xs : List DRegion) (fp : List Nat) (w : World) (hx : Sl cRegion w v xs fp) (h1 : totRegionS xs ≤ 1048576) :
    Calls Tryz.prog 7 #[v] w fun e w' => NewR cRegion w xs e w' := by
  obtain ⟨A, cap, rfl, hlen, hcap⟩ := hx.form
  obtain ⟨i0, hi, hz0, hz1, hz2⟩ := info_parts infoRegionS
  have hl1 : xs.length ≤ 1048576 := by unfold totRegionS at h1; omega
  have hmk := fun W => run_make_rowN (P := Tryz.prog) 27 63 i0 _ Tryz.underlying27 hi hz0 .i64 .i64 xs.length xs.length (Nat.le_refl _) (by rw [hz2]; omega) (by omega) W
  rw [hz1] at hmk
  have hrl : ∀ r ∈ xs, r.near.length ≤ 1048576 := fun r hr => by
    have := totRegionS_mem hr
    unfold totRegion totStringS at this
    omega
  clear h1
  go_enter Tryz.func7, Tryz.ntmps7
  go_wp2
  go_loopw [4] (fun i wr => ∃ k : Nat, k ≤ xs.length ∧ i = .int .i64 k ∧ RSt wr w.heap.size 63 xs k ∧ Below w.heap.size w wr) (fun i _ => xs.length - (intOf i).toNat)
  case atStart => exact ⟨0, Nat.zero_le _, rfl, RSt.start w _ _ _ (by omega), (Below.refl _ _).alloc (Nat.le_refl _) _⟩
  case round =>
    obtain ⟨k, hk, rfl, hst, hb⟩ := hrel
    by_cases hlt : k < xs.length
    · obtain ⟨b, off, vk, fk, rfl, hc0, hc1, hc2, hs0, _, _, hok⟩ := (hx.below' hb).reg hlt
      obtain ⟨A1, cap1, rfl, _, _⟩ := hs0.form
      go_wp2_with fail
      refine (toRegion_any xs[k] _ _ _ hs0 (hrl _ (List.getElem_mem hlt))).mono ?_
      rintro e w2 ⟨Ay, cy, rfl, hn⟩
      have hst1 := hst.below hn.below
      obtain ⟨u0, hu0⟩ := hst1.cell (j := k * 3) (by omega)
      obtain ⟨u1, hu1⟩ := hst1.cell (j := k * 3 + 1) (by omega)
      obtain ⟨u2, hu2⟩ := hst1.cell (j := k * 3 + 2) (by omega)
      have hz0' := hst1.frozen (k * 3)
      have hz1' := hst1.frozen (k * 3 + 1)
      have hz2' := hst1.frozen (k * 3 + 2)
      have hst2 := hst.next hlt hok hn
      have hb2 := hb.trans (hn.below.mono hb.size)
      have hb3 : Below w.heap.size w (((w2.setCell ⟨w.heap.size, k * 3, none⟩ (.string xs[k].id)).setCell ⟨w.heap.size, k * 3 + 1, none⟩ (.int .i64 xs[k].level)).setCell ⟨w.heap.size, k * 3 + 2, none⟩ (.slice Ay xs[k].near.length cy)) := ((hb2.setCell (Nat.le_refl _) _).setCell (Nat.le_refl _) _).setCell (Nat.le_refl _) _
      clear hst hst1 hc0 hc1 hc2
      go_wp2
      go_roundw
      case rel => exact ⟨k + 1, by omega, by go_num, hst2, hb3⟩
      case measure => simp [intOf]; omega
    · have hk' : k = xs.length := by omega
      subst hk'
      go_wp2
      go_ret
      exact ⟨_, rfl, hst.done (by unfold maxLen; omega), hb⟩

def Kr (k0 : Int) (ns : List Nat) (i : Nat) : Int := k0 + 2 * (i : Int) + (preS ns i : Int)
def mkReg (k0 : Int) (ns : List Nat) (i : Nat) : DRegion := ⟨mt (Kr k0 ns i), Kr k0 ns i + 1, marksString (Kr k0 ns i + 1 + 1) (ns.getD i 0)⟩
def marksRegion (k0 : Int) (ns : List Nat) : List DRegion := (List.range ns.length).map (mkReg k0 ns)
theorem marksRegion_len (k0 : Int) (ns : List Nat) : (marksRegion k0 ns).length = ns.length := by simp [marksRegion]
theorem marksRegion_get (k0 : Int) (ns : List Nat) (i : Nat) (h : i < (marksRegion k0 ns).length) : (marksRegion k0 ns)[i] = mkReg k0 ns i := by simp [marksRegion]
def lensR (xs : List DRegion) : List Nat := xs.map fun r => r.near.length
set_option maxRecDepth 100000 in
set_option maxHeartbeats 4000000 in
theorem markRegionS_any (v : Value) (xs : List DRegion) (fp : List Nat) (k0 : Int) (w : World) (hx : Sl cRegion w v xs fp) (hnd : fp.Nodup) (h0 : 0 ≤ k0) (h1 : k0 + 2 * (xs.length : Int) + ((lensR xs).sum : Int) ≤ 1000000000000) :
    Calls Tryz.prog 11 #[v, .int .i64 k0] w fun e w' => MarkR cRegion fp w (k0 + 2 * (xs.length : Int) + ((lensR xs).sum : Int)) v (marksRegion k0 (lensR xs)) e w' := by
  obtain ⟨A, cap, rfl, hlen, hcap⟩ := hx.form
  rcases Nat.eq_zero_or_pos xs.length with hz | hz
  · obtain rfl := List.eq_nil_of_length_eq_zero hz
    go_enter Tryz.func11, Tryz.ntmps11
    go_wp2
    go_loop [1, 5] (fun n i => i = .int .i64 0 ∧ n = .int .i64 k0) (fun _ _ => 0)
    case atStart => exact ⟨rfl, rfl⟩
    case round =>
      obtain ⟨rfl, rfl⟩ := hrel
      go_wp2
      go_ret
      exact ⟨ret_int (by simp [lensR]), hx, .refl _ _⟩
  · obtain ⟨b, off, V, F, rfl, hbw, rfl, hr⟩ := hx.regs hz
    obtain ⟨hap1, hap2, hap3⟩ := rows_apart hnd
    obtain ⟨ns, hns⟩ : ∃ ns, ns = lensR xs := ⟨_, rfl⟩
    have hnl : ns.length = xs.length := by rw [hns]; simp [lensR]
    have hng : ∀ k, (h : k < xs.length) → ns[k]? = some xs[k].near.length := fun k h => by rw [hns]; simp [lensR, h]
    rw [← hns] at h1 ⊢
    have hsum := fun k => preS_le ns k
    clear hns
    go_enter Tryz.func11, Tryz.ntmps11
    go_wp2
    go_loopw [1, 5] (fun n i wr => ∃ k : Nat, k ≤ xs.length ∧ i = .int .i64 k ∧ ∃ q : Int, n = .int .i64 q ∧ 0 ≤ q ∧ Hid (q = Kr k0 ns k) ∧ RRows wr b off xs.length V (fun i => if i < k then mkReg k0 ns i else xs.getD i rg0) F ∧ Only (b :: (List.range xs.length).flatMap F) w wr) (fun _ i _ => xs.length - (intOf i).toNat)
    case atStart => exact ⟨0, Nat.zero_le _, rfl, k0, rfl, h0, by show _ = _; simp [Kr, preS], by simpa using hr, .refl _ _⟩
    case round =>
      obtain ⟨k, hk, rfl, q, rfl, hq0, HQ, hrw, ho⟩ := hrel
      have hbw' : b < wr.heap.size := Nat.lt_of_lt_of_le hbw ho.size
      by_cases hlt : k < xs.length
      · have hrk : xs.getD k rg0 = xs[k] := by simp [List.getD_eq_getElem?_getD, hlt]
        have hnk : ns[k]'(by omega) = xs[k].near.length := by have := hng k hlt; rw [List.getElem?_eq_getElem (by omega)] at this; exact Option.some.inj this
        have hps : preS ns (k + 1) = preS ns k + xs[k].near.length := by rw [preS_succ (by omega), hnk]
        have hgd : ns.getD k 0 = xs[k].near.length := by rw [List.getD_eq_getElem?_getD, hng k hlt]; rfl
        have hq1 : q + 2 + (xs[k].near.length : Int) ≤ 1000000000000 := by have := hsum (k + 1); have := HQ.out; unfold Kr at this; omega
        have HQ2 : Hid (q + 1 + 1 + (xs[k].near.length : Int) = Kr k0 ns (k + 1)) := by show _ = _; have := HQ.out; unfold Kr at *; omega
        have HM : Hid ((⟨mt q, q + 1, marksString (q + 1 + 1) xs[k].near.length⟩ : DRegion) = mkReg k0 ns k) := by show _ = _; unfold mkReg; rw [← HQ.out, hgd]
        have hc0 := hrw.c0 k hlt
        have hz0 := hrw.z k hlt 0 (by omega)
        rw [Nat.add_zero] at hz0
        clear hnk hps hgd
        go_wp2_with fail
        refine (markText_any _ _ (by omega)).mono ?_
        rintro e w0 ⟨rfl, hbm⟩
        have hr0 := hrw.below hbw' hbm
        replace hc0 := (hbm.cell (p := ⟨b, off + k * 3, none⟩) hbw').trans hc0
        replace hz0 := (hbm.frozen (p := ⟨b, off + k * 3, none⟩) hbw').trans hz0
        have ho0 := ho.trans (.of_below hbm)
        have hbw0 : b < w0.heap.size := Nat.lt_of_lt_of_le hbw' hbm.size
        clear hrw ho hbm
        have hr1 := hr0.setId (fun i hi => hap1 i hi) hlt (mt q) (mt_ok _ (by omega))
        have ho1 := ho0.setIn (List.mem_cons_self) (off + k * 3) (.string (mt q))
        have hc1 := hr1.c1 k hlt
        have hz1 := hr1.z k hlt 1 (by omega)
        have hr2 := hr1.setLevel (fun i hi => hap1 i hi) hlt (q + 1) (by show _ ∧ _; omega)
        have ho2 := ho1.setIn (List.mem_cons_self) (off + k * 3 + 1) (.int .i64 (q + 1))
        have hc2 := hr2.c2 k hlt
        have hs2 := hr2.rd k hlt
        have hbw2 : b < ((w0.setCell ⟨b, off + k * 3, none⟩ (.string (mt q))).setCell ⟨b, off + k * 3 + 1, none⟩ (.int .i64 (q + 1))).heap.size := by simpa using hbw0
        simp only [if_true, if_neg (Nat.lt_irrefl k), hrk] at hs2
        clear hr0 hr1 ho0 ho1
        obtain ⟨Ay, cy, hVk, _, _⟩ := hs2.form
        rw [hVk] at hc2 hs2
        have HVK := Lib.hid hVk
        clear hVk
        go_wp2_with fail
        generalize ((w0.setCell ⟨b, off + k * 3, none⟩ (.string (mt q))).setCell ⟨b, off + k * 3 + 1, none⟩ (.int .i64 (q + 1))) = w2 at *
        refine (markStringS_any _ _ _ _ _ hs2 (by omega) (by omega)).mono ?_
        rintro e w3 ⟨rfl, hs3, ho3⟩
        rw [← HVK.out] at hs3
        have hr3 := hr2.setNear hbw2 (hap1 k hlt) (fun i hi hne => hap2 i k hi hlt hne) hlt hs3 ho3
        have ho4 : Only (b :: (List.range xs.length).flatMap F) w w3 := ho2.trans (ho3.sub (fun c hc => List.mem_cons_of_mem _ (List.mem_flatMap.2 ⟨k, by simpa using hlt, hc⟩)))
        have hq2 : 0 ≤ q + 1 + 1 + (xs[k].near.length : Int) := by omega
        clear hs3 ho3 hs2 hc0 hc1 hc2 hz0 hz1 hr2 ho2
        go_wp2
        go_roundw
        case rel =>
          refine ⟨k + 1, by omega, by go_num, _, rfl, hq2, HQ2, hr3.congr (fun i hi => ?_), ho4⟩
          by_cases e1 : i = k
          · subst e1
            simp only [if_true, if_neg (Nat.lt_irrefl i), if_pos (Nat.lt_succ_self i)]
            exact HM.out
          · simp only [if_neg e1]
            by_cases e2 : i < k
            · rw [if_pos e2, if_pos (by omega)]
            · rw [if_neg e2, if_neg (by omega)]
        case measure => simp [intOf]; omega
      · have hke : k = xs.length := by omega
        subst hke
        have hfin : Sl cRegion wr (.slice (some ⟨b, off, none⟩) xs.length cap) (marksRegion k0 ns) (b :: (List.range xs.length).flatMap F) :=
          hrw.sl hbw' ((marksRegion_len _ _).trans hnl) (fun i hi => by rw [marksRegion_get, if_pos (by rw [marksRegion_len] at hi; omega)]) hlen (by unfold maxLen; exact hcap)
        have hpf : preS ns xs.length = ns.sum := preS_full (by omega)
        have HR : Hid (q = k0 + 2 * (xs.length : Int) + (ns.sum : Int)) := by show _ = _; rw [HQ.out]; unfold Kr; rw [hpf]
        clear hrw hpf
        go_wp2
        go_ret
        exact ⟨ret_int HR.out, hfin, ho⟩

end Go.Proofs.YtgnbhcgagdfaiaaGreatDoor

namespace Go.Proofs.YtgnbhcgagdfaiaaGreatDoor
open Go.RowKit

def inB (a lo hi : Int) : Bool := decide (lo ≤ a) && decide (a ≤ hi)
theorem inB_true {a lo hi : Int} : inB a lo hi = true ↔ lo ≤ a ∧ a ≤ hi := by simp [inB]
theorem inB_false {a lo hi : Int} : inB a lo hi = false ↔ a < lo ∨ hi < a := by
  simp [inB]
  omega

set_option maxRecDepth 100000 in
set_option maxHeartbeats 400000 in
theorem l00InB_any (a b c : Int) (w : World) :
    Calls Tryz.prog 85 #[.int .i64 a, .int .i64 b, .int .i64 c] w fun e w' => e = .returned (.bool (inB a b c)) ∧ w = w' := by
  go_enter Tryz.func85, Tryz.ntmps85
  go_wp2
  all_goals
    go_ret
    exact ⟨ret_bool (by simp [inB, *] <;> omega), rfl⟩
set_option maxRecDepth 100000 in
set_option maxHeartbeats 400000 in
theorem withinB_any (a b c : Int) (w : World) :
    Calls Tryz.prog 101 #[.int .i64 a, .int .i64 b, .int .i64 c] w fun e w' => e = .returned (.bool (inB a b c)) ∧ w = w' := by
  go_enter Tryz.func101, Tryz.ntmps101
  go_wp2
  all_goals
    go_ret
    exact ⟨ret_bool (by simp [inB, *] <;> omega), rfl⟩

def smallB (c : Int) : Bool := inB c 97 122
def digitB (c : Int) : Bool := inB c 48 57
def okNm (c : UInt8) : Bool := smallB c.toNat || digitB c.toNat
def allNm (l : List UInt8) : Bool := l.all okNm
def headNm (s : ByteArray) : Bool := match s.data.toList with | [] => false | c :: _ => smallB c.toNat
def nameB (s : ByteArray) : Bool := decide (s.size ≤ 10) && headNm s && allNm s.data.toList

theorem headNm_zero {s : ByteArray} (h : s.size = 0) : headNm s = false := by
  unfold headNm
  have : s.data.toList = [] := List.eq_nil_of_length_eq_zero (by simpa using h)
  rw [this]
theorem headNm_pos {s : ByteArray} (h : 0 < s.size) : headNm s = smallB s[0].toNat := by
  obtain ⟨⟨l⟩⟩ := s
  cases l with
  | nil => exact absurd h (by show ¬ 0 < 0; omega)
  | cons c r => rfl
theorem allNm_step {s : ByteArray} {k : Nat} (h : k < s.size) (h0 : allNm (s.data.toList.take k) = true) (h1 : okNm s[k] = true) : allNm (s.data.toList.take (k + 1)) = true := by
  rw [List.take_succ_eq_append_getElem (by simpa using h)]
  unfold allNm at *
  rw [List.all_append, h0]
  simp only [List.all_cons, List.all_nil, Bool.and_true, Bool.true_and]
  exact h1
theorem allNm_bad {s : ByteArray} {k : Nat} (h : k < s.size) (h1 : okNm s[k] = false) : allNm s.data.toList = false := by
  unfold allNm
  rw [List.all_eq_false]
  exact ⟨s[k], Array.mem_toList_iff.2 (Array.getElem_mem _), by rw [h1]; simp⟩
theorem allNm_full {s : ByteArray} {k : Nat} (h : s.size ≤ k) (h0 : allNm (s.data.toList.take k) = true) : allNm s.data.toList = true := by
  rwa [List.take_of_length_le (by simpa using h)] at h0

theorem okNm_true {c : UInt8} (h : (97 ≤ (c.toNat : Int) ∧ (c.toNat : Int) ≤ 122) ∨ (48 ≤ (c.toNat : Int) ∧ (c.toNat : Int) ≤ 57)) : okNm c = true := by
  simp only [okNm, smallB, digitB, Bool.or_eq_true, inB_true]; exact h
theorem okNm_false {c : UInt8} (h : ((c.toNat : Int) < 97 ∨ 122 < (c.toNat : Int)) ∧ ((c.toNat : Int) < 48 ∨ 57 < (c.toNat : Int))) : okNm c = false := by
  simp only [okNm, smallB, digitB, Bool.or_eq_false_iff, inB_false]; exact h

set_option maxRecDepth 100000 in
set_option maxHeartbeats 1000000 in
theorem onlyNameBytes_any (s : ByteArray) (w : World) (hs : s.size ≤ 9223372036854775807) :
    Calls Tryz.prog 100 #[.string s] w fun e w' => e = .returned (.bool (allNm s.data.toList)) ∧ w = w' := by
  go_enter Tryz.func100, Tryz.ntmps100
  go_wp2
  go_loop [7] (fun i => ∃ k : Nat, k ≤ s.size ∧ i = .int .i64 k ∧ allNm (s.data.toList.take k) = true) (fun i => s.size - (intOf i).toNat)
  case atStart => exact ⟨0, Nat.zero_le _, rfl, rfl⟩
  case round =>
    obtain ⟨k, hk, rfl, h0⟩ := hrel
    have H0 := Lib.hid h0
    clear h0
    by_cases hlt : k < s.size
    · go_wp2
      all_goals first
        | (go_ret; exact ⟨ret_bool (allNm_bad hlt (okNm_false (by omega))).symm, rfl⟩)
        | (go_round
           case rel => exact ⟨k + 1, by omega, by go_num, allNm_step hlt H0.out (okNm_true (by omega))⟩
           case measure => simp [intOf]; omega)
    · go_wp2
      go_ret
      exact ⟨ret_bool (allNm_full (by omega) H0.out).symm, rfl⟩
theorem nameB_empty {s : ByteArray} (h : s.size = 0) : nameB s = false := by simp [nameB, headNm_zero h]
theorem nameB_long {s : ByteArray} (h : 10 < s.size) : nameB s = false := by
  have : decide (s.size ≤ 10) = false := by simp; omega
  simp [nameB, this]
theorem nameB_head {s : ByteArray} (h : 0 < s.size) (h1 : (s[0].toNat : Int) < 97 ∨ 122 < (s[0].toNat : Int)) : nameB s = false := by
  have : headNm s = false := by rw [headNm_pos h]; exact inB_false.2 h1
  simp [nameB, this]
theorem nameB_rest {s : ByteArray} (h : 0 < s.size) (h0 : s.size ≤ 10) (h1 : 97 ≤ (s[0].toNat : Int) ∧ (s[0].toNat : Int) ≤ 122) : nameB s = allNm s.data.toList := by
  have : headNm s = true := by rw [headNm_pos h]; exact inB_true.2 h1
  simp [nameB, this, h0]

set_option maxRecDepth 100000 in
set_option maxHeartbeats 1000000 in
theorem implIsName_any (s : ByteArray) (w : World) (hs : s.size ≤ 9223372036854775807) :
    Calls Tryz.prog 65 #[.string s] w fun e w' => e = .returned (.bool (nameB s)) ∧ w = w' := by
  by_cases c0 : s.size = 0
  · rw [nameB_empty c0]
    have c0' : (s.size : Int) < 1 := by omega
    clear c0
    go_enter Tryz.func65, Tryz.ntmps65
    go_wp2
    go_ret
    exact ⟨rfl, rfl⟩
  · by_cases c1 : 10 < s.size
    · rw [nameB_long c1]
      go_enter Tryz.func65, Tryz.ntmps65
      go_wp2
      go_ret
      exact ⟨rfl, rfl⟩
    · have c2 : 0 < s.size := by omega
      by_cases c3 : 97 ≤ (s[0].toNat : Int) ∧ (s[0].toNat : Int) ≤ 122
      · rw [nameB_rest c2 (by omega) c3]
        obtain ⟨c4, c5⟩ := c3
        go_enter Tryz.func65, Tryz.ntmps65
        go_wp2_with (go_at_call 100; refine (onlyNameBytes_any _ _ hs).mono ?_; rintro e w' ⟨rfl, rfl⟩)
        go_ret
        exact ⟨rfl, rfl⟩
      · rw [nameB_head c2 (by omega)]
        by_cases c4 : (s[0].toNat : Int) < 97
        · clear c3
          go_enter Tryz.func65, Tryz.ntmps65
          go_wp2
          go_ret
          exact ⟨rfl, rfl⟩
        · have c5 : 122 < (s[0].toNat : Int) := by omega
          clear c3
          go_enter Tryz.func65, Tryz.ntmps65
          go_wp2
          go_ret
          exact ⟨rfl, rfl⟩
set_option maxRecDepth 100000 in
set_option maxHeartbeats 400000 in
theorem l01Small_any (c : Int) (w : World) :
    Calls Tryz.prog 98 #[.int .u8 c] w fun e w' => e = .returned (.bool (smallB c)) ∧ w = w' := by
  go_enter Tryz.func98, Tryz.ntmps98
  go_wp2
  all_goals
    go_ret
    exact ⟨ret_bool (by simp [smallB, inB, *] <;> omega), rfl⟩
set_option maxRecDepth 100000 in
set_option maxHeartbeats 400000 in
theorem l01Digit_any (c : Int) (w : World) :
    Calls Tryz.prog 99 #[.int .u8 c] w fun e w' => e = .returned (.bool (digitB c)) ∧ w = w' := by
  go_enter Tryz.func99, Tryz.ntmps99
  go_wp2
  all_goals
    go_ret
    exact ⟨ret_bool (by simp [digitB, inB, *] <;> omega), rfl⟩

set_option maxRecDepth 100000 in
set_option maxHeartbeats 1000000 in
theorem l01Name_any (s : ByteArray) (w : World) (hs : s.size ≤ 9223372036854775807) :
    Calls Tryz.prog 59 #[.string s] w fun e w' => e = .returned (.bool (nameB s)) ∧ w = w' := by
  by_cases c0 : s.size = 0
  · rw [nameB_empty c0]
    have e0 : s = ⟨#[]⟩ := ByteArray.ext (Array.eq_empty_of_size_eq_zero c0)
    subst e0
    clear c0
    go_enter Tryz.func59, Tryz.ntmps59
    go_wp2
    go_ret
    exact ⟨rfl, rfl⟩
  · have hemp : s.toList.isEmpty = false := by
      rw [ByteArray.toList_eq]
      cases hl : s.data.toList with
      | nil => exact absurd (by have := congrArg List.length hl; simpa using this) c0
      | cons => rfl
    by_cases c1 : 10 < s.size
    · rw [nameB_long c1]
      go_enter Tryz.func59, Tryz.ntmps59
      go_wp2
      go_ret
      exact ⟨rfl, rfl⟩
    · have c2 : 0 < s.size := by omega
      by_cases c3 : 97 ≤ (s[0].toNat : Int) ∧ (s[0].toNat : Int) ≤ 122
      · rw [nameB_rest c2 (by omega) c3]
        have c4 : smallB s[0].toNat = true := inB_true.2 c3
        clear c3
        go_enter Tryz.func59, Tryz.ntmps59
        go_wp2_with (go_at_call 98; refine (l01Small_any _ _).mono ?_; rintro e w' ⟨rfl, rfl⟩)
        clear c4
        go_loop [3] (fun i => ∃ k : Nat, k ≤ s.size ∧ i = .int .i64 k ∧ allNm (s.data.toList.take k) = true) (fun i => s.size - (intOf i).toNat)
        case atStart => exact ⟨0, Nat.zero_le _, rfl, rfl⟩
        case round =>
          obtain ⟨k, hk, rfl, h0⟩ := hrel
          have H0 := Lib.hid h0
          clear h0
          by_cases hlt : k < s.size
          · cases d1 : smallB s[k].toNat <;> cases d2 : digitB s[k].toNat
            all_goals
              go_wp2_with (first | (go_at_call 98; refine (l01Small_any _ _).mono ?_; rintro e w' ⟨rfl, rfl⟩) | (go_at_call 99; refine (l01Digit_any _ _).mono ?_; rintro e w' ⟨rfl, rfl⟩))
              first
                | (go_ret; exact ⟨ret_bool (allNm_bad hlt (by simp [okNm, *])).symm, rfl⟩)
                | (go_round
                   case rel => exact ⟨k + 1, by omega, by go_num, allNm_step hlt H0.out (by simp [okNm, *])⟩
                   case measure => simp [intOf]; omega)
          · go_wp2
            go_ret
            exact ⟨ret_bool (allNm_full (by omega) H0.out).symm, rfl⟩
      · rw [nameB_head c2 (by omega)]
        have c4 : smallB s[0].toNat = false := inB_false.2 (by omega)
        clear c3
        go_enter Tryz.func59, Tryz.ntmps59
        go_wp2_with (go_at_call 98; refine (l01Small_any _ _).mono ?_; rintro e w' ⟨rfl, rfl⟩)
        go_ret
        exact ⟨rfl, rfl⟩
end Go.Proofs.YtgnbhcgagdfaiaaGreatDoor

namespace Go.Proofs.YtgnbhcgagdfaiaaGreatDoor
open Go.RowKit
set_option linter.unusedVariables false

/-! ### strings in a list -/
def memS (s : ByteArray) (xs : List ByteArray) : Bool := xs.any fun x => decide (x = s)
def NotS (xs : List ByteArray) (s : ByteArray) (k : Nat) : Prop := ∀ j (hj : j < k) (h : j < xs.length), xs[j] ≠ s
theorem NotS.zero {xs : List ByteArray} {s : ByteArray} : NotS xs s 0 := fun j hj => absurd hj (Nat.not_lt_zero _)
theorem NotS.step {xs : List ByteArray} {s : ByteArray} {k : Nat} (h : k < xs.length) (he : xs[k] ≠ s) (h0 : NotS xs s k) : NotS xs s (k + 1) := by
  intro j hj hl
  by_cases e : j = k
  · subst e; exact he
  · exact h0 j (by omega) hl
theorem NotS.none {xs : List ByteArray} {s : ByteArray} {k : Nat} (h : xs.length ≤ k) (h0 : NotS xs s k) : memS s xs = false := by
  unfold memS
  rw [List.any_eq_false]
  intro x hm
  obtain ⟨j, hj, e⟩ := List.getElem_of_mem hm
  have := h0 j (by omega) hj
  rw [e] at this
  simpa using this
theorem inS {xs : List ByteArray} {s : ByteArray} {k : Nat} (h : k < xs.length) (he : xs[k] = s) : memS s xs = true := by
  unfold memS
  rw [List.any_eq_true]
  exact ⟨xs[k], List.getElem_mem h, by simpa using he⟩
theorem memS_true {xs : List ByteArray} {s : ByteArray} : memS s xs = true ↔ s ∈ xs := by
  unfold memS; rw [List.any_eq_true]
  constructor
  · rintro ⟨x, hx, he⟩
    have he := of_decide_eq_true he
    subst he; exact hx
  · intro h; exact ⟨s, h, decide_eq_true rfl⟩
def memI (n : Int) (xs : List Int) : Bool := xs.any fun x => decide (x = n)
def NotI (xs : List Int) (n : Int) (k : Nat) : Prop := ∀ j (hj : j < k) (h : j < xs.length), xs[j] ≠ n
theorem NotI.zero {xs : List Int} {n : Int} : NotI xs n 0 := fun j hj => absurd hj (Nat.not_lt_zero _)
theorem NotI.step {xs : List Int} {n : Int} {k : Nat} (h : k < xs.length) (he : xs[k] ≠ n) (h0 : NotI xs n k) : NotI xs n (k + 1) := by
  intro j hj hl
  by_cases e : j = k
  · subst e; exact he
  · exact h0 j (by omega) hl
theorem NotI.none {xs : List Int} {n : Int} {k : Nat} (h : xs.length ≤ k) (h0 : NotI xs n k) : memI n xs = false := by
  unfold memI
  rw [List.any_eq_false]
  intro x hm
  obtain ⟨j, hj, e⟩ := List.getElem_of_mem hm
  have := h0 j (by omega) hj
  rw [e] at this
  simpa using this
theorem inI {xs : List Int} {n : Int} {k : Nat} (h : k < xs.length) (he : xs[k] = n) : memI n xs = true := by
  unfold memI
  rw [List.any_eq_true]
  exact ⟨xs[k], List.getElem_mem h, by simpa using he⟩
theorem memI_true {xs : List Int} {n : Int} : memI n xs = true ↔ n ∈ xs := by
  unfold memI; rw [List.any_eq_true]
  constructor
  · rintro ⟨x, hx, he⟩
    have he := of_decide_eq_true he
    subst he; exact hx
  · intro h; exact ⟨n, h, decide_eq_true rfl⟩
set_option maxRecDepth 100000 in
set_option maxHeartbeats 2000000 in
theorem l00Has_any (v : Value) (xs : List Int) (fp : List Nat) (n : Int) (w : World) (hx : Sl fInt.cod w v xs fp) :
    Calls Tryz.prog 30 #[v, .int .i64 n] w fun e w' => e = .returned (.bool (memI n xs)) ∧ w = w' := by
  obtain ⟨A, cap, rfl, hlen, hcap⟩ := hx.form
  go_enter Tryz.func30, Tryz.ntmps30
  go_wp2
  go_loop [5] (fun i => ∃ k : Nat, k ≤ xs.length ∧ i = .int .i64 k ∧ Hid (NotI xs n k)) (fun i => xs.length - (intOf i).toNat)
  case atStart => exact ⟨0, Nat.zero_le _, rfl, NotI.zero⟩
  case round =>
    obtain ⟨k, hk, rfl, H0⟩ := hrel
    by_cases hlt : k < xs.length
    · obtain ⟨b, off, rfl, _, hok, hc, _⟩ := hx.cell1 rfl hlt rfl
      by_cases he : xs[k] = n
      · have HF := Lib.hid (inI hlt he)
        have e6 : (xs[k] == n) = true := by rw [beq_iff_eq]; exact he
        clear he
        go_wp2
        go_ret
        exact ⟨ret_bool HF.out.symm, rfl⟩
      · have HS := Lib.hid (NotI.step hlt he H0.out)
        have e6 : (xs[k] == n) = false := by rw [beq_eq_false_iff_ne]; exact he
        clear he
        go_wp2
        go_round
        case rel => exact ⟨k + 1, by omega, by go_num, HS⟩
        case measure => simp [intOf]; omega
    · have HF := Lib.hid (NotI.none (by omega) H0.out)
      go_wp2
      go_ret
      exact ⟨ret_bool HF.out.symm, rfl⟩
set_option maxRecDepth 100000 in
set_option maxHeartbeats 2000000 in
theorem indexS_any (v : Value) (xs : List ByteArray) (fp : List Nat) (s : ByteArray) (w : World) (hx : Sl fStr.cod w v xs fp) :
    Calls Tryz.prog 133 #[v, .string s] w fun e w' => ∃ r : Int, e = .returned (.int .i64 r) ∧ decide (0 ≤ r) = memS s xs ∧ w = w' := by
  obtain ⟨A, cap, rfl, hlen, hcap⟩ := hx.form
  go_enter Tryz.func133, Tryz.ntmps133
  go_wp2
  go_loop [8] (fun i => ∃ k : Nat, k ≤ xs.length ∧ i = .int .i64 k ∧ Hid (NotS xs s k)) (fun i => xs.length - (intOf i).toNat)
  case atStart => exact ⟨0, Nat.zero_le _, rfl, NotS.zero⟩
  case round =>
    obtain ⟨k, hk, rfl, H0⟩ := hrel
    by_cases hlt : k < xs.length
    · obtain ⟨b, off, rfl, _, hok, hc, _⟩ := hx.cell1 rfl hlt rfl
      by_cases he : xs[k] = s
      · have HF := Lib.hid (inS hlt he)
        have e6 : (s.toList == xs[k].toList) = true := eqS_true.2 he.symm
        clear he
        go_wp2
        go_ret
        exact ⟨_, rfl, by rw [HF.out, decide_eq_true_eq]; omega, rfl⟩
      · have HS := Lib.hid (NotS.step hlt he H0.out)
        have e6 : (s.toList == xs[k].toList) = false := bytes_beq_false (fun e => he e.symm)
        clear he
        go_wp2
        go_round
        case rel => exact ⟨k + 1, by omega, by go_num, HS⟩
        case measure => simp [intOf]; omega
    · have HF := Lib.hid (NotS.none (by omega) H0.out)
      go_wp2
      go_ret
      exact ⟨_, rfl, by rw [HF.out]; rfl, rfl⟩
set_option maxRecDepth 100000 in
set_option maxHeartbeats 2000000 in
theorem containsS_any (v : Value) (xs : List ByteArray) (fp : List Nat) (s : ByteArray) (w : World) (hx : Sl fStr.cod w v xs fp) :
    Calls Tryz.prog 102 #[v, .string s] w fun e w' => e = .returned (.bool (memS s xs)) ∧ w = w' := by
  go_enter Tryz.func102, Tryz.ntmps102
  go_wp2_with fail
  refine (indexS_any v xs fp s w hx).mono ?_
  rintro e w1 ⟨r, rfl, hr, rfl⟩
  have HR := Lib.hid hr
  clear hr
  go_wp2
  go_ret
  exact ⟨ret_bool HR.out, rfl⟩
end Go.Proofs.YtgnbhcgagdfaiaaGreatDoor
