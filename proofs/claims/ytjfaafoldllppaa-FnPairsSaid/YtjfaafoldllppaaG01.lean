/- Parts of the proof: Base, Mark, Coll, Ds, TGroup, PGroup, Nm, Seg, Qd, Ap, Fk. -/
import Derived.Test.YtjfaafoldllppaaRows
import Derived.WalkKit
import Derived.WalkSpells
import Derived.WalkLawsBesides
import Derived.Lib.Hide
import Derived.Deep.Draws
import Derived.Deep.QuietTactic
import Derived.BigQuiet
import Derived.Deep.DeepFit
import Derived.Lib.QuietBelow
import Derived.OrdersHeld
import Derived.Deep.RegionHeld
import Derived.Laws.OwnMore
import Derived.Maps.AppendAt
namespace Go.Proofs.Ytjfaafoldllppaa
open Go.RowKit

theorem ret_bool {a b : Bool} (h : a = b) : Ending.returned (.bool a) = .returned (.bool b) := by rw [h]
theorem ret_str {a b : ByteArray} (h : a = b) : Ending.returned (.string a) = .returned (.string b) := by rw [h]
theorem ret_int {k : IntKind} {a b : Int} (h : a = b) : Ending.returned (.int k a) = .returned (.int k b) := by rw [h]

theorem bytes_toList_inj {a b : ByteArray} (h : a.toList = b.toList) : a = b := by
  rw [ByteArray.toList_eq, ByteArray.toList_eq] at h
  exact ByteArray.ext (Array.toList_inj.mp h)
theorem bytes_beq_false {a b : ByteArray} (h : ¬ a = b) : (a.toList == b.toList) = false := by
  rw [beq_eq_false_iff_ne]
  exact fun e => h (bytes_toList_inj e)

/-- How a datum lies in cells: the cells, the datum, the blocks behind it. -/
structure Cod (α : Type) where
  n : Nat
  rd : World → List Value → α → List Nat → Prop
  pos : 0 < n
  len : ∀ {w cs x fp}, rd w cs x fp → cs.length = n
  lt : ∀ {w cs x fp}, rd w cs x fp → ∀ b ∈ fp, b < w.heap.size
  keep : ∀ {w w' cs x fp}, rd w cs x fp → (∀ b ∈ fp, w'.heap[b]? = w.heap[b]?) → rd w' cs x fp

/-- A datum whose cells are a function of it: no memory behind it. -/
structure Flat (α : Type) where
  n : Nat
  enc : α → List Value
  ok : α → Prop
  pos : 0 < n
  len : ∀ x, (enc x).length = n
  one : ∀ x, ∀ v ∈ enc x, v.oneCell' = true

def Flat.cod {α : Type} (E : Flat α) : Cod α where
  n := E.n
  rd := fun _ cs x fp => cs = E.enc x ∧ E.ok x ∧ fp = []
  pos := E.pos
  len := by rintro w cs x fp ⟨rfl, _, _⟩; exact E.len x
  lt := by rintro w cs x fp ⟨_, _, rfl⟩ b hb; simp at hb
  keep := by rintro w w' cs x fp h _; exact h

def fInt : Flat Int where
  n := 1
  enc := fun x => [.int .i64 x]
  ok := fun x => -9223372036854775808 ≤ x ∧ x ≤ 9223372036854775807
  pos := by omega
  len := fun _ => rfl
  one := by intro x v hv; simp at hv; subst hv; rfl
def fStr : Flat ByteArray where
  n := 1
  enc := fun x => [.string x]
  ok := fun x => x.size ≤ 9223372036854775807
  pos := by omega
  len := fun _ => rfl
  one := by intro x v hv; simp at hv; subst hv; rfl
def fBool : Flat Bool where
  n := 1
  enc := fun x => [.bool x]
  ok := fun _ => True
  pos := by omega
  len := fun _ => rfl
  one := by intro x v hv; simp at hv; subst hv; rfl
def fByte : Flat UInt8 where
  n := 1
  enc := fun x => [.int .u8 x.toNat]
  ok := fun _ => True
  pos := by omega
  len := fun _ => rfl
  one := by intro x v hv; simp at hv; subst hv; rfl

/-- A slice value that reads as a list. -/
def Sl {α : Type} (E : Cod α) (w : World) (v : Value) (xs : List α) (fp : List Nat) : Prop :=
  ∃ A cap, v = .slice A xs.length cap ∧ xs.length ≤ cap ∧ cap ≤ maxLen ∧
    ((xs = [] ∧ fp = []) ∨ ∃ b off F, A = some ⟨b, off, none⟩ ∧ b < w.heap.size ∧ fp = b :: (List.range xs.length).flatMap F ∧
      ∀ i (h : i < xs.length), ∃ cs, (∀ j, j < E.n → w.cell? ⟨b, off + i * E.n + j, none⟩ = cs[j]?) ∧ (∀ j, j < E.n → w.frozen? ⟨b, off + i * E.n + j, none⟩ = false) ∧ E.rd w cs xs[i] (F i))

theorem Sl.keep {α : Type} {E : Cod α} {w w' : World} {v : Value} {xs : List α} {fp : List Nat} (h : Sl E w v xs fp) (hk : ∀ b ∈ fp, w'.heap[b]? = w.heap[b]?) (hs : w.heap.size ≤ w'.heap.size) : Sl E w' v xs fp := by
  obtain ⟨A, cap, hv, hl, hc, hr⟩ := h
  refine ⟨A, cap, hv, hl, hc, ?_⟩
  rcases hr with ⟨h1, h2⟩ | ⟨b, off, F, hA, hb, hfp, hi⟩
  · exact .inl ⟨h1, h2⟩
  · refine .inr ⟨b, off, F, hA, by omega, hfp, fun i hlt => ?_⟩
    obtain ⟨cs, h1, h2, h3⟩ := hi i hlt
    have hbk : w'.heap[b]? = w.heap[b]? := hk b (by rw [hfp]; simp)
    refine ⟨cs, fun j hj => (World.cell?_of_block (w := w) (w' := w') (a := ⟨b, off + i * E.n + j, none⟩) hbk).trans (h1 j hj), fun j hj => (World.frozen?_of_block (w := w) (w' := w') (a := ⟨b, off + i * E.n + j, none⟩) hbk).trans (h2 j hj), E.keep h3 fun c hc => hk c ?_⟩
    rw [hfp]
    exact List.mem_cons_of_mem _ (List.mem_flatMap.2 ⟨i, by simpa using hlt, hc⟩)

theorem Sl.lt {α : Type} {E : Cod α} {w : World} {v : Value} {xs : List α} {fp : List Nat} (h : Sl E w v xs fp) : ∀ b ∈ fp, b < w.heap.size := by
  obtain ⟨A, cap, hv, hl, hc, hr⟩ := h
  intro c hc
  rcases hr with ⟨h1, rfl⟩ | ⟨b, off, F, hA, hb, rfl, hi⟩
  · simp at hc
  · rcases List.mem_cons.1 hc with rfl | hc
    · exact hb
    · obtain ⟨i, hi1, hi2⟩ := List.mem_flatMap.1 hc
      obtain ⟨cs, _, _, h3⟩ := hi i (by simpa using hi1)
      exact E.lt h3 c hi2

theorem Sl.below {α : Type} {E : Cod α} {w w' : World} {v : Value} {xs : List α} {fp : List Nat} {B : Nat} (h : Sl E w v xs fp) (hb : Below B w w') (hB : ∀ b ∈ fp, b < B) : Sl E w' v xs fp :=
  h.keep (fun b hm => hb.block b (hB b hm)) hb.size
theorem Sl.below' {α : Type} {E : Cod α} {w w' : World} {v : Value} {xs : List α} {fp : List Nat} (h : Sl E w v xs fp) (hb : Below w.heap.size w w') : Sl E w' v xs fp := h.below hb h.lt

/-- Slices as data. -/
def Cod.slice {α : Type} (E : Cod α) : Cod (List α) where
  n := 1
  rd := fun w cs xs fp => ∃ v, cs = [v] ∧ Sl E w v xs fp
  pos := by omega
  len := by rintro w cs x fp ⟨v, rfl, _⟩; rfl
  lt := by rintro w cs x fp ⟨v, _, h⟩; exact h.lt
  keep := by
    rintro w w' cs xs fp ⟨v, rfl, h⟩ hk
    refine ⟨v, rfl, ?_⟩
    obtain ⟨A, cap, hv, hl, hc, hr⟩ := h
    refine ⟨A, cap, hv, hl, hc, ?_⟩
    rcases hr with ⟨h1, h2⟩ | ⟨b, off, F, hA, hb, hfp, hi⟩
    · exact .inl ⟨h1, h2⟩
    · have hbk : w'.heap[b]? = w.heap[b]? := hk b (by rw [hfp]; simp)
      have hb' : b < w'.heap.size := by
        rcases Nat.lt_or_ge b w'.heap.size with hlt | hge
        · exact hlt
        · rw [Array.getElem?_eq_none hge, Array.getElem?_eq_getElem hb] at hbk; cases hbk
      refine .inr ⟨b, off, F, hA, hb', hfp, fun i hlt => ?_⟩
      obtain ⟨cs, h1, h2, h3⟩ := hi i hlt
      refine ⟨cs, fun j hj => (World.cell?_of_block (w := w) (w' := w') (a := ⟨b, off + i * E.n + j, none⟩) hbk).trans (h1 j hj), fun j hj => (World.frozen?_of_block (w := w) (w' := w') (a := ⟨b, off + i * E.n + j, none⟩) hbk).trans (h2 j hj), E.keep h3 fun c hc => hk c ?_⟩
      rw [hfp]
      exact List.mem_cons_of_mem _ (List.mem_flatMap.2 ⟨i, by simpa using hlt, hc⟩)

/-- The shape of a slice value, ahead of a walk. -/
theorem Sl.form {α : Type} {E : Cod α} {w : World} {v : Value} {xs : List α} {fp : List Nat} (h : Sl E w v xs fp) :
    ∃ A cap, v = .slice A xs.length cap ∧ xs.length ≤ cap ∧ cap ≤ 9223372036854775807 := by
  obtain ⟨A, cap, hv, hl, hc, _⟩ := h
  exact ⟨A, cap, hv, hl, by unfold maxLen at hc; exact hc⟩

/-- One element of a slice of flat data: its cells. -/
theorem Sl.at_ {α : Type} {E : Flat α} {w : World} {A : Option Addr} {len cap : Nat} {xs : List α} {fp : List Nat} (h : Sl E.cod w (.slice A len cap) xs fp) {k : Nat} (hk : k < xs.length) :
    ∃ b off, A = some ⟨b, off, none⟩ ∧ b ∈ fp ∧ E.ok xs[k] ∧ (∀ j, j < E.n → w.cell? ⟨b, off + k * E.n + j, none⟩ = (E.enc xs[k])[j]?) ∧ (∀ j, j < E.n → w.frozen? ⟨b, off + k * E.n + j, none⟩ = false) := by
  obtain ⟨A', cap', hv, hl, hc, hr⟩ := h
  injection hv with hA hn hcap
  subst hA
  rcases hr with ⟨h1, h2⟩ | ⟨b, off, F, hA, hb, hfp, hi⟩
  · subst h1; simp at hk
  · obtain ⟨cs, h1, h2, h3, h4, h5⟩ := hi k hk
    subst h3
    exact ⟨b, off, hA, by rw [hfp]; simp, h4, h1, h2⟩

theorem Sl.cell1 {α : Type} {E : Flat α} {w : World} {A : Option Addr} {len cap : Nat} {xs : List α} {fp : List Nat} (h : Sl E.cod w (.slice A len cap) xs fp) (h1 : E.n = 1) {k : Nat} (hk : k < xs.length) {u : Value} (hu : E.enc xs[k] = [u]) :
    ∃ b off, A = some ⟨b, off, none⟩ ∧ b ∈ fp ∧ E.ok xs[k] ∧ w.cell? ⟨b, off + k, none⟩ = some u ∧ w.frozen? ⟨b, off + k, none⟩ = false := by
  obtain ⟨b, off, hA, hb, hok, hc, hf⟩ := h.at_ hk
  refine ⟨b, off, hA, hb, hok, ?_, ?_⟩
  · have := hc 0 (by omega); rw [h1, hu] at this; simpa using this
  · have := hf 0 (by omega); rw [h1] at this; simpa using this

theorem flat_get {α : Type} (f : α → List Value) (n : Nat) : ∀ (xs : List α), (∀ x ∈ xs, (f x).length = n) → ∀ (i : Nat) (h : i < xs.length) (j : Nat), j < n → (xs.flatMap f)[i * n + j]? = (f xs[i])[j]?
  | [], _, i, h, _, _ => by simp at h
  | x :: xs, hl, 0, _, j, hj => by
    have hx : (f x).length = n := hl x (by simp)
    rw [List.flatMap_cons, Nat.zero_mul, Nat.zero_add, List.getElem?_append_left (by omega)]
    rfl
  | x :: xs, hl, i + 1, h, j, hj => by
    have hx : (f x).length = n := hl x (by simp)
    rw [List.flatMap_cons, List.getElem?_append_right (by rw [hx, Nat.succ_mul]; omega)]
    have e : (i + 1) * n + j - (f x).length = i * n + j := by rw [hx, Nat.succ_mul]; omega
    rw [e]
    exact flat_get f n xs (fun y hy => hl y (by simp [hy])) i (by simpa using h) j hj

theorem flat_len {α : Type} (f : α → List Value) (n : Nat) : ∀ (xs : List α), (∀ x ∈ xs, (f x).length = n) → (xs.flatMap f).length = xs.length * n
  | [], _ => by simp
  | x :: xs, hl => by
    rw [List.flatMap_cons, List.length_append, flat_len f n xs (fun y hy => hl y (by simp [hy])), hl x (by simp), List.length_cons, Nat.succ_mul]; omega

/-- A row of the call's own, of flat data, as a slice. -/
theorem Sl.of_own {α : Type} {E : Flat α} {w : World} {base : Nat} {e : TypeId} {v : Value} {xs : List α} {n : Nat} (hn : xs.length = n) (h : w.ownsRow base e E.n v n (xs.flatMap E.enc)) (hok : ∀ x ∈ xs, E.ok x) :
    ∃ fp, Sl E.cod w v xs fp ∧ (∀ b ∈ fp, base ≤ b) ∧ fp.Nodup := by
  subst hn
  obtain ⟨h1, h2⟩ := h
  rcases h2 with ⟨hv, hz⟩ | ⟨g, cap, cur, hv, hg, hh, hnc, hcm, hsz, hxs⟩
  · have : xs = [] := List.eq_nil_of_length_eq_zero hz
    subst this
    exact ⟨[], ⟨none, 0, hv, by simp, by simp [maxLen], .inl ⟨rfl, rfl⟩⟩, by simp, by simp⟩
  · rcases Nat.eq_zero_or_pos xs.length with h0 | h0
    · have : xs = [] := List.eq_nil_of_length_eq_zero h0
      subst this
      exact ⟨[], ⟨_, cap, hv, hnc, hcm, .inl ⟨rfl, rfl⟩⟩, by simp, by simp⟩
    · have hgl : g < w.heap.size := by
        rcases Nat.lt_or_ge g w.heap.size with hlt | hge
        · exact hlt
        · rw [Array.getElem?_eq_none hge] at hh; cases hh
      refine ⟨[g], ⟨_, cap, hv, hnc, hcm, .inr ⟨g, 0, fun _ => [], rfl, hgl, by simp, fun i hi => ⟨E.enc xs[i], fun j hj => ?_, fun j hj => ?_, rfl, hok _ (List.getElem_mem hi), rfl⟩⟩⟩, by simpa using hg, by simp⟩
      · have hc : w.cell? ⟨g, 0 + i * E.n + j, none⟩ = cur[i * E.n + j]? := by simp [World.cell?, hh]
        rw [show E.cod.n = E.n from rfl, hc, ← flat_get E.enc E.n xs (fun x _ => E.len x) i hi j hj, ← hxs, List.getElem?_take_of_lt, Array.getElem?_toList]
        have : (i + 1) * E.n ≤ xs.length * E.n := Nat.mul_le_mul_right _ hi
        have hj' : j < E.n := hj
        rw [Nat.succ_mul] at this
        omega
      · simp [World.frozen?, hh]

/-! ### A row of the call's own that is filled place by place -/

theorem run_make_rowN {P : Program} (t e : TypeId) (i : TypeInfo) (z : Value) (ht : P.underlying t = some (.slice e)) (hi : P.info? e = some i) (hz : i.zero = some z)
    (kl kc : IntKind) (n c : Nat) (hnc : n ≤ c) (hbytes : i.bytes * c ≤ 281474976710656) (h63 : c ≤ 9223372036854775807) (w : World) :
    (Instr.makeSlice t (.int kl (n : Int)) (.int kc (c : Int))).run P w = .ok (.slice (some ⟨w.heap.size, 0, none⟩) n c) (w.alloc (.cells (madeCells z.cells (c * i.size)) e)) := by
  have hb : (i.bytes : Int) * (c : Int) ≤ 281474976710656 := by
    have h : ((i.bytes * c : Nat) : Int) ≤ 281474976710656 := by omega
    rwa [Int.natCast_mul] at h
  have hr := run_make (P := P) w t e i z ht hi hz kl kc n c (by omega) (by omega) hb (by omega)
  simp only [Int.toNat_natCast] at hr
  exact hr

/-- Row g of n places of type e, of which the first ones hold ys. -/
def Fill (w : World) (base g : Nat) (e : TypeId) (size n : Nat) (ys : List Value) : Prop :=
  ∃ zs : List Value, w.ownsRow base e size (.slice (some ⟨g, 0, none⟩) n n) n (ys ++ zs)

theorem Fill.start (w : World) (e : TypeId) (size n : Nat) (z : Array Value) (hn : n ≤ 9223372036854775807) : Fill (w.alloc (.cells (madeCells z (n * size)) e)) w.heap.size w.heap.size e size n [] :=
  ⟨_, World.ownsRow_lit w _ n (Nat.le_refl _) (by unfold maxLen; exact hn) (size_madeCells _ _)⟩

theorem Fill.start1 (w : World) (e : TypeId) (n : Nat) (z : Array Value) (hn : n ≤ 9223372036854775807) : Fill (w.alloc (.cells (madeCells z n) e)) w.heap.size w.heap.size e 1 n [] := by
  have := Fill.start w e 1 n z hn
  rwa [Nat.mul_one] at this

section
variable {w w' : World} {base g : Nat} {e : TypeId} {size n : Nat} {ys : List Value}
theorem Fill.len (h : Fill w base g e size n ys) : ys.length ≤ n * size := by
  obtain ⟨zs, h⟩ := h
  have := h.1
  simp at this
  omega
theorem Fill.lt (h : Fill w base g e size n ys) : g < w.heap.size := by
  obtain ⟨zs, h⟩ := h
  exact (h.lt g rfl).2
theorem Fill.cell (h : Fill w base g e size n ys) {j : Nat} (hj : j < n * size) : ∃ u, w.cell? ⟨g, j, none⟩ = some u := by
  obtain ⟨zs, h⟩ := h
  refine ⟨_, (h.cellAt j hj).trans (List.getElem?_eq_getElem (by rw [h.1]; exact hj))⟩
theorem Fill.frozen (h : Fill w base g e size n ys) (j : Nat) : w.frozen? ⟨g, j, none⟩ = false := by
  obtain ⟨zs, h⟩ := h
  exact h.frozenAt j
/-- The next place gets its value. -/
theorem Fill.put (h : Fill w base g e size n ys) (hj : ys.length < n * size) (u : Value) : Fill (w.setCell ⟨g, ys.length, none⟩ u) base g e size n (ys ++ [u]) := by
  obtain ⟨zs, h⟩ := h
  have hl := h.1
  rw [List.length_append] at hl
  match zs, hl with
  | z :: zs, _ =>
    refine ⟨zs, ?_⟩
    have := (h.stored ys.length u).1
    rw [List.set_append_right _ _ (Nat.le_refl _), Nat.sub_self, List.set_cons_zero] at this
    rw [List.append_assoc]
    exact this
  | [], hl => simp at hl; omega
theorem Fill.kept {row : Option Nat} (h : Fill w base g e size n ys) (hg : w.grownBy w' row) (hr : row ≠ some g) : Fill w' base g e size n ys := by
  obtain ⟨zs, h⟩ := h
  exact ⟨zs, h.kept hg (.inr (by simp [Value.ownBlock]; exact fun h => hr h.symm))⟩
theorem Fill.below {B : Nat} (h : Fill w base g e size n ys) (hb : Below B w w') (hB : g < B) : Fill w' base g e size n ys := by
  obtain ⟨zs, h⟩ := h
  obtain ⟨h1, h2⟩ := h
  refine ⟨zs, h1, ?_⟩
  rcases h2 with h2 | ⟨g', cap, cur, hv, hg, hh, r⟩
  · exact .inl h2
  · have : g' = g := by injection hv with h _ _; injection h with h; injection h with h _ _; exact h.symm
    subst this
    exact .inr ⟨g', cap, cur, hv, hg, by rw [hb.block _ hB]; exact hh, r⟩
theorem Fill.done (h : Fill w base g e size n ys) (hy : ys.length = n * size) : w.ownsRow base e size (.slice (some ⟨g, 0, none⟩) n n) n ys := by
  obtain ⟨zs, h⟩ := h
  have hl := h.1
  rw [List.length_append, hy] at hl
  have : zs = [] := List.eq_nil_of_length_eq_zero (by omega)
  subst this
  rwa [List.append_nil] at h
end

theorem flat_take_step {α : Type} {E : Flat α} {xs : List α} {k : Nat} (hk : k < xs.length) : (xs.take (k + 1)).flatMap E.enc = (xs.take k).flatMap E.enc ++ E.enc xs[k] := by
  rw [List.take_succ_eq_append_getElem hk, List.flatMap_append]; simp
theorem flat_take_len {α : Type} {E : Flat α} {xs : List α} {k : Nat} (hk : k ≤ xs.length) : ((xs.take k).flatMap E.enc).length = k * E.n := by
  rw [flat_len E.enc E.n _ (fun x _ => E.len x), List.length_take, Nat.min_eq_left hk]
/-- A round that fills one place of one cell. -/
theorem fill_step {α : Type} {E : Flat α} {w : World} {base g : Nat} {e : TypeId} {xs : List α} {k : Nat} {u : Value} (h1 : E.n = 1) (hf : Fill w base g e 1 xs.length ((xs.take k).flatMap E.enc)) (hk : k < xs.length) (hu : E.enc xs[k] = [u]) :
    Fill (w.setCell ⟨g, k, none⟩ u) base g e 1 xs.length ((xs.take (k + 1)).flatMap E.enc) := by
  have hl : ((xs.take k).flatMap E.enc).length = k := by rw [flat_take_len (by omega), h1]; omega
  have := hf.put (by rw [hl]; omega) u
  rw [hl] at this
  rw [flat_take_step hk, hu]
  exact this
theorem Sl.oks {α : Type} {E : Flat α} {w : World} {v : Value} {xs : List α} {fp : List Nat} (h : Sl E.cod w v xs fp) : ∀ x ∈ xs, E.ok x := by
  intro x hx
  obtain ⟨A, cap, rfl, _, _⟩ := h.form
  obtain ⟨k, hk, rfl⟩ := List.getElem_of_mem hx
  obtain ⟨_, _, _, _, hok, _⟩ := h.at_ hk
  exact hok

theorem below_drewN {B : Nat} {a w : World} (h : Below B a w) (n : Nat) : Below B a (w.drewN n) := ⟨h.os, h.tape, h.output, h.size, h.block⟩
theorem Sl.drewN {α : Type} {E : Cod α} {w : World} {v : Value} {xs : List α} {fp : List Nat} (h : Sl E w v xs fp) (n : Nat) : Sl E (w.drewN n) v xs fp := h.below' (below_drewN (Below.refl _ _) n)
/-- The end of a call that says true and turns nothing that was there. -/
def YesR (w : World) (e : Ending) (w' : World) : Prop := e = .returned (.bool true) ∧ Below w.heap.size w w'

theorem sum_take_step_ {α : Type} (f : α → Nat) (xs : List α) (k : Nat) (h : k < xs.length) : ((xs.take (k + 1)).map f).sum = ((xs.take k).map f).sum + f xs[k] := by
  rw [List.take_succ_eq_append_getElem h, List.map_append, List.sum_append]; simp
theorem Fill.put_at {w : World} {base g : Nat} {e : TypeId} {size n : Nat} {ys : List Value} (h : Fill w base g e size n ys) {p : Nat} (hp : p = ys.length) (hj : p < n * size) (u : Value) : Fill (w.setCell ⟨g, p, none⟩ u) base g e size n (ys ++ [u]) := by
  subst hp; exact h.put hj u

theorem quiet_left {P : Program} {f : FuncId} {args : Array Value} {w : World} {n : Nat} {v : Value}
    (h : Calls P f args (w.drewN n) fun e w' => e = .returned v ∧ w.drewN n = w') : Calls P f args (w.drewN n) fun e w'' => e = .returned v ∧ ∃ m, w'' = w.drewN m :=
  h.mono fun _ _ ⟨he, hm⟩ => ⟨he, n, hm.symm⟩

/-- What a size check leaves: it has failed, or the rest is what is left. -/
def szPost (left : Int) (tot : Nat) (r : Int) : Prop := r = -1 ∨ (0 ≤ r ∧ r + tot = left)
def SzR (left : Int) (tot : Nat) (w : World) (e : Ending) (w' : World) : Prop := ∃ r : Int, e = .returned (.int .i64 r) ∧ szPost left tot r ∧ Below w.heap.size w w'
theorem SzR.no {left : Int} {tot : Nat} {w w' : World} (h : Below w.heap.size w w') : SzR left tot w (.returned (.int .i64 (-1))) w' := ⟨-1, rfl, .inl rfl, h⟩
theorem SzR.yes {left r : Int} {tot : Nat} {w w' : World} (h0 : 0 ≤ r) (h1 : r + tot = left) (h : Below w.heap.size w w') : SzR left tot w (.returned (.int .i64 r)) w' := ⟨r, rfl, .inr ⟨h0, h1⟩, h⟩

/-- A value that the call has made: it reads as the datum, through new blocks, none of them twice. -/
structure New {α : Type} (E : Cod α) (w : World) (v : Value) (xs : List α) (w' : World) : Prop where
  rd : ∃ fp, Sl E w' v xs fp ∧ (∀ b ∈ fp, w.heap.size ≤ b) ∧ fp.Nodup
  below : Below w.heap.size w w'
def NewR {α : Type} (E : Cod α) (w : World) (xs : List α) (e : Ending) (w' : World) : Prop := ∃ v, e = .returned v ∧ New E w v xs w'

/-! ### append of one element that has just been laid in a block of its own -/
theorem wpList_append_one {P : Program} {w : World} {ops : Array Oper} {rest : List Oper} {o : Oper} {a : Act} {Q : Exit → Act → World → Prop} (hgd : o.guard = none) (s x : Operand) (t : TypeId)
    (ho : o.op = .call { callee := .builtin .append, args := #[s, x], argTypes := #[t, t] })
    (base : Nat) (e : TypeId) (i : TypeInfo) (z : Value) (size bytes : Nat) (ht : P.underlying t = some (.slice e)) (hi : P.info? e = some i) (hz : i.zero = some z)
    (hsize : i.size = size) (hby : i.bytes = bytes) (hzs : z.cells.size = size) (hsz : 0 < size)
    (v : Value) (n : Nat) (xs : List Value) (hs : a.eval s = v) (hown : w.ownsRow base e size v n xs) (us : List Value) (hul : us.length = size) (h1 : ∀ u ∈ us, u.oneCell' = true)
    (hx : a.eval x = .slice (some ⟨w.heap.size, 0, none⟩) 1 1) (hn : n ≤ 1000000000) (hb : bytes ≤ 1000) (hbase : base ≤ w.heap.size)
    (h : ∀ v' w', w'.ownsRow base e size v' (n + 1) (xs ++ us) → Below base w w' → w.grownBy w' v.ownBlock → w.heap.size < w'.heap.size → wpList P ops Q rest (a.put o.dst v') w') : wpList P ops Q (o :: rest) a (w.alloc (.cells us.toArray e)) := by
  refine wpList_append_own _ hgd s x t ho base e i z size bytes ht hi hz hsize hby hzs hsz v n xs hs (hown.alloc _) ⟨w.heap.size, 0, none⟩ 1 1 us hx (by omega) ?_ h1 (by unfold maxLen; omega) ?_ (by simp; omega) ?_
  · intro j u hj
    have : (⟨w.heap.size, 0, none⟩ : Addr).add j = ⟨w.heap.size, j, none⟩ := by unfold Addr.add; by_cases h0 : j = 0 <;> simp [h0]
    rw [this, World.cell?_alloc_at _ _ _ _ rfl]
    simpa using hj
  · have : (n + 1) * bytes ≤ 1000000001 * 1000 := Nat.mul_le_mul (by omega) hb
    omega
  · intro v' w' h2 h3 _
    have h4 := h3.size
    simp at h4
    refine h v' w' h2 ?_ ⟨h3.os, h3.tape, h3.output, by omega, fun k hk hne => (h3.block k (by simp; omega) hne).trans (Below.heap_alloc w _ k hk)⟩ (by omega)
    exact ((Below.refl _ _).alloc hbase _).grown h3 (by simp; omega) (fun k hk => by
      have := (hown.alloc (.cells us.toArray e)).lt k hk
      exact this.1)

end Go.Proofs.Ytjfaafoldllppaa

namespace Go.Proofs.Ytjfaafoldllppaa
open Go.RowKit

/-! ### cells in a row -/
def Cells (w : World) (b off : Nat) (vs : List Value) : Prop := ∀ j, j < vs.length → w.cell? ⟨b, off + j, none⟩ = vs[j]? ∧ w.frozen? ⟨b, off + j, none⟩ = false

section
variable {w w' : World} {b off : Nat} {vs : List Value}
theorem Cells.get (h : Cells w b off vs) {j : Nat} (hj : j < vs.length) : w.cell? ⟨b, off + j, none⟩ = some vs[j] := by
  rw [(h j hj).1]; exact List.getElem?_eq_getElem hj
theorem Cells.free (h : Cells w b off vs) {j : Nat} (hj : j < vs.length) : w.frozen? ⟨b, off + j, none⟩ = false := (h j hj).2
theorem Cells.keep (h : Cells w b off vs) (hk : w'.heap[b]? = w.heap[b]?) : Cells w' b off vs := fun j hj =>
  ⟨(World.cell?_of_block (w := w) (w' := w') (a := ⟨b, off + j, none⟩) hk).trans (h j hj).1, (World.frozen?_of_block (w := w) (w' := w') (a := ⟨b, off + j, none⟩) hk).trans (h j hj).2⟩
theorem frozen?_setCell (w : World) (p q : Addr) (u : Value) : (w.setCell p u).frozen? q = w.frozen? q := by
  simp only [World.frozen?, World.setCell, Array.getElem?_modify]
  by_cases h : p.block = q.block
  · rw [if_pos h]
    cases hh : w.heap[q.block]? with
    | none => simp
    | some o => cases o <;> simp
  · rw [if_neg h]
theorem Cells.set (h : Cells w b off vs) {p : Nat} {j : Nat} (hp : p = off + j) (hj : j < vs.length) (u : Value) : Cells (w.setCell ⟨b, p, none⟩ u) b off (vs.set j u) := by
  subst hp
  intro i hi
  rw [List.length_set] at hi
  refine ⟨?_, (frozen?_setCell _ _ _ _).trans (h i hi).2⟩
  by_cases he : i = j
  · subst he
    rw [List.getElem?_set_self hj]
    have hc := (h i hi).1
    rw [List.getElem?_eq_getElem hi] at hc
    simp only [World.cell?] at hc ⊢
    simp only [World.setCell, Array.getElem?_modify]
    cases hh : w.heap[b]? with
    | none => rw [hh] at hc; cases hc
    | some o =>
      rw [hh] at hc
      cases o with
      | cells c e f =>
        simp at hc
        simp only [Option.map_some, if_true]
        simp
        have : off + i < c.size := by
          rcases Nat.lt_or_ge (off + i) c.size with h | h
          · exact h
          · rw [Array.getElem?_eq_none h] at hc; cases hc
        simp [this]
      | _ => simp at hc
  · rw [List.getElem?_set_ne (fun e => he e.symm), World.cell?_setCell_other _ _ _ _ (by simp <;> omega)]
    exact (h i hi).1
end

theorem Cells.put {w : World} {b off : Nat} {pre l : List Value} (h : Cells w b off (pre ++ l)) {m j p : Nat} (hm : pre.length = m) (hp : p = off + (m + j)) (hj : j < l.length) (u : Value) : Cells (w.setCell ⟨b, p, none⟩ u) b off (pre ++ l.set j u) := by
  have := h.set (j := m + j) hp (by rw [List.length_append]; omega) u
  rwa [List.set_append_right _ _ (by omega), hm, Nat.add_sub_cancel_left] at this
theorem Cells.at_mid {w : World} {b off : Nat} {pre l : List Value} (h : Cells w b off (pre ++ l)) {m j p : Nat} {u : Value} (hm : pre.length = m) (hp : p = off + (m + j)) (hj : j < l.length) (hu : l[j]? = some u) : w.cell? ⟨b, p, none⟩ = some u := by
  subst hp
  rw [(h (m + j) (by rw [List.length_append]; omega)).1, List.getElem?_append_right (by omega), hm, Nat.add_sub_cancel_left, hu]
theorem Cells.free_mid {w : World} {b off : Nat} {pre l : List Value} (h : Cells w b off (pre ++ l)) {m j p : Nat} (hm : pre.length = m) (hp : p = off + (m + j)) (hj : j < l.length) : w.frozen? ⟨b, p, none⟩ = false := by
  subst hp
  exact (h (m + j) (by rw [List.length_append]; omega)).2
theorem marks_step {α : Type} {E : Flat α} {w : World} {b off k : Nat} {f : Nat → α} {xs : List α} {pre post us : List Value} (hp : ((List.range k).map f).flatMap E.enc = pre) (hr : (xs.drop (k + 1)).flatMap E.enc = post) (hu : E.enc (f k) = us) (h : Cells w b off (pre ++ (us ++ post))) :
    Cells w b off (((List.range (k + 1)).map f).flatMap E.enc ++ (xs.drop (k + 1)).flatMap E.enc) := by
  rw [List.range_succ, List.map_append, List.flatMap_append, hp, hr]
  simp only [List.map_cons, List.map_nil, List.flatMap_cons, List.flatMap_nil, List.append_nil, hu, List.append_assoc]
  exact h

/-- A slice of flat data, its cells in one row. -/
theorem Sl.cells {α : Type} {E : Flat α} {w : World} {A : Option Addr} {len cap : Nat} {xs : List α} {fp : List Nat} (h : Sl E.cod w (.slice A len cap) xs fp) (hne : 0 < xs.length) :
    ∃ b off, A = some ⟨b, off, none⟩ ∧ fp = [b] ∧ b < w.heap.size ∧ Cells w b off (xs.flatMap E.enc) := by
  obtain ⟨A', cap', hv, hl, hc, hr⟩ := h
  injection hv with hA hn hcap
  subst hA
  rcases hr with ⟨h1, _⟩ | ⟨b, off, F, hA, hb, hfp, hi⟩
  · subst h1; simp at hne
  · have hF : (List.range xs.length).flatMap F = [] := by
      rw [List.flatMap_eq_nil_iff]
      intro i hi'
      obtain ⟨cs, _, _, _, _, h5⟩ := hi i (by simpa using hi')
      exact h5
    refine ⟨b, off, hA, by rw [hfp, hF], hb, fun j hj => ?_⟩
    rw [flat_len E.enc E.n _ (fun x _ => E.len x)] at hj
    have hpos := E.pos
    have h1 : j / E.n < xs.length := Nat.div_lt_of_lt_mul (by rw [Nat.mul_comm]; exact hj)
    have h2 : j % E.n < E.n := Nat.mod_lt _ hpos
    have h3 : j / E.n * E.n + j % E.n = j := by rw [Nat.mul_comm]; exact Nat.div_add_mod j E.n
    obtain ⟨cs, hc1, hc2, hc3, hok, _⟩ := hi _ h1
    have e1 := hc1 (j % E.n) h2
    have e2 := hc2 (j % E.n) h2
    have hcn : E.cod.n = E.n := rfl
    rw [hcn, Nat.add_assoc, h3] at e1 e2
    refine ⟨?_, e2⟩
    rw [e1, hc3, ← flat_get E.enc E.n xs (fun x _ => E.len x) _ h1 _ h2, h3]

theorem Sl.of_cells {α : Type} {E : Flat α} {w : World} {xs : List α} {b off cap : Nat} (hc : xs.length ≤ cap) (hm : cap ≤ 9223372036854775807) (hb : b < w.heap.size) (h : Cells w b off (xs.flatMap E.enc)) (hok : ∀ x ∈ xs, E.ok x) :
    0 < xs.length → Sl E.cod w (.slice (some ⟨b, off, none⟩) xs.length cap) xs [b] := by
  intro hne
  refine ⟨_, cap, rfl, hc, by unfold maxLen; exact hm, .inr ⟨b, off, fun _ => [], rfl, hb, by simp, fun i hi => ⟨E.enc xs[i], fun j hj => ?_, fun j hj => ?_, rfl, hok _ (List.getElem_mem hi), rfl⟩⟩⟩
  all_goals
    have hj' : j < E.n := hj
    have hlt : i * E.n + j < (xs.flatMap E.enc).length := by
      rw [flat_len E.enc E.n _ (fun x _ => E.len x)]
      have : (i + 1) * E.n ≤ xs.length * E.n := Nat.mul_le_mul_right _ hi
      rw [Nat.succ_mul] at this
      omega
    have := h _ hlt
    rw [show E.cod.n = E.n from rfl, Nat.add_assoc]
  · rw [this.1, flat_get E.enc E.n xs (fun x _ => E.len x) _ hi _ hj']
  · exact this.2

theorem Sl.atk {α : Type} {E : Flat α} {w : World} {b off len cap : Nat} {xs : List α} {fp : List Nat} (h : Sl E.cod w (.slice (some ⟨b, off, none⟩) len cap) xs fp) {k : Nat} (hk : k < xs.length) {j : Nat} (hj : j < E.n) :
    w.cell? ⟨b, off + k * E.n + j, none⟩ = (E.enc xs[k])[j]? := by
  obtain ⟨b', off', hA, _, _, hc, _⟩ := h.at_ hk
  injection hA with hA
  injection hA with h1 h2 _
  subst h1 h2
  exact hc j hj

/-- Of what was there only the blocks of fp may have turned. -/
structure Only (fp : List Nat) (w w' : World) : Prop where
  os : w'.os = w.os
  tape : w'.tape = w.tape
  output : w'.output = w.output
  size : w.heap.size ≤ w'.heap.size
  block : ∀ k, k < w.heap.size → k ∉ fp → w'.heap[k]? = w.heap[k]?
theorem Only.below {fp : List Nat} {w w' : World} {B : Nat} (h : Only fp w w') (hB : B ≤ w.heap.size) (hf : ∀ b ∈ fp, B ≤ b) : Below B w w' :=
  ⟨h.os, h.tape, h.output, h.size, fun k hk => h.block k (by omega) (fun hm => by have := hf k hm; omega)⟩
theorem Only.of_below {fp : List Nat} {w w' : World} (h : Below w.heap.size w w') : Only fp w w' := ⟨h.os, h.tape, h.output, h.size, fun k hk _ => h.block k hk⟩
theorem Only.trans {fp : List Nat} {a b c : World} (h : Only fp a b) (k : Only fp b c) : Only fp a c :=
  ⟨k.os.trans h.os, k.tape.trans h.tape, k.output.trans h.output, Nat.le_trans h.size k.size, fun i hi hn => (k.block i (Nat.lt_of_lt_of_le hi h.size) hn).trans (h.block i hi hn)⟩
theorem Only.set {w w' : World} {g : Nat} (h : Only [g] w w') (o : Nat) (u : Value) : Only [g] w (w'.setCell ⟨g, o, none⟩ u) :=
  ⟨h.os, h.tape, h.output, by simpa [World.setCell] using h.size, fun i hi hn => (Below.heap_setCell w' ⟨g, o, none⟩ u i (by simpa using hn)).trans (h.block i hi hn)⟩
theorem Only.refl (fp : List Nat) (w : World) : Only fp w w := .of_below (Below.refl _ _)
theorem Sl.only {α : Type} {E : Cod α} {w w' : World} {v : Value} {xs : List α} {fp fp' : List Nat} (h : Sl E w v xs fp) (hb : Only fp' w w') (hd : ∀ b ∈ fp, b ∉ fp') : Sl E w' v xs fp :=
  h.keep (fun b hm => hb.block b (h.lt b hm) (hd b hm)) hb.size

/-- What a marking helper leaves. -/
def MarkR {α : Type} (E : Cod α) (fp : List Nat) (w : World) (r : Int) (v : Value) (ys : List α) (e : Ending) (w' : World) : Prop := e = .returned (.int .i64 r) ∧ Sl E w' v ys fp ∧ Only fp w w'

/-! ### the mark's text -/
def mtStep (k : Int) (s : ByteArray) : ByteArray := ⟨#[UInt8.ofNat (48 + k % 10).toNat]⟩ ++ s
def mtLoop : Nat → Int → ByteArray → ByteArray
  | 0, _, s => s
  | f + 1, k, s => if 0 < k then mtLoop f (k / 10) (mtStep k s) else s
def mt (k : Int) : ByteArray := if k ≤ 0 then ⟨#[109, 48]⟩ else ⟨#[109]⟩ ++ mtLoop k.toNat k ⟨#[]⟩

theorem mtStep_size (k : Int) (s : ByteArray) : (mtStep k s).size = s.size + 1 := by
  unfold mtStep; rw [ByteArray.size_append]; show 1 + s.size = _; omega
theorem mtLoop_step {f : Nat} {k : Int} {s : ByteArray} (h : 0 < k) : mtLoop (f + 1) k s = mtLoop f (k / 10) (mtStep k s) := by rw [mtLoop, if_pos h]

theorem mtLoop_size : ∀ (f : Nat) (k : Int) (s : ByteArray), (mtLoop f k s).size ≤ s.size + f
  | 0, _, _ => by simp [mtLoop]
  | f + 1, k, s => by
    unfold mtLoop
    split
    · have := mtLoop_size f (k / 10) (mtStep k s); rw [mtStep_size] at this; omega
    · omega
theorem mt_ok (k : Int) (hk : k ≤ 1000000000000) : fStr.ok (mt k) := by
  show (mt k).size ≤ _
  unfold mt
  split
  · show 2 ≤ _; omega
  · rw [ByteArray.size_append]
    have := mtLoop_size k.toNat k ⟨#[]⟩
    have h1 : (ByteArray.mk #[109]).size = 1 := rfl
    have h2 : (ByteArray.mk #[]).size = 0 := rfl
    omega

set_option maxRecDepth 100000 in
set_option maxHeartbeats 400000 in
theorem markText_any (k : Int) (w : World) (hk : k ≤ 1000000000000) :
    Calls Try.prog 36 #[.int .i64 k] w fun e w' => e = .returned (.string (mt k)) ∧ Below w.heap.size w w' := by
  by_cases h0 : k ≤ 0
  · have hm : mt k = ⟨#[109, 48]⟩ := by unfold mt; rw [if_pos h0]
    rw [hm]
    go_enter Try.func36, Try.ntmps36
    go_wp2
    go_ret
    exact ⟨rfl, Below.refl _ _⟩
  · have hcv : ∀ (n : Int) (W : World), (convert 34 9 (.slice (some ⟨W.heap.size, 0, none⟩) 1 1)).run Try.prog (W.alloc (.cells #[.int .u8 n] 5)) = .ok (.string ⟨#[UInt8.ofNat n.toNat]⟩) (W.alloc (.cells #[.int .u8 n] 5)) := fun n W =>
      run_convert_bytes_arg _ _ _ Try.underlying34 Try.underlying5 W.heap.size 0 1 1 [n] rfl (fun i hi => by (obtain rfl : i = 0 := by omega); simp) _ Try.underlying9
    go_enter Try.func36, Try.ntmps36
    go_wp2
    go_loopw [0, 3] (fun n s wr => ∃ (j : Int) (t : ByteArray) (f : Nat), n = .int .i64 j ∧ s = .string t ∧ 0 ≤ j ∧ j ≤ f ∧ t.size + f ≤ k ∧ Hid (mtLoop f j t = mtLoop k.toNat k ⟨#[]⟩) ∧ Below w.heap.size w wr) (fun n _ _ => (intOf n).toNat)
    case atStart => exact ⟨k, _, k.toNat, rfl, rfl, by omega, by omega, by show ((0 : Nat) : Int) + _ ≤ _; omega, rfl, Below.refl _ _⟩
    case round =>
      obtain ⟨j, t, f, rfl, rfl, hj0, hjf, hsz, HE, hb⟩ := hrel
      have hbs := hb.size
      by_cases hj : 0 < j
      · have hj10 : 0 ≤ j % 10 := by omega
        have hj11 : j % 10 ≤ 9 := by omega
        have hjd : 0 ≤ j / 10 := by omega
        have hjd2 : j / 10 < j := by omega
        obtain ⟨g, rfl⟩ : ∃ g, f = g + 1 := ⟨f - 1, by omega⟩
        go_wp2
        go_roundw
        case rel => exact ⟨j / 10, mtStep j t, g, rfl, rfl, by omega, by omega, by rw [mtStep_size]; omega, HE.out ▸ (mtLoop_step hj).symm, (by repeat (first | exact Below.refl _ _ | assumption | refine Below.alloc ?_ (by first | omega | (simp <;> omega)) _ | refine Below.setCell ?_ (by first | (show _ ≤ _; omega) | (simp <;> omega)) _ | refine Below.drew ?_ | refine below_drewN ?_ _))⟩
        case measure => simp [intOf]; omega
      · have hf : mtLoop f j t = t := by cases f with | zero => rfl | succ f => simp [mtLoop, hj]
        have hm : mt k = ⟨#[109]⟩ ++ t := by unfold mt; rw [if_neg (by omega), ← HE.out, hf]
        have HM := Lib.hid hm
        clear hm hf
        go_wp2
        go_ret
        exact ⟨ret_str HM.out.symm, hb⟩
end Go.Proofs.Ytjfaafoldllppaa

namespace Go.Proofs.Ytjfaafoldllppaa
open Go.RowKit

/-- A row that has just been laid. -/
theorem Sl.lit2 {α : Type} {E : Flat α} (w : World) (xs : List α) (T : TypeId) (cs : Array Value) (hcs : cs = (xs.flatMap E.enc).toArray) (hok : ∀ x ∈ xs, E.ok x) (hne : 0 < xs.length) (hm : xs.length ≤ 9223372036854775807) :
    Sl E.cod (w.alloc (.cells cs T)) (.slice (some ⟨w.heap.size, 0, none⟩) xs.length xs.length) xs [w.heap.size] := by
  subst hcs
  refine Sl.of_cells (Nat.le_refl _) hm (by simp) (fun j hj => ⟨?_, ?_⟩) hok hne
  · rw [World.cell?_alloc_at _ _ _ _ rfl]; simp
  · rw [World.frozen?_alloc_at _ _ _ _ rfl]
/-- v is a row of the call's own that holds L. -/
def Own {α : Type} (E : Flat α) (w : World) (base : Nat) (e : TypeId) (v : Value) (L : List α) : Prop := w.ownsRow base e E.n v L.length (L.flatMap E.enc)
section
variable {α : Type} {E : Flat α} {w w' : World} {base : Nat} {e : TypeId} {v : Value} {L : List α}
theorem Own.nil (E : Flat α) (w : World) (base : Nat) (e : TypeId) : Own E w base e (.slice none 0 0) [] := World.ownsRow_nil w base e E.n
theorem Own.lit0 (E : Flat α) (w : World) (e : TypeId) : Own E (w.alloc (.cells #[] e)) w.heap.size e (.slice (some ⟨w.heap.size, 0, none⟩) 0 0) [] :=
  World.ownsRow_lit (e := e) (size := E.n) w #[] 0 (Nat.le_refl w.heap.size) (by decide) (by simp)
theorem Own.lit0m (E : Flat α) {w : World} {base : Nat} (hb : base ≤ w.heap.size) {e : TypeId} : Own E (w.alloc (.cells #[] e)) base e (.slice (some ⟨w.heap.size, 0, none⟩) 0 0) [] :=
  World.ownsRow_lit (e := e) (size := E.n) w #[] 0 hb (by decide) (by simp)
theorem Own.below (h : Own E w base e v L) (hb : Below w.heap.size w w') : Own E w' base e v L := by
  obtain ⟨h1, h2⟩ := h
  refine ⟨h1, ?_⟩
  rcases h2 with h2 | ⟨g, cap, cur, hv, hg, hh, r⟩
  · exact .inl h2
  · have hgl : g < w.heap.size := by
      rcases Nat.lt_or_ge g w.heap.size with hlt | hge
      · exact hlt
      · rw [Array.getElem?_eq_none hge] at hh; cases hh
    exact .inr ⟨g, cap, cur, hv, hg, by rw [hb.block _ hgl]; exact hh, r⟩
theorem Own.drewN (h : Own E w base e v L) (n : Nat) : Own E (w.drewN n) base e v L := h
theorem Own.form (h : Own E w base e v L) : ∃ A cap, v = .slice A L.length cap := by
  obtain ⟨h1, h2⟩ := h
  rcases h2 with ⟨hv, hz⟩ | ⟨g, cap, cur, hv, _⟩
  · exact ⟨none, 0, by rw [hv, hz]⟩
  · exact ⟨_, cap, hv⟩
/-- What it reads as, for the caller. -/
theorem Own.new (h : Own E w' w.heap.size e v L) (hb : Below w.heap.size w w') (hok : ∀ x ∈ L, E.ok x) : New E.cod w v L w' :=
  ⟨Sl.of_own (n := L.length) rfl h hok, hb⟩
/-- One more. -/
theorem Own.push (x : α) {n : Nat} (hn : n = L.length + 1) (h : w.ownsRow base e E.n v n (L.flatMap E.enc ++ E.enc x)) : Own E w base e v (L ++ [x]) := by
  subst hn
  show w.ownsRow base e E.n v (L ++ [x]).length ((L ++ [x]).flatMap E.enc)
  rw [List.flatMap_append, List.length_append]
  simpa using h
end
/-- The same where the walk writes the address of the new block in its own way. -/
theorem wpList_append_oneA {P : Program} {w : World} {ops : Array Oper} {rest : List Oper} {o : Oper} {a : Act} {Q : Exit → Act → World → Prop} (ad : Nat) (had : ad = w.heap.size) (hgd : o.guard = none) (s x : Operand) (t : TypeId)
    (ho : o.op = .call { callee := .builtin .append, args := #[s, x], argTypes := #[t, t] })
    (base : Nat) (e : TypeId) (i : TypeInfo) (z : Value) (size bytes : Nat) (ht : P.underlying t = some (.slice e)) (hi : P.info? e = some i) (hz : i.zero = some z)
    (hsize : i.size = size) (hby : i.bytes = bytes) (hzs : z.cells.size = size) (hsz : 0 < size)
    (v : Value) (n : Nat) (xs : List Value) (hs : a.eval s = v) (hown : w.ownsRow base e size v n xs) (us : List Value) (hul : us.length = size) (h1 : ∀ u ∈ us, u.oneCell' = true)
    (hx : a.eval x = .slice (some ⟨ad, 0, none⟩) 1 1) (hn : n ≤ 1000000000) (hb : bytes ≤ 1000) (hbase : base ≤ w.heap.size)
    (h : ∀ v' w', w'.ownsRow base e size v' (n + 1) (xs ++ us) → Below base w w' → w.grownBy w' v.ownBlock → w.heap.size < w'.heap.size → wpList P ops Q rest (a.put o.dst v') w') : wpList P ops Q (o :: rest) a (w.alloc (.cells us.toArray e)) := by
  subst had
  exact wpList_append_one hgd s x t ho base e i z size bytes ht hi hz hsize hby hzs hsz v n xs hs hown us hul h1 hx hn hb hbase h
/-- Two results: a new slice and a code. -/
def NewR2 {α : Type} (E : Cod α) (w : World) (xs : List α) (c : Int) (e : Ending) (w' : World) : Prop := ∃ v, e = .returned (.tuple #[v, .int .i64 c]) ∧ New E w v xs w'
theorem New.nil {α : Type} {E : Cod α} {w w' : World} (h : Below w.heap.size w w') : New E w (.slice none 0 0) ([] : List α) w' :=
  ⟨⟨[], ⟨none, 0, rfl, by simp, by simp [maxLen], .inl ⟨rfl, rfl⟩⟩, by simp, by simp⟩, h⟩
theorem New.later {α : Type} {E : Cod α} {w w0 w' : World} {v : Value} {xs : List α} (h : New E w0 v xs w') (hb : Below w.heap.size w w0) : New E w v xs w' := by
  obtain ⟨⟨fp, h1, h2, h3⟩, h4⟩ := h
  exact ⟨⟨fp, h1, fun b hb' => Nat.le_trans hb.size (h2 b hb'), h3⟩, hb.trans (h4.mono hb.size)⟩
/-- What has been kept of the first k. -/
def keptL {α β : Type} (p : α → Bool) (f : α → β) (xs : List α) (k : Nat) : List β := ((xs.take k).filter p).map f
theorem keptL_zero {α β : Type} (p : α → Bool) (f : α → β) (xs : List α) : keptL p f xs 0 = [] := rfl
theorem keptL_yes {α β : Type} {p : α → Bool} {f : α → β} {xs : List α} {k : Nat} (hk : k < xs.length) (h : p xs[k] = true) : keptL p f xs (k + 1) = keptL p f xs k ++ [f xs[k]] := by
  unfold keptL
  rw [List.take_succ_eq_append_getElem hk, List.filter_append, List.map_append]
  simp [h]
theorem keptL_no {α β : Type} {p : α → Bool} {f : α → β} {xs : List α} {k : Nat} (hk : k < xs.length) (h : p xs[k] = false) : keptL p f xs (k + 1) = keptL p f xs k := by
  unfold keptL
  rw [List.take_succ_eq_append_getElem hk, List.filter_append, List.map_append]
  simp [h]
theorem keptL_full {α β : Type} {p : α → Bool} {f : α → β} {xs : List α} {k : Nat} (hk : xs.length ≤ k) : keptL p f xs k = (xs.filter p).map f := by
  unfold keptL; rw [List.take_of_length_le hk]
theorem keptL_len {α β : Type} {p : α → Bool} {f : α → β} {xs : List α} {k : Nat} : (keptL p f xs k).length ≤ k := by
  unfold keptL; rw [List.length_map]
  exact Nat.le_trans (List.length_filter_le _ _) (List.length_take_le _ _)
end Go.Proofs.Ytjfaafoldllppaa

namespace Go.Proofs.Ytjfaafoldllppaa
open Go.RowKit
set_option linter.unusedVariables false

/-- The source at block g: no more than n bytes have been drawn. -/
def SrcD (n : Nat) (g : Nat) (w : World) : Prop := ∃ (v : Value) (xs : List UInt8) (fp : List Nat) (k : Nat) (seed : Int), w.cell? ⟨g, 0, none⟩ = some v ∧ w.cell? ⟨g, 1, none⟩ = some (.int .i64 k) ∧ w.cell? ⟨g, 2, none⟩ = some (.int .u64 seed) ∧
  w.frozen? ⟨g, 1, none⟩ = false ∧ w.frozen? ⟨g, 2, none⟩ = false ∧ k ≤ n ∧ Sl fByte.cod w v xs fp ∧ (∀ b ∈ fp, b < g)
theorem Only.cell {fp : List Nat} {w w' : World} (h : Only fp w w') {p : Addr} (hp : p.block < w.heap.size) (hn : p.block ∉ fp) : w'.cell? p = w.cell? p := World.cell?_of_block (w := w) (h.block p.block hp hn)
theorem Only.frozen {fp : List Nat} {w w' : World} (h : Only fp w w') {p : Addr} (hp : p.block < w.heap.size) (hn : p.block ∉ fp) : w'.frozen? p = w.frozen? p := World.frozen?_of_block (w := w) (h.block p.block hp hn)
theorem Only.drewN {fp : List Nat} {w w' : World} (h : Only fp w w') (n : Nat) : Only fp w (w'.drewN n) := h.trans (.of_below (below_drewN (Below.refl _ _) n))
theorem SrcD.mono {n m g : Nat} {w : World} (h : SrcD n g w) (hm : n ≤ m) : SrcD m g w := by
  obtain ⟨v, xs, fp, k, seed, h0, h1, h2, h3, h4, h5, h6, h7⟩ := h
  exact ⟨v, xs, fp, k, seed, h0, h1, h2, h3, h4, by omega, h6, h7⟩
theorem SrcD.lt {n g : Nat} {w : World} (h : SrcD n g w) : g < w.heap.size := by
  obtain ⟨v, xs, fp, k, seed, h0, _⟩ := h
  exact block_lt_of_cell h0
theorem SrcD.below {n g : Nat} {w w' : World} (h : SrcD n g w) (hb : Below w.heap.size w w') : SrcD n g w' := by
  have hg := h.lt
  obtain ⟨v, xs, fp, k, seed, h0, h1, h2, h3, h4, h5, h6, h7⟩ := h
  exact ⟨v, xs, fp, k, seed, (hb.cell (p := ⟨g, 0, none⟩) hg).trans h0, (hb.cell (p := ⟨g, 1, none⟩) hg).trans h1, (hb.cell (p := ⟨g, 2, none⟩) hg).trans h2, (hb.frozen (p := ⟨g, 1, none⟩) hg).trans h3, (hb.frozen (p := ⟨g, 2, none⟩) hg).trans h4, h5, h6.below' hb, h7⟩
theorem SrcD.belowB {n g B : Nat} {w w' : World} (h : SrcD n g w) (hb : Below B w w') (hB : g < B) : SrcD n g w' := by
  obtain ⟨v, xs, fp, k, seed, h0, h1, h2, h3, h4, h5, h6, h7⟩ := h
  exact ⟨v, xs, fp, k, seed, (hb.cell (p := ⟨g, 0, none⟩) hB).trans h0, (hb.cell (p := ⟨g, 1, none⟩) hB).trans h1, (hb.cell (p := ⟨g, 2, none⟩) hB).trans h2, (hb.frozen (p := ⟨g, 1, none⟩) hB).trans h3, (hb.frozen (p := ⟨g, 2, none⟩) hB).trans h4, h5, h6.below hb (fun b hm => by have := h7 b hm; omega), h7⟩
theorem Only.then {fp : List Nat} {a b c : World} (h : Only fp a b) (k : Below a.heap.size b c) : Only fp a c :=
  ⟨k.os.trans h.os, k.tape.trans h.tape, k.output.trans h.output, Nat.le_trans h.size k.size, fun i hi hn => (k.block i hi).trans (h.block i hi hn)⟩
theorem Only.put {fp : List Nat} {a b : World} (h : Only fp a b) {p : Addr} (hp : a.heap.size ≤ p.block) (v : Value) : Only fp a (b.setCell p v) :=
  h.then ((Below.refl _ _).setCell hp v)
theorem Only.new {fp : List Nat} {a b : World} (h : Only fp a b) (o : Obj) : Only fp a (b.alloc o) := h.then ((Below.refl _ _).alloc h.size o)
theorem Only.later {fp : List Nat} {a b c : World} (h : Below a.heap.size a b) (k : Only fp b c) : Only fp a c :=
  (Only.of_below h).trans k
theorem Only.lift {g : Nat} {a b c : World} (h : Only [g] a b) (k : Only [g] b c) : Only [g] a c := h.trans k
theorem Own.only {α : Type} {E : Flat α} {w w' : World} {base : Nat} {e : TypeId} {v : Value} {L : List α} {fp : List Nat} (h : Own E w base e v L) (hb : Only fp w w') (hn : ∀ g ∈ fp, g < base) : Own E w' base e v L := by
  obtain ⟨h1, h2⟩ := h
  refine ⟨h1, ?_⟩
  rcases h2 with h2 | ⟨g, cap, cur, hv, hg, hh, r⟩
  · exact .inl h2
  · have hgl : g < w.heap.size := by
      rcases Nat.lt_or_ge g w.heap.size with h | h
      · exact h
      · rw [Array.getElem?_eq_none h] at hh; cases hh
    exact .inr ⟨g, cap, cur, hv, hg, by rw [hb.block g hgl (fun hm => by have := hn g hm; omega)]; exact hh, r⟩
theorem w64_inD (n : Int) (h : -9223372036854775808 ≤ n ∧ n ≤ 9223372036854775807) : wrap64 n = n := by unfold wrap64; omega
theorem and255 (x : Int) : 0 ≤ bits .and .u64 x 255 ∧ bits .and .u64 x 255 ≤ 255 := by
  have h : bits .and .u64 x 255 = IntKind.u64.wrap ((BitVec.ofInt 64 x &&& BitVec.ofInt 64 255).toNat : Int) := rfl
  rw [h, BitVec.toNat_and, show (BitVec.ofInt 64 255).toNat = 255 from by decide]
  have h1 : (BitVec.ofInt 64 x).toNat &&& 255 ≤ 255 := Nat.and_le_right
  generalize (BitVec.ofInt 64 x).toNat &&& 255 = m at *
  simp [IntKind.wrap, IntKind.bits, IntKind.signed]
  omega
def SrcAt (v : Value) (xs : List UInt8) (fp : List Nat) (k : Nat) (seed : Int) (n g : Nat) (w : World) : Prop := w.cell? ⟨g, 0, none⟩ = some v ∧ w.cell? ⟨g, 1, none⟩ = some (.int .i64 k) ∧ w.cell? ⟨g, 2, none⟩ = some (.int .u64 seed) ∧
  w.frozen? ⟨g, 1, none⟩ = false ∧ w.frozen? ⟨g, 2, none⟩ = false ∧ k ≤ n ∧ Sl fByte.cod w v xs fp ∧ (∀ b ∈ fp, b < g)
theorem src_step {v : Value} {xs : List UInt8} {fp : List Nat} {k n g : Nat} {seed : Int} {w : World} (h : SrcAt v xs fp k seed n g w) (i j : Nat) (s2 : Int) :
    SrcD (n + 1) g ((((w.drewN i).setCell ⟨g, 1, none⟩ (.int .i64 ((k : Int) + 1))).setCell ⟨g, 2, none⟩ (.int .u64 s2)).drewN j) := by
  obtain ⟨c0, c1, c2, z1, z2, hk, hsl, hne⟩ := h
  have hO : Only [g] w ((((w.drewN i).setCell ⟨g, 1, none⟩ (.int .i64 ((k : Int) + 1))).setCell ⟨g, 2, none⟩ (.int .u64 s2)).drewN j) := ((((Only.refl [g] w).drewN _).set 1 _).set 2 _).drewN _
  have d0 : (w.drewN i).cell? ⟨g, 0, none⟩ = some v := c0
  have d1 : (w.drewN i).cell? ⟨g, 1, none⟩ = some (.int .i64 k) := c1
  have d2 : (w.drewN i).cell? ⟨g, 2, none⟩ = some (.int .u64 seed) := c2
  have y1 : (w.drewN i).frozen? ⟨g, 1, none⟩ = false := z1
  have y2 : (w.drewN i).frozen? ⟨g, 2, none⟩ = false := z2
  refine ⟨v, xs, fp, k + 1, s2, ?_, ?_, ?_, ?_, ?_, by omega, hsl.only hO (fun b hb => by have := hne b hb; simp; omega), hne⟩
  · show World.cell? (World.setCell _ _ _) _ = _
    rw [World.cell?_setCell_other _ _ _ _ (by simp), World.cell?_setCell_other _ _ _ _ (by simp)]; exact d0
  · show World.cell? (World.setCell _ _ _) _ = _
    rw [World.cell?_setCell_other _ _ _ _ (by simp)]
    exact World.cell?_setCell_same _ _ _ d1
  · show World.cell? (World.setCell _ _ _) _ = _
    exact World.cell?_setCell_same _ _ _ ((World.cell?_setCell_other _ _ _ _ (by simp)).trans d2)
  · show World.frozen? (World.setCell _ _ _) _ = _
    rw [frozen?_setCell, frozen?_setCell]; exact y1
  · show World.frozen? (World.setCell _ _ _) _ = _
    rw [frozen?_setCell, frozen?_setCell]; exact y2
set_option maxRecDepth 100000 in
set_option maxHeartbeats 2000000 in
theorem next_any (n g : Nat) (w : World) (hs : SrcD n g w) (hn : n ≤ 1000000000000) :
    Calls Try.prog 77 #[.pointer (some ⟨g, 0, none⟩)] w fun e w' => ∃ r : Int, e = .returned (.int .i64 r) ∧ (0 ≤ r ∧ r ≤ 255) ∧ SrcD (n + 1) g w' ∧ Only [g] w w' := by
  have hg := hs.lt
  obtain ⟨v, xs, fp, k, seed, c0, c1, c2, z1, z2, hk, hsl, hne⟩ := hs
  obtain ⟨A, cap, rfl, hle, hca⟩ := hsl.form
  have hlen : xs.length ≤ 9223372036854775807 := by unfold maxLen at *; omega
  by_cases hat : k < xs.length
  · obtain ⟨b, off, rfl, hbm, _, hc, _⟩ := hsl.cell1 rfl hat rfl
    have hx := xs[k].toNat_lt
    go_enter Try.func77, Try.ntmps77
    go_wp2
    go_quiet (fail)
    go_wp2
    go_quiet (fail)
    go_wp2
    go_quiet (fail)
    go_wp2
    go_ret
    have hw : wrap64 (xs[k].toNat : Int) = xs[k].toNat := w64_inD _ (by omega)
    refine ⟨_, rfl, by first | (rw [hw]; omega) | omega, src_step ⟨c0, c1, c2, z1, z2, hk, hsl, hne⟩ _ _ _, ?_⟩
    exact ((((Only.refl [g] w).drewN _).set 1 _).set 2 _).drewN _
  · go_enter Try.func77, Try.ntmps77
    go_wp2
    go_quiet (fail)
    go_wp2
    go_quiet (fail)
    go_wp2
    go_ret
    have hw := and255 (IntKind.u64.wrap (IntKind.u64.wrap (IntKind.u64.wrap (seed * 6364136223846793005)) + 1442695040888963407) / 1099511627776)
    generalize bits BinOp.and IntKind.u64 (IntKind.u64.wrap (IntKind.u64.wrap (IntKind.u64.wrap (seed * 6364136223846793005)) + 1442695040888963407) / 1099511627776) 255 = r at *
    have hw2 : wrap64 r = r := w64_inD _ (by omega)
    refine ⟨_, rfl, by rw [hw2]; exact hw, src_step ⟨c0, c1, c2, z1, z2, hk, hsl, hne⟩ _ _ _, ?_⟩
    exact ((((Only.refl [g] w).drewN _).set 1 _).set 2 _).drewN _
set_option maxRecDepth 100000 in
set_option maxHeartbeats 2000000 in
theorem pick_any (n g : Nat) (m : Int) (w : World) (hs : SrcD n g w) (hn : n ≤ 999999999000) (hm : m ≤ 1000000000) :
    Calls Try.prog 63 #[.pointer (some ⟨g, 0, none⟩), .int .i64 m] w fun e w' => ∃ r : Int, e = .returned (.int .i64 r) ∧ (0 ≤ r ∧ (1 ≤ m → r < m) ∧ (m ≤ 1 → r = 0)) ∧ SrcD (n + 2) g w' ∧ Only [g] w w' := by
  by_cases h1 : m ≤ 1
  · go_enter Try.func63, Try.ntmps63
    go_wp2
    go_ret
    exact ⟨0, rfl, ⟨by omega, fun h => by omega, fun _ => rfl⟩, hs.mono (by omega), Only.refl _ _⟩
  · go_enter Try.func63, Try.ntmps63
    go_wp2_with fail
    refine (next_any n g _ hs (by omega)).mono ?_
    rintro e w1 ⟨x, rfl, hx, hs1, ho1⟩
    by_cases h2 : 200 < m
    · go_wp2_with fail
      refine (next_any (n + 1) g _ hs1 (by omega)).mono ?_
      rintro e w2 ⟨y, rfl, hy, hs2, ho2⟩
      have e1 : 0 ≤ Int.tmod (x * 256 + y) m := Int.tmod_nonneg _ (by omega)
      have e2 : Int.tmod (x * 256 + y) m < m := Int.tmod_lt_of_pos _ (by omega)
      have e3 : wrap64 (x * 256) = x * 256 := w64_inD _ (by omega)
      have e4 : wrap64 (x * 256 + y) = x * 256 + y := w64_inD _ (by omega)
      have e5 : wrap64 (Int.tmod (x * 256 + y) m) = Int.tmod (x * 256 + y) m := w64_inD _ (by omega)
      go_wp2
      go_ret
      refine ⟨_, rfl, ?_, hs2, ho1.trans ho2⟩
      first | exact ⟨e1, fun _ => e2, fun h => by omega⟩ | exact ⟨Int.emod_nonneg _ (by omega), fun _ => Int.emod_lt_of_pos _ (by omega), fun h => by omega⟩ | (simp only [e3, e4, e5]; exact ⟨e1, fun _ => e2, fun h => by omega⟩) | skip
    · have e1 : 0 ≤ Int.tmod x m := Int.tmod_nonneg _ (by omega)
      have e2 : Int.tmod x m < m := Int.tmod_lt_of_pos _ (by omega)
      have e5 : wrap64 (Int.tmod x m) = Int.tmod x m := w64_inD _ (by omega)
      go_wp2
      go_ret
      refine ⟨_, rfl, ?_, hs1.mono (by omega), ho1⟩
      first | exact ⟨e1, fun _ => e2, fun h => by omega⟩ | exact ⟨Int.emod_nonneg _ (by omega), fun _ => Int.emod_lt_of_pos _ (by omega), fun h => by omega⟩ | (simp only [e5]; exact ⟨e1, fun _ => e2, fun h => by omega⟩) | skip
set_option maxRecDepth 100000 in
set_option maxHeartbeats 2000000 in
theorem one_any (n g : Nat) (m : Int) (w : World) (hs : SrcD n g w) (hn : n ≤ 999999999000) (hm : m ≤ 1000000000) :
    Calls Try.prog 61 #[.pointer (some ⟨g, 0, none⟩), .int .i64 m] w fun e w' => ∃ r : Bool, e = .returned (.bool r) ∧ SrcD (n + 2) g w' ∧ Only [g] w w' := by
  go_enter Try.func61, Try.ntmps61
  go_wp2_with fail
  refine (pick_any n g m _ hs hn hm).mono ?_
  rintro e w1 ⟨x, rfl, hx, hs1, ho1⟩
  go_wp2
  go_ret
  exact ⟨_, rfl, hs1, ho1⟩
set_option maxRecDepth 100000 in
set_option maxHeartbeats 2000000 in
theorem among_any (n g : Nat) (v : Value) (xs : List Int) (fp : List Nat) (w : World) (hs : SrcD n g w) (hn : n ≤ 999999999000) (hx : Sl fInt.cod w v xs fp) (hg : g ∉ fp) (h0 : 0 < xs.length) (h1 : xs.length ≤ 1000) :
    Calls Try.prog 47 #[.pointer (some ⟨g, 0, none⟩), v] w fun e w' => ∃ t ∈ xs, e = .returned (.int .i64 t) ∧ SrcD (n + 2) g w' ∧ Only [g] w w' := by
  obtain ⟨A, cap, rfl, hle, hca⟩ := hx.form
  go_enter Try.func47, Try.ntmps47
  go_wp2_with fail
  refine (pick_any n g _ _ hs hn (by omega)).mono ?_
  rintro e w1 ⟨r, rfl, ⟨hr0, hr1, _⟩, hs1, ho1⟩
  have hr2 := hr1 (by omega)
  obtain ⟨k, rfl⟩ : ∃ k : Nat, r = k := ⟨r.toNat, by omega⟩
  have hk : k < xs.length := by omega
  obtain ⟨b, off, rfl, _, _, hc, _⟩ := (hx.only ho1 (fun b hb => by simp; intro e; subst e; exact hg hb)).cell1 rfl hk rfl
  go_wp2
  go_ret
  exact ⟨_, List.getElem_mem hk, rfl, hs1, ho1⟩
set_option maxRecDepth 100000 in
set_option maxHeartbeats 2000000 in
theorem l00From_any (v : Value) (xs : List UInt8) (fp : List Nat) (w : World) (hx : Sl fByte.cod w v xs fp) :
    Calls Try.prog 39 #[v] w fun e w' => e = .returned (.pointer (some ⟨w.heap.size, 0, none⟩)) ∧ SrcD 0 w.heap.size w' ∧ Below w.heap.size w w' := by
  obtain ⟨A, cap, rfl, hlen, hcap⟩ := hx.form
  have hB : ∀ T, Below w.heap.size w (w.alloc (.cells #[.slice A xs.length cap, .int .i64 0, .int .u64 0] T)) := fun T => (Below.refl _ _).alloc (Nat.le_refl _) _
  have hlt := hx.lt
  go_enter Try.func39, Try.ntmps39
  go_wp2
  go_ret
  exact ⟨rfl, ⟨_, xs, fp, 0, 0, by simp, by simp, by simp, World.frozen?_alloc_at _ _ _ _ rfl, World.frozen?_alloc_at _ _ _ _ rfl, Nat.le_refl _, hx.below' (hB _), hlt⟩, hB _⟩
theorem slLit (V : World) (T : TypeId) (xs : List ByteArray) (cs : Array Value) (hcs : cs = (xs.flatMap fStr.enc).toArray) (hok : ∀ x ∈ xs, x.size ≤ 1000) (hne : 0 < xs.length) (hm : xs.length ≤ 1000) (k m : Nat) (hk : k = V.heap.size) (hn : m = xs.length) :
    Sl fStr.cod (V.alloc (.cells cs T)) (.slice (some ⟨k, 0, none⟩) m m) xs [k] := by
  subst hk hn
  exact Sl.lit2 (E := fStr) V xs T cs hcs (fun x hx => by have := hok x hx; show _ ≤ _; omega) hne (by omega)
theorem slLitI (V : World) (T : TypeId) (xs : List Int) (cs : Array Value) (hcs : cs = (xs.flatMap fInt.enc).toArray) (hok : ∀ x ∈ xs, -9223372036854775808 ≤ x ∧ x ≤ 9223372036854775807) (hne : 0 < xs.length) (hm : xs.length ≤ 1000) (k m : Nat) (hk : k = V.heap.size) (hn : m = xs.length) :
    Sl fInt.cod (V.alloc (.cells cs T)) (.slice (some ⟨k, 0, none⟩) m m) xs [k] := by
  subst hk hn
  exact Sl.lit2 (E := fInt) V xs T cs hcs hok hne (by omega)

end Go.Proofs.Ytjfaafoldllppaa

namespace Go.Proofs.Ytjfaafoldllppaa
open Go.RowKit
set_option linter.unusedVariables false

structure DGroup where
  id : ByteArray
  people : Int
  guides : Int
  beacons : Int
  shovels : Int
  probes : Int
  skill : Int
  deriving DecidableEq

def fGroup : Flat DGroup where
  n := 7
  enc := fun x => [.string x.id, .int .i64 x.people, .int .i64 x.guides, .int .i64 x.beacons, .int .i64 x.shovels, .int .i64 x.probes, .int .i64 x.skill]
  ok := fun x => fStr.ok x.id ∧ fInt.ok x.people ∧ fInt.ok x.guides ∧ fInt.ok x.beacons ∧ fInt.ok x.shovels ∧ fInt.ok x.probes ∧ fInt.ok x.skill
  pos := by omega
  len := fun _ => rfl
  one := by intro x v hv; simp at hv; rcases hv with rfl | rfl | rfl | rfl | rfl | rfl | rfl <;> rfl

def totGroup (x : DGroup) : Nat := x.id.size
def totGroupS (xs : List DGroup) : Nat := xs.length + (xs.map totGroup).sum

set_option maxRecDepth 100000 in
set_option maxHeartbeats 1000000 in
theorem szGroup_any (x : DGroup) (left : Int) (w : World) (hx : fGroup.ok x) (h0 : 0 ≤ left) (h1 : left ≤ 1048576) :
    Calls Try.prog 24 #[.agg #[.string x.id, .int .i64 x.people, .int .i64 x.guides, .int .i64 x.beacons, .int .i64 x.shovels, .int .i64 x.probes, .int .i64 x.skill], .int .i64 left] w fun e w' => SzR left (totGroup x) w e w' := by
  have hsz0 : x.id.size ≤ 9223372036854775807 := hx.1
  by_cases c0 : left - x.id.size < 0
  · go_enter Try.func24, Try.ntmps24
    go_wp2
    go_ret
    exact .no (by repeat (first | exact Below.refl _ _ | assumption | refine Below.alloc ?_ (by first | omega | (simp <;> omega)) _ | refine Below.setCell ?_ (by first | (show _ ≤ _; omega) | (simp <;> omega)) _ | refine Below.drew ?_ | refine below_drewN ?_ _))
  · skip
    go_enter Try.func24, Try.ntmps24
    go_wp2
    go_ret
    exact .yes (by omega) (by unfold totGroup; omega) (by repeat (first | exact Below.refl _ _ | assumption | refine Below.alloc ?_ (by first | omega | (simp <;> omega)) _ | refine Below.setCell ?_ (by first | (show _ ≤ _; omega) | (simp <;> omega)) _ | refine Below.drew ?_ | refine below_drewN ?_ _))

set_option maxRecDepth 100000 in
set_option maxHeartbeats 1000000 in
theorem szGroupS_any (v : Value) (xs : List DGroup) (fp : List Nat) (left : Int) (w : World) (hx : Sl fGroup.cod w v xs fp) (h0 : 0 ≤ left) (h1 : left ≤ 1048576) :
    Calls Try.prog 5 #[v, .int .i64 left] w fun e w' => SzR left (totGroupS xs) w e w' := by
  obtain ⟨A, cap, rfl, hlen, hcap⟩ := hx.form
  by_cases hl : left - (xs.length : Int) < 0
  · go_enter Try.func5, Try.ntmps5
    go_wp2
    go_ret
    exact .no (Below.refl _ _)
  · go_enter Try.func5, Try.ntmps5
    go_wp2
    go_loopw [1, 5] (fun l i wr => ∃ k : Nat, k ≤ xs.length ∧ i = .int .i64 k ∧ Below w.heap.size w wr ∧ ∃ r : Int, l = .int .i64 r ∧ 0 ≤ r ∧ r + (xs.length + ((xs.take k).map totGroup).sum : Nat) = left) (fun _ i _ => xs.length - (intOf i).toNat)
    case atStart => exact ⟨0, Nat.zero_le _, rfl, Below.refl _ _, _, rfl, by omega, by simp⟩
    case round =>
      obtain ⟨k, hk, rfl, hb, r, rfl, hr0, hr⟩ := hrel
      have HR := Lib.hid hr
      clear hr
      have hr1 : r ≤ 1048576 := by have := HR.out; omega
      by_cases hlt : k < xs.length
      · obtain ⟨b, off, rfl, _, hok, hc, _⟩ := (hx.below' hb).at_ hlt
        have hc0 : wr.cell? ⟨b, off + k * 7, none⟩ = some (.string xs[k].id) := by have := hc 0 (by decide); exact this
        have hc1 : wr.cell? ⟨b, off + k * 7 + 1, none⟩ = some (.int .i64 xs[k].people) := by have := hc 1 (by decide); exact this
        have hc2 : wr.cell? ⟨b, off + k * 7 + 2, none⟩ = some (.int .i64 xs[k].guides) := by have := hc 2 (by decide); exact this
        have hc3 : wr.cell? ⟨b, off + k * 7 + 3, none⟩ = some (.int .i64 xs[k].beacons) := by have := hc 3 (by decide); exact this
        have hc4 : wr.cell? ⟨b, off + k * 7 + 4, none⟩ = some (.int .i64 xs[k].shovels) := by have := hc 4 (by decide); exact this
        have hc5 : wr.cell? ⟨b, off + k * 7 + 5, none⟩ = some (.int .i64 xs[k].probes) := by have := hc 5 (by decide); exact this
        have hc6 : wr.cell? ⟨b, off + k * 7 + 6, none⟩ = some (.int .i64 xs[k].skill) := by have := hc 6 (by decide); exact this
        clear hc
        go_wp2_with fail
        refine (szGroup_any xs[k] r _ hok hr0 hr1).mono ?_
        rintro e w2 ⟨r2, rfl, hr2, hb2⟩
        have HR2 := Lib.hid hr2
        clear hr2
        by_cases hneg : r2 < 0
        · go_wp2
          go_ret
          exact .no (hb.trans (hb2.mono hb.size))
        · go_wp2
          go_roundw
          case rel => exact ⟨k + 1, by omega, by go_num, hb.trans (hb2.mono hb.size), _, rfl, by omega, by have := HR.out; have hst := sum_take_step_ totGroup xs k hlt; rcases HR2.out with h | ⟨_, h⟩ <;> omega⟩
          case measure => simp [intOf]; omega
      · go_wp2
        go_ret
        exact .yes hr0 (by have := HR.out; rw [List.take_of_length_le (by omega)] at this; exact this) hb

set_option maxRecDepth 100000 in
set_option maxHeartbeats 1000000 in
theorem toGroup_any (x : DGroup) (w : World) :
    Calls Try.prog 29 #[.agg #[.string x.id, .int .i64 x.people, .int .i64 x.guides, .int .i64 x.beacons, .int .i64 x.shovels, .int .i64 x.probes, .int .i64 x.skill]] w fun e w' => e = .returned (.agg #[.string x.id, .int .i64 x.people, .int .i64 x.guides, .int .i64 x.beacons, .int .i64 x.shovels, .int .i64 x.probes, .int .i64 x.skill]) ∧ Below w.heap.size w w' := by
  go_enter Try.func29, Try.ntmps29
  go_wp2
  exact bodyPost_ret (v := .agg #[.string x.id, .int .i64 x.people, .int .i64 x.guides, .int .i64 x.beacons, .int .i64 x.shovels, .int .i64 x.probes, .int .i64 x.skill]) (by simp [results, Try.results29, go_sem]) rfl ⟨rfl, (by repeat (first | exact Below.refl _ _ | assumption | refine Below.alloc ?_ (by first | omega | (simp <;> omega)) _ | refine Below.setCell ?_ (by first | (show _ ≤ _; omega) | (simp <;> omega)) _ | refine Below.drew ?_ | refine below_drewN ?_ _))⟩
set_option maxRecDepth 100000 in
set_option maxHeartbeats 1000000 in
theorem eqGroup_any (x : DGroup) (w : World) :
    Calls Try.prog 35 #[.agg #[.string x.id, .int .i64 x.people, .int .i64 x.guides, .int .i64 x.beacons, .int .i64 x.shovels, .int .i64 x.probes, .int .i64 x.skill], .agg #[.string x.id, .int .i64 x.people, .int .i64 x.guides, .int .i64 x.beacons, .int .i64 x.shovels, .int .i64 x.probes, .int .i64 x.skill]] w fun e w' => e = .returned (.bool true) ∧ Below w.heap.size w w' := by
  go_enter Try.func35, Try.ntmps35
  go_wp2
  go_ret
  exact ⟨rfl, (by repeat (first | exact Below.refl _ _ | assumption | refine Below.alloc ?_ (by first | omega | (simp <;> omega)) _ | refine Below.setCell ?_ (by first | (show _ ≤ _; omega) | (simp <;> omega)) _ | refine Below.drew ?_ | refine below_drewN ?_ _))⟩

theorem infoGroup : (Try.prog.info? 43).map (fun i => (i.zero, i.size, i.bytes)) = some (some (.agg #[.string ⟨#[]⟩, .int .i64 0, .int .i64 0, .int .i64 0, .int .i64 0, .int .i64 0, .int .i64 0]), 7, 64) := by kernel_rfl
set_option maxRecDepth 100000 in
set_option maxHeartbeats 1000000 in
theorem toGroupS_any (v : Value) (xs : List DGroup) (fp : List Nat) (w : World) (hx : Sl fGroup.cod w v xs fp) (h1 : xs.length ≤ 1048576) :
    Calls Try.prog 7 #[v] w fun e w' => NewR fGroup.cod w xs e w' := by
  obtain ⟨A, cap, rfl, hlen, hcap⟩ := hx.form
  obtain ⟨i0, hi, hz0, hz1, hz2⟩ := info_parts infoGroup
  have hmk := fun W => run_make_rowN (P := Try.prog) 27 43 i0 _ Try.underlying27 hi hz0 .i64 .i64 xs.length xs.length (Nat.le_refl _) (by rw [hz2]; omega) (by omega) W
  rw [hz1] at hmk
  go_enter Try.func7, Try.ntmps7
  go_wp2
  go_loopw [4] (fun i wr => ∃ k : Nat, k ≤ xs.length ∧ i = .int .i64 k ∧ Fill wr w.heap.size w.heap.size 43 7 xs.length ((xs.take k).flatMap fGroup.enc) ∧ Below w.heap.size w wr) (fun i _ => xs.length - (intOf i).toNat)
  case atStart => exact ⟨0, Nat.zero_le _, rfl, Fill.start w _ _ _ _ (by omega), (Below.refl _ _).alloc (Nat.le_refl _) _⟩
  case round =>
    obtain ⟨k, hk, rfl, hf, hb⟩ := hrel
    by_cases hlt : k < xs.length
    · obtain ⟨b, off, rfl, _, hok, hc, _⟩ := (hx.below' hb).at_ hlt
      have hc0 : wr.cell? ⟨b, off + k * 7, none⟩ = some (.string xs[k].id) := by have := hc 0 (by decide); exact this
      have hc1 : wr.cell? ⟨b, off + k * 7 + 1, none⟩ = some (.int .i64 xs[k].people) := by have := hc 1 (by decide); exact this
      have hc2 : wr.cell? ⟨b, off + k * 7 + 2, none⟩ = some (.int .i64 xs[k].guides) := by have := hc 2 (by decide); exact this
      have hc3 : wr.cell? ⟨b, off + k * 7 + 3, none⟩ = some (.int .i64 xs[k].beacons) := by have := hc 3 (by decide); exact this
      have hc4 : wr.cell? ⟨b, off + k * 7 + 4, none⟩ = some (.int .i64 xs[k].shovels) := by have := hc 4 (by decide); exact this
      have hc5 : wr.cell? ⟨b, off + k * 7 + 5, none⟩ = some (.int .i64 xs[k].probes) := by have := hc 5 (by decide); exact this
      have hc6 : wr.cell? ⟨b, off + k * 7 + 6, none⟩ = some (.int .i64 xs[k].skill) := by have := hc 6 (by decide); exact this
      clear hc
      go_wp2_with fail
      refine (toGroup_any xs[k] _).mono ?_
      rintro e w2 ⟨rfl, hb2⟩
      have hgl := hf.lt
      have hf2 := hf.below hb2 hgl
      clear hf hc0 hc1 hc2 hc3 hc4 hc5 hc6
      obtain ⟨u0, hu0⟩ := hf2.cell (j := k * 7) (by omega)
      have hz0 := hf2.frozen (k * 7)
      obtain ⟨u1, hu1⟩ := hf2.cell (j := k * 7 + 1) (by omega)
      have hz1 := hf2.frozen (k * 7 + 1)
      obtain ⟨u2, hu2⟩ := hf2.cell (j := k * 7 + 2) (by omega)
      have hz2 := hf2.frozen (k * 7 + 2)
      obtain ⟨u3, hu3⟩ := hf2.cell (j := k * 7 + 3) (by omega)
      have hz3 := hf2.frozen (k * 7 + 3)
      obtain ⟨u4, hu4⟩ := hf2.cell (j := k * 7 + 4) (by omega)
      have hz4 := hf2.frozen (k * 7 + 4)
      obtain ⟨u5, hu5⟩ := hf2.cell (j := k * 7 + 5) (by omega)
      have hz5 := hf2.frozen (k * 7 + 5)
      obtain ⟨u6, hu6⟩ := hf2.cell (j := k * 7 + 6) (by omega)
      have hz6 := hf2.frozen (k * 7 + 6)
      go_wp2
      have HL : ((xs.take k).flatMap fGroup.enc).length = k * 7 := flat_take_len (E := fGroup) hk
      have hq0 := hf2.put_at (p := k * 7) (by simp [HL]) (by omega) (.string xs[k].id)
      have hq1 := hq0.put_at (p := k * 7 + 1) (by simp [HL]) (by omega) (.int .i64 xs[k].people)
      have hq2 := hq1.put_at (p := k * 7 + 2) (by simp [HL]) (by omega) (.int .i64 xs[k].guides)
      have hq3 := hq2.put_at (p := k * 7 + 3) (by simp [HL]) (by omega) (.int .i64 xs[k].beacons)
      have hq4 := hq3.put_at (p := k * 7 + 4) (by simp [HL]) (by omega) (.int .i64 xs[k].shovels)
      have hq5 := hq4.put_at (p := k * 7 + 5) (by simp [HL]) (by omega) (.int .i64 xs[k].probes)
      have hq6 := hq5.put_at (p := k * 7 + 6) (by simp [HL]) (by omega) (.int .i64 xs[k].skill)
      go_roundw
      case rel => exact ⟨k + 1, by omega, by go_num, by rw [flat_take_step hlt]; simpa [fGroup, List.append_assoc] using hq6, ((((((((hb.trans (hb2.mono hb.size)).setCell (Nat.le_refl _) _).setCell (Nat.le_refl _) _).setCell (Nat.le_refl _) _).setCell (Nat.le_refl _) _).setCell (Nat.le_refl _) _).setCell (Nat.le_refl _) _).setCell (Nat.le_refl _) _)⟩
      case measure => simp [intOf]; omega
    · have hk' : k = xs.length := by omega
      subst hk'
      rw [List.take_length] at hf
      go_wp2
      go_ret
      exact ⟨_, rfl, Sl.of_own rfl (hf.done (flat_len _ 7 _ (fun _ _ => rfl))) hx.oks, hb⟩

set_option maxRecDepth 100000 in
set_option maxHeartbeats 1000000 in
theorem eqGroupS_any (v v' : Value) (xs : List DGroup) (fp fp' : List Nat) (w : World) (hx : Sl fGroup.cod w v xs fp) (hy : Sl fGroup.cod w v' xs fp') :
    Calls Try.prog 10 #[v, v'] w fun e w' => YesR w e w' := by
  obtain ⟨A, cap, rfl, hlen, hcap⟩ := hx.form
  obtain ⟨A', cap', rfl, hlen', hcap'⟩ := hy.form
  go_enter Try.func10, Try.ntmps10
  go_wp2
  go_loopw [5] (fun i wr => ∃ k : Nat, k ≤ xs.length ∧ i = .int .i64 k ∧ Below w.heap.size w wr) (fun i _ => xs.length - (intOf i).toNat)
  case atStart => exact ⟨0, Nat.zero_le _, rfl, Below.refl _ _⟩
  case round =>
    obtain ⟨k, hk, rfl, hb⟩ := hrel
    by_cases hlt : k < xs.length
    · obtain ⟨b, off, rfl, _, hok, hc, _⟩ := (hx.below' hb).at_ hlt
      obtain ⟨b', off', rfl, _, hok', hd, _⟩ := (hy.below' hb).at_ hlt
      have hc0 : wr.cell? ⟨b, off + k * 7, none⟩ = some (.string xs[k].id) := by have := hc 0 (by decide); exact this
      have hc1 : wr.cell? ⟨b, off + k * 7 + 1, none⟩ = some (.int .i64 xs[k].people) := by have := hc 1 (by decide); exact this
      have hc2 : wr.cell? ⟨b, off + k * 7 + 2, none⟩ = some (.int .i64 xs[k].guides) := by have := hc 2 (by decide); exact this
      have hc3 : wr.cell? ⟨b, off + k * 7 + 3, none⟩ = some (.int .i64 xs[k].beacons) := by have := hc 3 (by decide); exact this
      have hc4 : wr.cell? ⟨b, off + k * 7 + 4, none⟩ = some (.int .i64 xs[k].shovels) := by have := hc 4 (by decide); exact this
      have hc5 : wr.cell? ⟨b, off + k * 7 + 5, none⟩ = some (.int .i64 xs[k].probes) := by have := hc 5 (by decide); exact this
      have hc6 : wr.cell? ⟨b, off + k * 7 + 6, none⟩ = some (.int .i64 xs[k].skill) := by have := hc 6 (by decide); exact this
      have hd0 : wr.cell? ⟨b', off' + k * 7, none⟩ = some (.string xs[k].id) := by have := hd 0 (by decide); exact this
      have hd1 : wr.cell? ⟨b', off' + k * 7 + 1, none⟩ = some (.int .i64 xs[k].people) := by have := hd 1 (by decide); exact this
      have hd2 : wr.cell? ⟨b', off' + k * 7 + 2, none⟩ = some (.int .i64 xs[k].guides) := by have := hd 2 (by decide); exact this
      have hd3 : wr.cell? ⟨b', off' + k * 7 + 3, none⟩ = some (.int .i64 xs[k].beacons) := by have := hd 3 (by decide); exact this
      have hd4 : wr.cell? ⟨b', off' + k * 7 + 4, none⟩ = some (.int .i64 xs[k].shovels) := by have := hd 4 (by decide); exact this
      have hd5 : wr.cell? ⟨b', off' + k * 7 + 5, none⟩ = some (.int .i64 xs[k].probes) := by have := hd 5 (by decide); exact this
      have hd6 : wr.cell? ⟨b', off' + k * 7 + 6, none⟩ = some (.int .i64 xs[k].skill) := by have := hd 6 (by decide); exact this
      have gc0 := cell_regrown hc0
      have gc1 := cell_regrown hc1
      have gc2 := cell_regrown hc2
      have gc3 := cell_regrown hc3
      have gc4 := cell_regrown hc4
      have gc5 := cell_regrown hc5
      have gc6 := cell_regrown hc6
      have gd0 := cell_regrown hd0
      have gd1 := cell_regrown hd1
      have gd2 := cell_regrown hd2
      have gd3 := cell_regrown hd3
      have gd4 := cell_regrown hd4
      have gd5 := cell_regrown hd5
      have gd6 := cell_regrown hd6
      clear hc hd hc0 hd0 hc1 hd1 hc2 hd2 hc3 hd3 hc4 hd4 hc5 hd5 hc6 hd6
      have cq : ∀ d os, Calls Try.prog 35 #[.agg #[.string xs[k].id, .int .i64 xs[k].people, .int .i64 xs[k].guides, .int .i64 xs[k].beacons, .int .i64 xs[k].shovels, .int .i64 xs[k].probes, .int .i64 xs[k].skill], .agg #[.string xs[k].id, .int .i64 xs[k].people, .int .i64 xs[k].guides, .int .i64 xs[k].beacons, .int .i64 xs[k].shovels, .int .i64 xs[k].probes, .int .i64 xs[k].skill]] (Go.Sort.grow (redrawn wr d) os) fun e w'' => e = .returned (.bool true) ∧ ∃ p : Regrown, w'' = Go.Sort.grow (redrawn wr p.d) p.os := fun d os => Calls.regrown_of (eqGroup_any xs[k] _)
      go_wp2
      refine wp_region_quiet_below (by kernel_rfl) (by kernel_rfl) ?_
      repeat (quiet_step (exact cq _ _))
      refine wpQuiet_nil ?_
      intro _ hw'
      obtain ⟨⟨dq, osq⟩, hw''⟩ := hw'
      subst hw''
      have hbq := below_regrown wr dq osq
      clear gc0 gd0 cq
      generalize Go.Sort.grow (redrawn wr dq) osq = wq at *
      go_wp2
      go_roundw
      case rel => exact ⟨k + 1, by omega, by go_num, hb.trans (hbq.mono hb.size)⟩
      case measure => simp [intOf]; omega
    · go_wp2
      go_ret
      exact ⟨rfl, hb⟩

def mkGroup (k : Int) : DGroup := ⟨mt (k), k + 1, k + 1 + 1, k + 1 + 1 + 1, k + 1 + 1 + 1 + 1, k + 1 + 1 + 1 + 1 + 1, k + 1 + 1 + 1 + 1 + 1 + 1⟩
def marksGroup (k : Int) (n : Nat) : List DGroup := (List.range n).map fun (i : Nat) => mkGroup (k + 7 * (i : Int))

theorem marksGroup_get (k0 : Int) (n i : Nat) (h : i < (marksGroup k0 n).length) : (marksGroup k0 n)[i] = mkGroup (k0 + 7 * (i : Int)) := by
  simp [marksGroup]
theorem marksGroup_len (k0 : Int) (n : Nat) : (marksGroup k0 n).length = n := by simp [marksGroup]

set_option maxRecDepth 100000 in
set_option maxHeartbeats 2000000 in
theorem markGroupS_any (v : Value) (xs : List DGroup) (fp : List Nat) (k0 : Int) (w : World) (hx : Sl fGroup.cod w v xs fp) (h0 : 0 ≤ k0) (h1 : k0 + 7 * (xs.length : Int) ≤ 1000000000000) :
    Calls Try.prog 11 #[v, .int .i64 k0] w fun e w' => MarkR fGroup.cod fp w (k0 + 7 * (xs.length : Int)) v (marksGroup k0 xs.length) e w' := by
  obtain ⟨A, cap, rfl, hlen, hcap⟩ := hx.form
  by_cases hne : xs.length = 0
  · have : xs = [] := List.eq_nil_of_length_eq_zero hne
    subst this
    go_enter Try.func11, Try.ntmps11
    go_wp2
    go_loop [1, 5] (fun n i => i = .int .i64 0 ∧ n = .int .i64 k0) (fun _ _ => 0)
    case atStart => exact ⟨rfl, rfl⟩
    case round =>
      obtain ⟨rfl, rfl⟩ := hrel
      go_wp2
      go_ret
      exact ⟨ret_int (by simp), hx, .refl _ _⟩
  · obtain ⟨b, off, rfl, rfl, hbs, hcs0⟩ := hx.cells (by omega)
    go_enter Try.func11, Try.ntmps11
    go_wp2
    go_loopw [1, 5] (fun n i wr => ∃ k : Nat, k ≤ xs.length ∧ i = .int .i64 k ∧ ∃ q : Int, n = .int .i64 q ∧ 0 ≤ q ∧ Hid (q = k0 + 7 * (k : Int)) ∧ Cells wr b off (((List.range k).map fun (i : Nat) => mkGroup (k0 + 7 * (i : Int))).flatMap fGroup.enc ++ (xs.drop k).flatMap fGroup.enc) ∧ Only [b] w wr) (fun _ i _ => xs.length - (intOf i).toNat)
    case atStart => exact ⟨0, Nat.zero_le _, rfl, k0, rfl, h0, by show _ = _; simp, by simpa using hcs0, .refl _ _⟩
    case round =>
      obtain ⟨k, hk, rfl, q, rfl, hq0, HQ, hcs, ho⟩ := hrel
      by_cases hlt : k < xs.length
      · have hq1 : q + 7 ≤ 1000000000000 := by have := HQ.out; omega
        have HC : Cells wr b off (((List.range k).map fun (i : Nat) => mkGroup (k0 + 7 * (i : Int))).flatMap fGroup.enc ++ ((.string xs[k].id : Value) :: (.int .i64 xs[k].people : Value) :: (.int .i64 xs[k].guides : Value) :: (.int .i64 xs[k].beacons : Value) :: (.int .i64 xs[k].shovels : Value) :: (.int .i64 xs[k].probes : Value) :: (.int .i64 xs[k].skill : Value) :: (xs.drop (k + 1)).flatMap fGroup.enc)) := by
          have := hcs
          rw [List.drop_eq_getElem_cons hlt, List.flatMap_cons] at this
          exact this
        generalize HP : ((List.range k).map fun (i : Nat) => mkGroup (k0 + 7 * (i : Int))).flatMap fGroup.enc = pre at *
        have HL : pre.length = k * 7 := by rw [← HP, flat_len fGroup.enc 7 _ (fun _ _ => rfl)]; simp
        generalize HR : (xs.drop (k + 1)).flatMap fGroup.enc = post at *
        have HPH := Lib.hid HP
        clear HP hcs
        have HRH := Lib.hid HR
        clear HR
        have HLH := Lib.hid HL
        clear HL
        go_wp2_with fail
        refine (markText_any _ _ (by omega)).mono ?_
        rintro e w0 ⟨rfl, hbm⟩
        have HD0 := HC.keep (hbm.block b (by have := ho.size; simp at this ⊢; omega))
        have hoo := ho.trans (.of_below hbm)
        clear ho hbm HC
        have ho := hoo
        clear hoo
        have hu0 := HD0.at_mid (m := k * 7) (j := 0) (p := off + k * 7) HLH.out (by omega) (by simp) rfl
        have hz0 := HD0.free_mid (m := k * 7) (j := 0) (p := off + k * 7) HLH.out (by omega) (by simp)
        have hu1 := HD0.at_mid (m := k * 7) (j := 1) (p := off + k * 7 + 1) HLH.out (by omega) (by simp) rfl
        have hz1 := HD0.free_mid (m := k * 7) (j := 1) (p := off + k * 7 + 1) HLH.out (by omega) (by simp)
        have hu2 := HD0.at_mid (m := k * 7) (j := 2) (p := off + k * 7 + 2) HLH.out (by omega) (by simp) rfl
        have hz2 := HD0.free_mid (m := k * 7) (j := 2) (p := off + k * 7 + 2) HLH.out (by omega) (by simp)
        have hu3 := HD0.at_mid (m := k * 7) (j := 3) (p := off + k * 7 + 3) HLH.out (by omega) (by simp) rfl
        have hz3 := HD0.free_mid (m := k * 7) (j := 3) (p := off + k * 7 + 3) HLH.out (by omega) (by simp)
        have hu4 := HD0.at_mid (m := k * 7) (j := 4) (p := off + k * 7 + 4) HLH.out (by omega) (by simp) rfl
        have hz4 := HD0.free_mid (m := k * 7) (j := 4) (p := off + k * 7 + 4) HLH.out (by omega) (by simp)
        have hu5 := HD0.at_mid (m := k * 7) (j := 5) (p := off + k * 7 + 5) HLH.out (by omega) (by simp) rfl
        have hz5 := HD0.free_mid (m := k * 7) (j := 5) (p := off + k * 7 + 5) HLH.out (by omega) (by simp)
        have hu6 := HD0.at_mid (m := k * 7) (j := 6) (p := off + k * 7 + 6) HLH.out (by omega) (by simp) rfl
        have hz6 := HD0.free_mid (m := k * 7) (j := 6) (p := off + k * 7 + 6) HLH.out (by omega) (by simp)
        go_wp2
        have HC0 := HD0.put (m := k * 7) (j := 0) (p := off + k * 7) HLH.out (by omega) (by simp) (.string (mt (q)))
        have ho_ := ho.set (off + k * 7) (.string (mt (q)))
        clear hu0 hz0 ho
        have ho := ho_
        clear ho_
        clear HD0
        have HC1 := HC0.put (m := k * 7) (j := 1) (p := off + k * 7 + 1) HLH.out (by omega) (by simp) (.int .i64 (q + 1))
        have ho_ := ho.set (off + k * 7 + 1) (.int .i64 (q + 1))
        clear hu1 hz1 ho
        have ho := ho_
        clear ho_
        clear HC0
        have HC2 := HC1.put (m := k * 7) (j := 2) (p := off + k * 7 + 2) HLH.out (by omega) (by simp) (.int .i64 (q + 1 + 1))
        have ho_ := ho.set (off + k * 7 + 2) (.int .i64 (q + 1 + 1))
        clear hu2 hz2 ho
        have ho := ho_
        clear ho_
        clear HC1
        have HC3 := HC2.put (m := k * 7) (j := 3) (p := off + k * 7 + 3) HLH.out (by omega) (by simp) (.int .i64 (q + 1 + 1 + 1))
        have ho_ := ho.set (off + k * 7 + 3) (.int .i64 (q + 1 + 1 + 1))
        clear hu3 hz3 ho
        have ho := ho_
        clear ho_
        clear HC2
        have HC4 := HC3.put (m := k * 7) (j := 4) (p := off + k * 7 + 4) HLH.out (by omega) (by simp) (.int .i64 (q + 1 + 1 + 1 + 1))
        have ho_ := ho.set (off + k * 7 + 4) (.int .i64 (q + 1 + 1 + 1 + 1))
        clear hu4 hz4 ho
        have ho := ho_
        clear ho_
        clear HC3
        have HC5 := HC4.put (m := k * 7) (j := 5) (p := off + k * 7 + 5) HLH.out (by omega) (by simp) (.int .i64 (q + 1 + 1 + 1 + 1 + 1))
        have ho_ := ho.set (off + k * 7 + 5) (.int .i64 (q + 1 + 1 + 1 + 1 + 1))
        clear hu5 hz5 ho
        have ho := ho_
        clear ho_
        clear HC4
        have HC6 := HC5.put (m := k * 7) (j := 6) (p := off + k * 7 + 6) HLH.out (by omega) (by simp) (.int .i64 (q + 1 + 1 + 1 + 1 + 1 + 1))
        have ho_ := ho.set (off + k * 7 + 6) (.int .i64 (q + 1 + 1 + 1 + 1 + 1 + 1))
        clear hu6 hz6 ho
        have ho := ho_
        clear ho_
        clear HC5
        go_roundw
        case rel => exact ⟨k + 1, by omega, by go_num, q + 7, by go_num, by omega, by have := HQ.out; show _ = _; omega, marks_step (f := fun (i : Nat) => mkGroup (k0 + 7 * (i : Int))) HPH.out HRH.out (by rw [← HQ.out] <;> rfl) HC6, ho⟩
        case measure => simp [intOf]; omega
      · have hk' : k = xs.length := by omega
        subst hk'
        rw [List.drop_length, List.flatMap_nil, List.append_nil] at hcs
        go_wp2
        go_ret
        have hsz := ho.size
        have hm := Sl.of_cells (E := fGroup) (cap := cap) (xs := marksGroup k0 xs.length) (by rw [marksGroup_len]; exact hlen) hcap (by omega) hcs (by intro x hx; simp [marksGroup] at hx; obtain ⟨i, hi, rfl⟩ := hx; exact ⟨mt_ok _ (by omega), (by simp only [fInt, mkGroup]; omega), (by simp only [fInt, mkGroup]; omega), (by simp only [fInt, mkGroup]; omega), (by simp only [fInt, mkGroup]; omega), (by simp only [fInt, mkGroup]; omega), (by simp only [fInt, mkGroup]; omega)⟩) (by rw [marksGroup_len]; omega)
        rw [marksGroup_len] at hm
        exact ⟨ret_int HQ.out, hm, ho⟩


end Go.Proofs.Ytjfaafoldllppaa

namespace Go.Proofs.Ytjfaafoldllppaa
open Go.RowKit
set_option linter.unusedVariables false

/-- A pointer to a Group that lies somewhere. -/
structure PGroup (w : World) (pb po : Nat) (x : DGroup) : Prop where
  c0 : w.cell? ⟨pb, po, none⟩ = some (.string x.id)
  c1 : w.cell? ⟨pb, po + 1, none⟩ = some (.int .i64 x.people)
  c2 : w.cell? ⟨pb, po + 2, none⟩ = some (.int .i64 x.guides)
  c3 : w.cell? ⟨pb, po + 3, none⟩ = some (.int .i64 x.beacons)
  c4 : w.cell? ⟨pb, po + 4, none⟩ = some (.int .i64 x.shovels)
  c5 : w.cell? ⟨pb, po + 5, none⟩ = some (.int .i64 x.probes)
  c6 : w.cell? ⟨pb, po + 6, none⟩ = some (.int .i64 x.skill)
theorem PGroup.below {w w' : World} {pb po : Nat} {x : DGroup} {B : Nat} (h : PGroup w pb po x) (hb : Below B w w') (hB : pb < B) : PGroup w' pb po x :=
  ⟨(hb.cell (p := ⟨pb, _, none⟩) hB).trans h.c0, (hb.cell (p := ⟨pb, _, none⟩) hB).trans h.c1, (hb.cell (p := ⟨pb, _, none⟩) hB).trans h.c2, (hb.cell (p := ⟨pb, _, none⟩) hB).trans h.c3, (hb.cell (p := ⟨pb, _, none⟩) hB).trans h.c4, (hb.cell (p := ⟨pb, _, none⟩) hB).trans h.c5, (hb.cell (p := ⟨pb, _, none⟩) hB).trans h.c6⟩
theorem PGroup.drewN {w : World} {pb po : Nat} {x : DGroup} (h : PGroup w pb po x) (n : Nat) : PGroup (w.drewN n) pb po x :=
  ⟨h.c0, h.c1, h.c2, h.c3, h.c4, h.c5, h.c6⟩
theorem PGroup.lt {w : World} {pb po : Nat} {x : DGroup} (h : PGroup w pb po x) : pb < w.heap.size := block_lt_of_cell h.c0
theorem PGroup.below' {w w' : World} {pb po : Nat} {x : DGroup} (h : PGroup w pb po x) (hb : Below w.heap.size w w') : PGroup w' pb po x := h.below hb h.lt
theorem PGroup.box (w : World) (x : DGroup) (T : TypeId) : PGroup (w.alloc (.cells #[.string x.id, .int .i64 x.people, .int .i64 x.guides, .int .i64 x.beacons, .int .i64 x.shovels, .int .i64 x.probes, .int .i64 x.skill] T)) w.heap.size 0 x := by
  constructor <;> simp
theorem PGroup.elem {w : World} {A : Option Addr} {len cap : Nat} {xs : List DGroup} {fp : List Nat} (h : Sl fGroup.cod w (.slice A len cap) xs fp) {k : Nat} (hk : k < xs.length) :
    ∃ b off, A = some ⟨b, off, none⟩ ∧ b ∈ fp ∧ fGroup.ok xs[k] ∧ PGroup w b (off + k * 7) xs[k] := by
  obtain ⟨b, off, hA, hm, hok, hc, _⟩ := h.at_ hk
  exact ⟨b, off, hA, hm, hok, ⟨hc 0 (by decide), hc 1 (by decide), hc 2 (by decide), hc 3 (by decide), hc 4 (by decide), hc 5 (by decide), hc 6 (by decide)⟩⟩
end Go.Proofs.Ytjfaafoldllppaa

namespace Go.Proofs.Ytjfaafoldllppaa
open Go.RowKit

def inB (a lo hi : Int) : Bool := decide (lo ≤ a) && decide (a ≤ hi)
theorem inB_true {a lo hi : Int} : inB a lo hi = true ↔ lo ≤ a ∧ a ≤ hi := by simp [inB]
theorem inB_false {a lo hi : Int} : inB a lo hi = false ↔ a < lo ∨ hi < a := by
  simp [inB]
  omega

set_option maxRecDepth 100000 in
set_option maxHeartbeats 400000 in
theorem l00InB_any (a b c : Int) (w : World) :
    Calls Try.prog 52 #[.int .i64 a, .int .i64 b, .int .i64 c] w fun e w' => e = .returned (.bool (inB a b c)) ∧ w = w' := by
  go_enter Try.func52, Try.ntmps52
  go_wp2
  all_goals
    go_ret
    exact ⟨ret_bool (by simp [inB, *] <;> omega), rfl⟩
set_option maxRecDepth 100000 in
set_option maxHeartbeats 400000 in
theorem withinB_any (a b c : Int) (w : World) :
    Calls Try.prog 44 #[.int .i64 a, .int .i64 b, .int .i64 c] w fun e w' => e = .returned (.bool (inB a b c)) ∧ w = w' := by
  go_enter Try.func44, Try.ntmps44
  go_wp2
  all_goals
    go_ret
    exact ⟨ret_bool (by simp [inB, *] <;> omega), rfl⟩

def smallB (c : Int) : Bool := inB c 97 122
def digitB (c : Int) : Bool := inB c 48 57
def okNm (c : UInt8) : Bool := smallB c.toNat || digitB c.toNat
def allNm (l : List UInt8) : Bool := l.all okNm
def headNm (s : ByteArray) : Bool := match s.data.toList with | [] => false | c :: _ => smallB c.toNat
def nameB (s : ByteArray) : Bool := decide (s.size ≤ 10) && headNm s && allNm s.data.toList

theorem headNm_zero {s : ByteArray} (h : s.size = 0) : headNm s = false := by
  unfold headNm
  have : s.data.toList = [] := List.eq_nil_of_length_eq_zero (by simpa using h)
  rw [this]
theorem headNm_pos {s : ByteArray} (h : 0 < s.size) : headNm s = smallB s[0].toNat := by
  obtain ⟨⟨l⟩⟩ := s
  cases l with
  | nil => exact absurd h (by show ¬ 0 < 0; omega)
  | cons c r => rfl
theorem allNm_step {s : ByteArray} {k : Nat} (h : k < s.size) (h0 : allNm (s.data.toList.take k) = true) (h1 : okNm s[k] = true) : allNm (s.data.toList.take (k + 1)) = true := by
  rw [List.take_succ_eq_append_getElem (by simpa using h)]
  unfold allNm at *
  rw [List.all_append, h0]
  simp only [List.all_cons, List.all_nil, Bool.and_true, Bool.true_and]
  exact h1
theorem allNm_bad {s : ByteArray} {k : Nat} (h : k < s.size) (h1 : okNm s[k] = false) : allNm s.data.toList = false := by
  unfold allNm
  rw [List.all_eq_false]
  exact ⟨s[k], Array.mem_toList_iff.2 (Array.getElem_mem _), by rw [h1]; simp⟩
theorem allNm_full {s : ByteArray} {k : Nat} (h : s.size ≤ k) (h0 : allNm (s.data.toList.take k) = true) : allNm s.data.toList = true := by
  rwa [List.take_of_length_le (by simpa using h)] at h0

theorem okNm_true {c : UInt8} (h : (97 ≤ (c.toNat : Int) ∧ (c.toNat : Int) ≤ 122) ∨ (48 ≤ (c.toNat : Int) ∧ (c.toNat : Int) ≤ 57)) : okNm c = true := by
  simp only [okNm, smallB, digitB, Bool.or_eq_true, inB_true]; exact h
theorem okNm_false {c : UInt8} (h : ((c.toNat : Int) < 97 ∨ 122 < (c.toNat : Int)) ∧ ((c.toNat : Int) < 48 ∨ 57 < (c.toNat : Int))) : okNm c = false := by
  simp only [okNm, smallB, digitB, Bool.or_eq_false_iff, inB_false]; exact h

set_option maxRecDepth 100000 in
set_option maxHeartbeats 1000000 in
theorem onlyNameBytes_any (s : ByteArray) (w : World) (hs : s.size ≤ 9223372036854775807) :
    Calls Try.prog 78 #[.string s] w fun e w' => e = .returned (.bool (allNm s.data.toList)) ∧ w = w' := by
  go_enter Try.func78, Try.ntmps78
  go_wp2
  go_loop [7] (fun i => ∃ k : Nat, k ≤ s.size ∧ i = .int .i64 k ∧ allNm (s.data.toList.take k) = true) (fun i => s.size - (intOf i).toNat)
  case atStart => exact ⟨0, Nat.zero_le _, rfl, rfl⟩
  case round =>
    obtain ⟨k, hk, rfl, h0⟩ := hrel
    have H0 := Lib.hid h0
    clear h0
    by_cases hlt : k < s.size
    · go_wp2
      all_goals first
        | (go_ret; exact ⟨ret_bool (allNm_bad hlt (okNm_false (by omega))).symm, rfl⟩)
        | (go_round
           case rel => exact ⟨k + 1, by omega, by go_num, allNm_step hlt H0.out (okNm_true (by omega))⟩
           case measure => simp [intOf]; omega)
    · go_wp2
      go_ret
      exact ⟨ret_bool (allNm_full (by omega) H0.out).symm, rfl⟩
theorem nameB_empty {s : ByteArray} (h : s.size = 0) : nameB s = false := by simp [nameB, headNm_zero h]
theorem nameB_long {s : ByteArray} (h : 10 < s.size) : nameB s = false := by
  have : decide (s.size ≤ 10) = false := by simp; omega
  simp [nameB, this]
theorem nameB_head {s : ByteArray} (h : 0 < s.size) (h1 : (s[0].toNat : Int) < 97 ∨ 122 < (s[0].toNat : Int)) : nameB s = false := by
  have : headNm s = false := by rw [headNm_pos h]; exact inB_false.2 h1
  simp [nameB, this]
theorem nameB_rest {s : ByteArray} (h : 0 < s.size) (h0 : s.size ≤ 10) (h1 : 97 ≤ (s[0].toNat : Int) ∧ (s[0].toNat : Int) ≤ 122) : nameB s = allNm s.data.toList := by
  have : headNm s = true := by rw [headNm_pos h]; exact inB_true.2 h1
  simp [nameB, this, h0]

set_option maxRecDepth 100000 in
set_option maxHeartbeats 1000000 in
theorem implIsName_any (s : ByteArray) (w : World) (hs : s.size ≤ 9223372036854775807) :
    Calls Try.prog 66 #[.string s] w fun e w' => e = .returned (.bool (nameB s)) ∧ w = w' := by
  by_cases c0 : s.size = 0
  · rw [nameB_empty c0]
    have c0' : (s.size : Int) < 1 := by omega
    clear c0
    go_enter Try.func66, Try.ntmps66
    go_wp2
    go_ret
    exact ⟨rfl, rfl⟩
  · by_cases c1 : 10 < s.size
    · rw [nameB_long c1]
      go_enter Try.func66, Try.ntmps66
      go_wp2
      go_ret
      exact ⟨rfl, rfl⟩
    · have c2 : 0 < s.size := by omega
      by_cases c3 : 97 ≤ (s[0].toNat : Int) ∧ (s[0].toNat : Int) ≤ 122
      · rw [nameB_rest c2 (by omega) c3]
        obtain ⟨c4, c5⟩ := c3
        go_enter Try.func66, Try.ntmps66
        go_wp2_with (go_at_call 78; refine (onlyNameBytes_any _ _ hs).mono ?_; rintro e w' ⟨rfl, rfl⟩)
        go_ret
        exact ⟨rfl, rfl⟩
      · rw [nameB_head c2 (by omega)]
        by_cases c4 : (s[0].toNat : Int) < 97
        · clear c3
          go_enter Try.func66, Try.ntmps66
          go_wp2
          go_ret
          exact ⟨rfl, rfl⟩
        · have c5 : 122 < (s[0].toNat : Int) := by omega
          clear c3
          go_enter Try.func66, Try.ntmps66
          go_wp2
          go_ret
          exact ⟨rfl, rfl⟩
set_option maxRecDepth 100000 in
set_option maxHeartbeats 400000 in
theorem l01Small_any (c : Int) (w : World) :
    Calls Try.prog 70 #[.int .u8 c] w fun e w' => e = .returned (.bool (smallB c)) ∧ w = w' := by
  go_enter Try.func70, Try.ntmps70
  go_wp2
  all_goals
    go_ret
    exact ⟨ret_bool (by simp [smallB, inB, *] <;> omega), rfl⟩
set_option maxRecDepth 100000 in
set_option maxHeartbeats 400000 in
theorem l01Digit_any (c : Int) (w : World) :
    Calls Try.prog 71 #[.int .u8 c] w fun e w' => e = .returned (.bool (digitB c)) ∧ w = w' := by
  go_enter Try.func71, Try.ntmps71
  go_wp2
  all_goals
    go_ret
    exact ⟨ret_bool (by simp [digitB, inB, *] <;> omega), rfl⟩

set_option maxRecDepth 100000 in
set_option maxHeartbeats 1000000 in
theorem l01Name_any (s : ByteArray) (w : World) (hs : s.size ≤ 9223372036854775807) :
    Calls Try.prog 49 #[.string s] w fun e w' => e = .returned (.bool (nameB s)) ∧ w = w' := by
  by_cases c0 : s.size = 0
  · rw [nameB_empty c0]
    have e0 : s = ⟨#[]⟩ := ByteArray.ext (Array.eq_empty_of_size_eq_zero c0)
    subst e0
    clear c0
    go_enter Try.func49, Try.ntmps49
    go_wp2
    go_ret
    exact ⟨rfl, rfl⟩
  · have hemp : s.toList.isEmpty = false := by
      rw [ByteArray.toList_eq]
      cases hl : s.data.toList with
      | nil => exact absurd (by have := congrArg List.length hl; simpa using this) c0
      | cons => rfl
    by_cases c1 : 10 < s.size
    · rw [nameB_long c1]
      go_enter Try.func49, Try.ntmps49
      go_wp2
      go_ret
      exact ⟨rfl, rfl⟩
    · have c2 : 0 < s.size := by omega
      by_cases c3 : 97 ≤ (s[0].toNat : Int) ∧ (s[0].toNat : Int) ≤ 122
      · rw [nameB_rest c2 (by omega) c3]
        have c4 : smallB s[0].toNat = true := inB_true.2 c3
        clear c3
        go_enter Try.func49, Try.ntmps49
        go_wp2_with (go_at_call 70; refine (l01Small_any _ _).mono ?_; rintro e w' ⟨rfl, rfl⟩)
        clear c4
        go_loop [3] (fun i => ∃ k : Nat, k ≤ s.size ∧ i = .int .i64 k ∧ allNm (s.data.toList.take k) = true) (fun i => s.size - (intOf i).toNat)
        case atStart => exact ⟨0, Nat.zero_le _, rfl, rfl⟩
        case round =>
          obtain ⟨k, hk, rfl, h0⟩ := hrel
          have H0 := Lib.hid h0
          clear h0
          by_cases hlt : k < s.size
          · cases d1 : smallB s[k].toNat <;> cases d2 : digitB s[k].toNat
            all_goals
              go_wp2_with (first | (go_at_call 70; refine (l01Small_any _ _).mono ?_; rintro e w' ⟨rfl, rfl⟩) | (go_at_call 71; refine (l01Digit_any _ _).mono ?_; rintro e w' ⟨rfl, rfl⟩))
              first
                | (go_ret; exact ⟨ret_bool (allNm_bad hlt (by simp [okNm, *])).symm, rfl⟩)
                | (go_round
                   case rel => exact ⟨k + 1, by omega, by go_num, allNm_step hlt H0.out (by simp [okNm, *])⟩
                   case measure => simp [intOf]; omega)
          · go_wp2
            go_ret
            exact ⟨ret_bool (allNm_full (by omega) H0.out).symm, rfl⟩
      · rw [nameB_head c2 (by omega)]
        have c4 : smallB s[0].toNat = false := inB_false.2 (by omega)
        clear c3
        go_enter Try.func49, Try.ntmps49
        go_wp2_with (go_at_call 70; refine (l01Small_any _ _).mono ?_; rintro e w' ⟨rfl, rfl⟩)
        go_ret
        exact ⟨rfl, rfl⟩
theorem nameB_len {s : ByteArray} (h : nameB s = true) : s.size ≤ 10 := by
  by_cases h1 : 10 < s.size
  · rw [nameB_long h1] at h; cases h
  · omega
end Go.Proofs.Ytjfaafoldllppaa

namespace Go.Proofs.Ytjfaafoldllppaa
open Go.RowKit

/-- Operations that yield a value and do nothing else. -/
def valueOnly (o : Oper) : Bool :=
  match o.op with
  | .move _ | .assign _ | .pick .. | .load .. | .binOp .. | .unOp .. | .convert .. | .slice .. | .fieldAddr .. | .field .. | .indexAddr .. | .index .. | .lookup .. | .build .. | .extract .. | .typeAssert .. | .sliceToArrayPointer .. | .makeInterface .. => true
  | .nilCheck _ => true
  | .call { callee := .builtin b, .. } => match b with | .len | .cap | .max | .min => true | _ => false
  | _ => false

theorem value_of_map {P : Program} {s : Sem Value} {w w' : World} {n : Next} (h : ((do pure (.value (← s)) : Sem Next)).run P w = .ok n w') : ∃ v, n = .value v := by
  rw [Sem.run_bind] at h
  generalize s.run P w = r at h
  cases r with
  | ok v w1 => exact ⟨v, by injection h with h1 _; exact h1.symm⟩
  | halt x w1 => cases h

theorem value_of_valueOnly {P : Program} {ρ : Operand → Value} {o : Oper} {w w' : World} {n : Next} (hv : valueOnly o = true) (h : (execOp ρ o).run P w = .ok n w') : ∃ v, n = .value v := by
  obtain ⟨dst, op, ty, pos, after, guard⟩ := o
  unfold valueOnly at hv
  cases op <;> simp only [Bool.false_eq_true] at hv <;> try contradiction
  case move x => exact ⟨_, by injection h with h1 _; exact h1.symm⟩
  case assign x => exact ⟨_, by injection h with h1 _; exact h1.symm⟩
  case nilCheck x =>
    simp only [execOp] at h
    split at h
    all_goals first
      | (simp [runtimePanic] at h; done)
      | (exact ⟨_, by injection h with h1 _; exact h1.symm⟩)
      | skip
    all_goals
      split at h
      all_goals first
        | (simp [runtimePanic] at h; done)
        | (exact ⟨_, by injection h with h1 _; exact h1.symm⟩)
        | skip
    rename_i t1 w1 _
    rw [Sem.run_bind] at h
    generalize program.run P w = r1 at h
    cases r1 with
    | halt x w1 => cases h
    | ok p w1 =>
      rw [Result.andThen_ok, Sem.run_bind] at h
      generalize Sem.run P (nilAhead _ _ _ _) w1 = r2 at h
      cases r2 with
      | halt x w1 => cases h
      | ok b w2 =>
        rw [Result.andThen_ok] at h
        split at h
        · simp [unsupported] at h
        · exact ⟨_, by injection h with h1 _; exact h1.symm⟩
  case call c =>
    obtain ⟨callee, args, ats⟩ := c
    cases callee <;> simp only [Bool.false_eq_true] at hv <;> try contradiction
    rename_i b
    cases b
    all_goals first
      | exact absurd hv (by decide)
      | exact value_of_map h
  case pick c a b =>
    simp only [execOp] at h
    rw [Sem.run_bind] at h
    generalize (asBool (ρ c)).run P w = r at h
    cases r with
    | ok v w1 => exact ⟨_, by injection h with h1 _; exact h1.symm⟩
    | halt x w1 => cases h
  all_goals exact value_of_map h

section
variable {P : Program} {ops : Array Oper} {Q : Exit → Act → World → Prop} {md : Region.Mode} {C : World → Prop}

/-- The walk: 'true': the operation only looks, and yields one value in every world of the class; 'false': it acts, in the world at hand, and leaves one of the class. -/
def wpMix (P : Program) (ops : Array Oper) (Q : Exit → Act → World → Prop) (C : World → Prop) : List Bool → List Oper → Act → World → Prop
  | _, [], a, w => Q .normal a w
  | [], _ :: _, _, _ => False
  | true :: ks, o :: l, a, w => if Region.wanted o (yielded ops a.tmps) then o.quiet P a C (fun a' => wpMix P ops Q C ks l a' w) else wpMix P ops Q C ks l (a.put o.dst undef) w
  | false :: ks, o :: l, a, w => if Region.wanted o (yielded ops a.tmps) then o.wp P a w (fun a' w' => C w' ∧ wpMix P ops Q C ks l a' w') Q else wpMix P ops Q C ks l (a.put o.dst undef) w

/-- Is this order of the walk one that serves for all? -/
def mixB (md : Region.Mode) (ops : Array Oper) : List Nat → List Bool → Array Bool → Bool
  | [], _, listed => (Region.ready md ops listed).isEmpty
  | i :: is, true :: ks, listed => (Region.ready md ops listed).contains i && Region.free md ops listed i && ((ops[i]?).map valueOnly).getD false && mixB md ops is ks (listed.setIfInBounds i true)
  | i :: is, false :: ks, listed => (Region.ready md ops listed == [i]) && mixB md ops is ks (listed.setIfInBounds i true)
  | _ :: _, [], _ => false

theorem yieldsIf_of_quiet {o : Oper} {a : Act} {K : Act → Prop} (hv : valueOnly o = true) (h : o.quiet P a C K) : ∃ v, (∀ w, C w → (execOp a.eval o).run P w = .ok (.value v) w) ∧ K (a.put o.dst v) := by
  obtain ⟨v, h1, h2⟩ := h
  refine ⟨v, fun w hw => ?_, h2⟩
  have h3 := h1 w hw
  unfold Oper.quietAt at h3
  generalize hr : (execOp a.eval o).run P w = r at h3
  cases r with
  | halt x w' => simp only [Oper.quietUpon] at h3
  | ok n w' =>
    obtain ⟨u, rfl⟩ := value_of_valueOnly hv hr
    simp only [Oper.quietUpon] at h3
    obtain ⟨rfl, rfl⟩ := h3
    rfl

theorem wpAnyH_of_mix (hs : Region.noSelect ops = true) (hQ : ∀ (c : _) (a : Act) (d : Option Tmp) (v : Value) (w : World), Q (.panic c) (a.put d v) w → Q (.panic c) a w) :
    ∀ (is : List Nat) (ks : List Bool) (l : List Oper) (listed : Array Bool) (a : Act) (w : World), (∀ j : Nat, l[j]? = (is[j]?).bind (fun i => ops[i]?)) → l.length = is.length →
      mixB md ops is ks listed = true → C w → wpMix P ops Q C ks l a w → wpAnyH P md ops Q C is.length listed a w := by
  intro is
  induction is with
  | nil =>
    intro ks l listed a w _ hn hB _ h
    obtain rfl : l = [] := List.eq_nil_of_length_eq_zero hn
    have h' : Q .normal a w := by cases ks <;> exact h
    exact ⟨by simpa [mixB] using hB, h'⟩
  | cons i is ih =>
    intro ks l listed a w hl hn hB hC h
    cases l with
    | nil => simp at hn
    | cons o l =>
      have ho : ops[i]? = some o := by simpa using (hl 0).symm
      have hl' : ∀ j : Nat, l[j]? = (is[j]?).bind (fun i => ops[i]?) := fun j => by simpa using hl (j + 1)
      have hn' : l.length = is.length := by simpa using hn
      cases ks with
      | nil => simp [mixB] at hB
      | cons k ks =>
        cases k with
        | true =>
          simp only [mixB, Bool.and_eq_true, ho, Option.map_some, Option.getD_some] at hB
          obtain ⟨⟨⟨hr, hf⟩, hv⟩, hB'⟩ := hB
          simp only [wpMix] at h
          by_cases hw : Region.wanted o (yielded ops a.tmps) = true
          · rw [if_pos hw] at h
            obtain ⟨v, h1, h2⟩ := yieldsIf_of_quiet hv h
            exact wpAnyH_take ho hs hf hr (fun c a w => hQ c a _ _ w) (.inl ⟨hw, h1⟩) hC (ih ks l _ _ w hl' hn' hB' hC h2)
          · rw [if_neg hw] at h
            exact wpAnyH_take ho hs hf hr (fun c a w => hQ c a _ _ w) (.inr ⟨by simpa using hw, rfl⟩) hC (ih ks l _ _ w hl' hn' hB' hC h)
        | false =>
          simp only [mixB, Bool.and_eq_true] at hB
          obtain ⟨hr, hB'⟩ := hB
          simp only [wpMix] at h
          refine wpAnyH_all (rs := [i]) (by simpa using hr) (by simp) (fun j hj => ?_)
          obtain rfl : j = i := by simpa using hj
          unfold wpOp
          simp only [ho]
          by_cases hw : Region.wanted o (yielded ops a.tmps) = true
          · rw [if_pos hw] at h ⊢
            exact .inl (Oper.wp_mono (fun a' w' hh => ⟨hh.1, ih ks l _ a' w' hl' hn' hB' hh.1 hh.2⟩) h)
          · rw [if_neg hw] at h ⊢
            exact ⟨hC, ih ks l _ _ w hl' hn' hB' hC h⟩

/-- The same, closed to whoever would unfold it. -/
structure Mix (P : Program) (ops : Array Oper) (Q : Exit → Act → World → Prop) (C : World → Prop) (ks : List Bool) (l : List Oper) (a : Act) (w : World) : Prop where
  out : wpMix P ops Q C ks l a w
/-- A region, in the text's order. -/
theorem wp_region_mix {id : Nat} {l : List Oper} {a : Act} {w : World} (ks : List Bool) (hm : P.follows .mixedOrders = true) (hs : Region.noSelect l.toArray = true)
    (hB : mixB .any l.toArray (List.range l.length) ks (Array.replicate l.length false) = true)
    (hQ : ∀ (c : _) (a : Act) (d : Option Tmp) (v : Value) (w : World), Q (.panic c) (a.put d v) w → Q (.panic c) a w) (hC : C w.drew) (h : Mix P l.toArray Q C ks l a w.drew) : (Code.region id l.toArray true).wp P Q a w := by
  refine wp_region_held (S := C) hm ?_
  have := wpAnyH_of_mix (md := .any) hs hQ (List.range l.length) ks l (Array.replicate l.length false) a w.drew (fun j => by
    by_cases hj : j < l.length
    · simp [hj]
    · simp [hj]) (by simp) hB hC h.out
  simpa using this
/-- A region, in an order of our own. -/
theorem wp_region_mixed {id : Nat} {l : List Oper} {a : Act} {w : World} (is : List Nat) (ks : List Bool) (hm : P.follows .mixedOrders = true) (hs : Region.noSelect l.toArray = true)
    (hB : (is.all (fun i => decide (i < l.length)) && decide (is.length = l.length) && mixB .any l.toArray is ks (Array.replicate l.length false)) = true)
    (hQ : ∀ (c : _) (a : Act) (d : Option Tmp) (v : Value) (w : World), Q (.panic c) (a.put d v) w → Q (.panic c) a w) (hC : C w.drew) (h : Mix P l.toArray Q C ks (is.map fun i => l.getD i default) a w.drew) : (Code.region id l.toArray true).wp P Q a w := by
  simp only [Bool.and_eq_true, decide_eq_true_eq, List.all_eq_true] at hB
  obtain ⟨⟨h1, h2⟩, h3⟩ := hB
  refine wp_region_held (S := C) hm ?_
  have := wpAnyH_of_mix (md := .any) hs hQ is ks (is.map fun i => l.getD i default) (Array.replicate l.length false) a w.drew (fun j => by
    rw [List.getElem?_map]
    cases hj : is[j]? with
    | none => rfl
    | some i =>
      have hi := h1 i (List.mem_of_getElem? hj)
      simp [hi, List.getD_eq_getElem?_getD]) (by simp) h3 hC h.out
  rw [h2] at this
  simpa using this

theorem wpMix_pure {ks : List Bool} {o : Oper} {l : List Oper} {a : Act} {w : World} (hw : Region.wanted o (yielded ops a.tmps) = true)
    (h : ∀ K : Act → Prop, (∀ a', Mix P ops Q C ks l a' w → K a') → o.quiet P a C K) : Mix P ops Q C (true :: ks) (o :: l) a w := by
  refine ⟨?_⟩
  simp only [wpMix]; rw [if_pos hw]; exact h _ fun _ h => h.out
theorem wpMix_skip {k : Bool} {ks : List Bool} {o : Oper} {l : List Oper} {a : Act} {w : World} (hw : Region.wanted o (yielded ops a.tmps) = false)
    (h : ∀ K : Act → Prop, (∀ a', Mix P ops Q C ks l a' w → K a') → K (a.put o.dst undef)) : Mix P ops Q C (k :: ks) (o :: l) a w := by
  have h' : wpMix P ops Q C ks l (a.put o.dst undef) w := h _ fun _ h => h.out
  refine ⟨?_⟩
  cases k <;> (simp only [wpMix]; rw [if_neg (by rw [hw]; exact Bool.false_ne_true)]; exact h')
theorem wpMix_act {ks : List Bool} {o : Oper} {l : List Oper} {a : Act} {w : World} (hw : Region.wanted o (yielded ops a.tmps) = true)
    (h : ∀ K : Act → World → Prop, (∀ a' w', C w' → Mix P ops Q C ks l a' w' → K a' w') → o.wp P a w K Q) : Mix P ops Q C (false :: ks) (o :: l) a w := by
  refine ⟨?_⟩
  simp only [wpMix]; rw [if_pos hw]; exact h _ fun _ _ hc h => ⟨hc, h.out⟩
theorem mix_world {ks : List Bool} {l : List Oper} {a : Act} {w : World} (X : World → Prop) (hX : X w) (h : ∀ N, X N → Mix P ops Q C ks l a N) : Mix P ops Q C ks l a w := h w hX
/-- The world gets a name, and what is known of it is said. -/
theorem at_world {c : Code} {a : Act} {w : World} (X : World → Prop) (hX : X w) (h : ∀ W, X W → c.wp P Q a W) : c.wp P Q a w := h w hX
theorem wpMix_nil {ks : List Bool} {a : Act} {w : World} (h : Q .normal a w) : Mix P ops Q C ks [] a w := by refine ⟨?_⟩; cases ks <;> exact h
end
end Go.Proofs.Ytjfaafoldllppaa

namespace Go.Proofs.Ytjfaafoldllppaa
open Go.RowKit
set_option linter.unusedVariables false

def absF (n : Int) : Int := max n (-n)
def drF (a b : Int) : Int := if absF b - absF (Int.tmod a b) ≤ absF (Int.tmod a b) then (if a < 0 ↔ b < 0 then Int.tdiv a b + 1 else Int.tdiv a b - 1) else Int.tdiv a b
theorem absF_le {n m : Int} : absF n ≤ m ↔ -m ≤ n ∧ n ≤ m := by unfold absF; omega
theorem tmod_parts {a b : Int} (hb : 0 < b) : ∃ q r, Int.tdiv a b = q ∧ Int.tmod a b = r ∧ a = q * b + r ∧ -b < r ∧ r < b ∧ (0 ≤ a → 0 ≤ r) ∧ (a < 0 → r ≤ 0) := by
  refine ⟨_, _, rfl, rfl, ?_, ?_, Int.tmod_lt_of_pos _ hb, fun h => Int.tmod_nonneg _ h, fun h => ?_⟩
  · have := Int.mul_tdiv_add_tmod a b
    rw [Int.mul_comm]; omega
  · rcases Int.lt_or_le a 0 with h | h
    · have h1 := Int.tmod_lt_of_pos (-a) hb
      rw [Int.neg_tmod] at h1; omega
    · have := Int.tmod_nonneg b h; omega
  · have h1 := Int.tmod_nonneg b (show (0 : Int) ≤ -a by omega)
    rw [Int.neg_tmod] at h1; omega
/-- The quotient is as near as can be. -/
theorem drF_near {a b : Int} (hb : 0 < b) : -b ≤ 2 * (drF a b * b - a) ∧ 2 * (drF a b * b - a) ≤ b := by
  obtain ⟨q, r, hq, hr, ha, h1, h2, h3, h4⟩ := tmod_parts (a := a) hb
  unfold drF
  rw [hq, hr]
  have e : absF b = b := by unfold absF; omega
  have hb2 : ¬ b < 0 := by omega
  rw [e]
  rcases Int.lt_or_le a 0 with hn | hn
  · have hr2 := h4 hn
    have e2 : absF r = -r := by unfold absF; omega
    rw [e2]
    split
    · rw [if_neg (fun h => hb2 (h.1 hn)), Int.sub_mul]; omega
    · omega
  · have hr2 := h3 hn
    have e2 : absF r = r := by unfold absF; omega
    rw [e2]
    split
    · rw [if_pos ⟨fun h => absurd h (by omega), fun h => absurd h hb2⟩, Int.add_mul]; omega
    · omega
theorem mul_lt_cancel {x y n : Int} (hn : 0 < n) (h : x * n < y * n) : x < y := Int.lt_of_mul_lt_mul_right h (by omega)
/-- A quotient of a sum that lies between lo * b and hi * b lies between lo and hi. -/
theorem drF_between {a b lo hi : Int} (hb : 0 < b) (h1 : lo * b ≤ a) (h2 : a ≤ hi * b) : lo ≤ drF a b ∧ drF a b ≤ hi := by
  obtain ⟨h3, h4⟩ := drF_near (a := a) hb
  constructor
  · refine Int.le_of_lt_add_one (mul_lt_cancel hb ?_)
    rw [Int.add_mul]; omega
  · refine Int.le_of_lt_add_one (mul_lt_cancel hb ?_)
    rw [Int.add_mul]; omega
theorem quo_bounds {a b q r : Int} (hb : 0 < b) (hab : a = q * b + r) (h1 : -b < r) (h2 : r < b) (h3 : 0 ≤ a → 0 ≤ r) (h4 : a < 0 → r ≤ 0) (ha : -1000000000000000000 ≤ a ∧ a ≤ 1000000000000000000) : -1000000000000000000 ≤ q ∧ q ≤ 1000000000000000000 := by
  constructor
  · refine Int.not_lt.1 (fun h => ?_)
    have : q * b ≤ (-1000000000000000001) * 1 := by
      have h5 : q * b ≤ q * 1 := Int.mul_le_mul_of_nonpos_left (by omega) (by omega)
      omega
    rcases Int.lt_or_le a 0 with h0 | h0
    · have := h4 h0
      have h6 : q * b + 0 ≤ q * b + 0 := Int.le_refl _
      omega
    · have h5 : q * b ≤ (-1) * b := Int.mul_le_mul_of_nonneg_right (by omega) (by omega)
      omega
  · refine Int.not_lt.1 (fun h => ?_)
    have h5 : q * 1 ≤ q * b := Int.mul_le_mul_of_nonneg_left (by omega) (by omega)
    rcases Int.lt_or_le a 0 with h0 | h0
    · have h6 : 1 * b ≤ q * b := Int.mul_le_mul_of_nonneg_right (by omega) (by omega)
      omega
    · have := h3 h0
      omega
set_option maxRecDepth 100000 in
set_option maxHeartbeats 1000000 in
theorem minS_any (a b : Int) (w : World) : Calls Try.prog 72 #[.int .i64 a, .int .i64 b] w fun e w' => e = .returned (.int .i64 (min a b)) ∧ w = w' := by
  by_cases h : a < b
  · have e : min a b = a := by omega
    rw [e]
    go_enter Try.func72, Try.ntmps72
    go_wp2
    go_ret
    exact ⟨rfl, rfl⟩
  · have e : min a b = b := by omega
    rw [e]
    go_enter Try.func72, Try.ntmps72
    go_wp2
    go_ret
    exact ⟨rfl, rfl⟩
set_option maxRecDepth 100000 in
set_option maxHeartbeats 1000000 in
theorem maxS_any (a b : Int) (w : World) : Calls Try.prog 76 #[.int .i64 a, .int .i64 b] w fun e w' => e = .returned (.int .i64 (max a b)) ∧ w = w' := by
  by_cases h : b < a
  · have e : max a b = a := by omega
    rw [e]
    go_enter Try.func76, Try.ntmps76
    go_wp2
    go_ret
    exact ⟨rfl, rfl⟩
  · have e : max a b = b := by omega
    rw [e]
    go_enter Try.func76, Try.ntmps76
    go_wp2
    go_ret
    exact ⟨rfl, rfl⟩
end Go.Proofs.Ytjfaafoldllppaa

namespace Go.Proofs.Ytjfaafoldllppaa
open Go.RowKit
set_option linter.unusedVariables false

/-- What a region may leave behind that only adds above base, X kept. -/
structure KeptW (base : Nat) (w : World) (X : World → Prop) where
  v : World
  below : Below base w v
  x : X v
/-- append of one element, as an operation alone. -/
theorem wp_append_at1 {P : Program} (w : World) {o : Oper} {a : Act} {K : Act → World → Prop} {Q : Exit → Act → World → Prop}
    (s x : Operand) (t : TypeId) (ho : o.op = .call { callee := .builtin .append, args := #[s, x], argTypes := #[t, t] })
    (base : Nat) (e : TypeId) (i : TypeInfo) (z : Value) (size bytes : Nat) (ht : P.underlying t = some (.slice e)) (hi : P.info? e = some i) (hz : i.zero = some z)
    (hsize : i.size = size) (hby : i.bytes = bytes) (hzs : z.cells.size = size) (hsz : 0 < size)
    (v : Value) (n : Nat) (xs : List Value) (hs : a.eval s = v) (hown : w.ownsRow base e size v n xs) (us : List Value) (hul : us.length = size) (h1 : ∀ u ∈ us, u.oneCell' = true)
    (ad : Nat) (hx : a.eval x = .slice (some ⟨ad, 0, none⟩) 1 1) (hc : ∀ j u, us[j]? = some u → w.cell? ⟨ad, j, none⟩ = some u) (hn : n ≤ 1000000000) (hb : bytes ≤ 1000) (hbase : base ≤ w.heap.size)
    (h : ∀ v' w', w'.ownsRow base e size v' (n + 1) (xs ++ us) → Below base w w' → w.grownBy w' v.ownBlock → K (a.put o.dst v') w') : o.wp P a w K Q := by
  have hbytes : (n + 1) * bytes ≤ 140737488355328 := by
    have : (n + 1) * bytes ≤ 1000000001 * 1000 := Nat.mul_le_mul (by omega) hb
    omega
  obtain ⟨v', w', hr, h2, h3, h4, h5⟩ := run_append_own_at (P := P) w base t o.type e i z size bytes ht hi hz hsize hby hzs hsz v n xs hown ⟨ad, 0, none⟩ 1 1 us (by omega) (fun j u hj => by
    have e0 : (⟨ad, 0, none⟩ : Addr).add j = ⟨ad, j, none⟩ := by unfold Addr.add; by_cases h0 : j = 0 <;> simp [h0]
    rw [e0]; exact hc j u hj) h1 (by unfold maxLen; omega) hbytes hbase
  have hbw : Below base w w' := (Below.refl base w).grown h3 hbase (fun k hk => (hown.lt k hk).1)
  unfold Oper.wp execOp
  simp only [ho, resolve, invoke, builtin, Sem.run_bind, Sem.run_pure, Result.andThen_ok, List.map_toArray, List.map_cons, List.map_nil, hs, hx, hr]
  exact h v' w' h2 hbw h3
/-- append of one element, as an operation alone, with the block that it went to. -/
theorem wp_append_at2 {P : Program} (w : World) {o : Oper} {a : Act} {K : Act → World → Prop} {Q : Exit → Act → World → Prop}
    (s x : Operand) (t : TypeId) (ho : o.op = .call { callee := .builtin .append, args := #[s, x], argTypes := #[t, t] })
    (base : Nat) (e : TypeId) (i : TypeInfo) (z : Value) (size bytes : Nat) (ht : P.underlying t = some (.slice e)) (hi : P.info? e = some i) (hz : i.zero = some z)
    (hsize : i.size = size) (hby : i.bytes = bytes) (hzs : z.cells.size = size) (hsz : 0 < size)
    (v : Value) (n : Nat) (xs : List Value) (hs : a.eval s = v) (hown : w.ownsRow base e size v n xs) (us : List Value) (hul : us.length = size) (h1 : ∀ u ∈ us, u.oneCell' = true)
    (ad : Nat) (hx : a.eval x = .slice (some ⟨ad, 0, none⟩) 1 1) (hc : ∀ j u, us[j]? = some u → w.cell? ⟨ad, j, none⟩ = some u) (hn : n ≤ 1000000000) (hb : bytes ≤ 1000) (hbase : base ≤ w.heap.size)
    (h : ∀ v' w', w'.ownsRow base e size v' (n + 1) (xs ++ us) → Below base w w' → w.grownBy w' v.ownBlock → (v'.ownBlock = v.ownBlock ∨ v'.ownBlock = some w.heap.size) → K (a.put o.dst v') w') : o.wp P a w K Q := by
  have hbytes : (n + 1) * bytes ≤ 140737488355328 := by
    have : (n + 1) * bytes ≤ 1000000001 * 1000 := Nat.mul_le_mul (by omega) hb
    omega
  obtain ⟨v', w', hr, h2, h3, h4, h5⟩ := run_append_own_at (P := P) w base t o.type e i z size bytes ht hi hz hsize hby hzs hsz v n xs hown ⟨ad, 0, none⟩ 1 1 us (by omega) (fun j u hj => by
    have e0 : (⟨ad, 0, none⟩ : Addr).add j = ⟨ad, j, none⟩ := by unfold Addr.add; by_cases h0 : j = 0 <;> simp [h0]
    rw [e0]; exact hc j u hj) h1 (by unfold maxLen; omega) hbytes hbase
  have hbw : Below base w w' := (Below.refl base w).grown h3 hbase (fun k hk => (hown.lt k hk).1)
  unfold Oper.wp execOp
  simp only [ho, resolve, invoke, builtin, Sem.run_bind, Sem.run_pure, Result.andThen_ok, List.map_toArray, List.map_cons, List.map_nil, hs, hx, hr]
  exact h v' w' h2 hbw h3 h5

theorem run_append_none {P : Program} {w : World} (base : Nat) (t ty e : TypeId) (i : TypeInfo) (size c : Nat) (ht : P.underlying t = some (.slice e)) (hi : P.info? e = some i)
    (v : Value) (n : Nat) (xs : List Value) (hown : w.ownsRow base e size v n xs) :
    (Builtin.append_ #[t, t] ty #[v, .slice none 0 c]).run P w = .ok v w := by
  rcases hown.2 with ⟨rfl, rfl⟩ | ⟨g, cap, cur, rfl, _, _, hnc, _⟩
  · simp [Builtin.append_, run_underlying ht, sizeOf, typeInfo, hi, Builtin.lenOf, Builtin.firstCells]
  · simp [Builtin.append_, run_underlying ht, sizeOf, typeInfo, hi, Builtin.lenOf, Builtin.firstCells, hnc, storeCells]

/-- What may be copied out of a slice value: the list M. -/
def Src {α : Type} (E : Flat α) (w : World) (v : Value) (M : List α) : Prop :=
  ∃ A c, v = .slice A M.length c ∧ (A = none → M = []) ∧ ∀ ad, A = some ad → ∀ (j : Nat) u, (M.flatMap E.enc)[j]? = some u → w.cell? (ad.add j) = some u

theorem addr_add (b off j : Nat) : (⟨b, off, none⟩ : Addr).add j = ⟨b, off + j, none⟩ := by
  unfold Addr.add; by_cases h0 : j = 0 <;> simp [h0]
section
variable {α : Type} {E : Flat α} {w w' : World} {A : Option Addr} {len cap : Nat} {xs : List α} {fp : List Nat}
theorem Sl.src (h : Sl E.cod w (.slice A len cap) xs fp) : Src E w (.slice A len cap) xs := by
  obtain ⟨A', cap', hv, _, _, _⟩ := id h
  injection hv with hA hl hc
  subst hl
  refine ⟨A, cap, rfl, fun hn => ?_, fun ad had j u hu => ?_⟩
  · rcases Nat.eq_zero_or_pos xs.length with h0 | h0
    · exact List.eq_nil_of_length_eq_zero h0
    · obtain ⟨b, off, hA', _⟩ := h.cells h0
      rw [hn] at hA'; cases hA'
  · rcases Nat.eq_zero_or_pos xs.length with h0 | h0
    · rw [List.eq_nil_of_length_eq_zero h0] at hu; simp at hu
    · obtain ⟨b, off, hA', _, _, hc⟩ := h.cells h0
      rw [had] at hA'
      injection hA' with e
      subst e
      have hj : j < (xs.flatMap E.enc).length := by
        rcases Nat.lt_or_ge j (xs.flatMap E.enc).length with h1 | h1
        · exact h1
        · rw [List.getElem?_eq_none h1] at hu; cases hu
      rw [addr_add, (hc j hj).1, hu]
theorem Sl.src_take (h : Sl E.cod w (.slice A len cap) xs fp) {k : Nat} (hk : k ≤ xs.length) {c : Nat} : Src E w (.slice A k c) (xs.take k) := by
  obtain ⟨A', c', hv, h1, h2⟩ := h.src
  injection hv with hA hl hc
  subst hA
  have hlk : (xs.take k).length = k := by simp; omega
  refine ⟨A, c, by rw [hlk], fun hn => by rw [h1 hn]; simp, fun ad had j u hu => h2 ad had j u ?_⟩
  have e : xs.flatMap E.enc = (xs.take k).flatMap E.enc ++ (xs.drop k).flatMap E.enc := by rw [← List.flatMap_append, List.take_append_drop]
  rw [e, List.getElem?_append_left]
  · exact hu
  · rcases Nat.lt_or_ge j ((xs.take k).flatMap E.enc).length with h3 | h3
    · exact h3
    · rw [List.getElem?_eq_none h3] at hu; cases hu
theorem Sl.src_drop {b off : Nat} (h : Sl E.cod w (.slice (some ⟨b, off, none⟩) len cap) xs fp) {k : Nat} (hk : k ≤ xs.length) {c : Nat} : Src E w (.slice (some ⟨b, off + k * E.n, none⟩) (xs.length - k) c) (xs.drop k) := by
  obtain ⟨A', c', hv, h1, h2⟩ := h.src
  injection hv with hA hl hc
  subst hA
  refine ⟨some ⟨b, off + k * E.n, none⟩, c, by simp, fun hn => (by cases hn), fun ad had j u hu => ?_⟩
  obtain rfl : (⟨b, off + k * E.n, none⟩ : Addr) = ad := Option.some.inj had
  have hlt : ((xs.take k).flatMap E.enc).length = k * E.n := by
    rw [flat_len E.enc E.n _ (fun x _ => E.len x)]; simp; rw [Nat.min_eq_left hk]
  have e : xs.flatMap E.enc = (xs.take k).flatMap E.enc ++ (xs.drop k).flatMap E.enc := by rw [← List.flatMap_append, List.take_append_drop]
  have := h2 _ rfl (k * E.n + j) u (by rw [e, List.getElem?_append_right (by omega), hlt]; simpa using hu)
  rw [addr_add] at this ⊢
  rw [← this]; congr 2; omega
theorem Src.empty {A : Option Addr} {c : Nat} : Src E w (.slice A 0 c) ([] : List α) := ⟨A, c, rfl, fun _ => rfl, fun _ _ j u hu => by simp at hu⟩
theorem Src.below {v : Value} (h : Src E w v xs) (hb : ∀ a, (∃ u, w.cell? a = some u) → w'.cell? a = w.cell? a) : Src E w' v xs := by
  obtain ⟨A, c, h1, h2, h3⟩ := h
  exact ⟨A, c, h1, h2, fun ad had j u hu => (hb _ ⟨u, h3 ad had j u hu⟩).trans (h3 ad had j u hu)⟩
theorem Src.belowB {v : Value} (h : Src E w v xs) (hb : Below w.heap.size w w') : Src E w' v xs :=
  h.below fun a ⟨u, hu⟩ => hb.cell (block_lt_of_cell hu)
end

theorem grown_below {base : Nat} {w w' : World} {v : Value} {e : TypeId} {size n : Nat} {xs : List Value} (hown : w.ownsRow base e size v n xs) (hg : w.grownBy w' v.ownBlock) (hb : base ≤ w.heap.size) : Below base w w' :=
  (Below.refl base w).grown hg hb (fun k hk => (hown.lt k hk).1)

/-- append(own, other...) -/
theorem wpList_append_src {α : Type} {E : Flat α} {P : Program} {w : World} {ops : Array Oper} {rest : List Oper} {o : Oper} {a : Act} {Q : Exit → Act → World → Prop} (hgd : o.guard = none) (s x : Operand) (t : TypeId)
    (ho : o.op = .call { callee := .builtin .append, args := #[s, x], argTypes := #[t, t] })
    (base : Nat) (e : TypeId) (i : TypeInfo) (z : Value) (bytes : Nat) (ht : P.underlying t = some (.slice e)) (hi : P.info? e = some i) (hz : i.zero = some z)
    (hsize : i.size = E.n) (hby : i.bytes = bytes) (hzs : z.cells.size = E.n)
    (v : Value) (L : List α) (hs : a.eval s = v) (hown : Own E w base e v L) (v2 : Value) (M : List α) (hx : a.eval x = v2) (hM : Src E w v2 M)
    (hn : L.length + M.length ≤ 1000000000) (hb : bytes ≤ 1000) (hbase : base ≤ w.heap.size)
    (h : ∀ v' w', Own E w' base e v' (L ++ M) → Below base w w' → wpList P ops Q rest (a.put o.dst v') w') : wpList P ops Q (o :: rest) a w := by
  obtain ⟨A, c, rfl, hnone, hnews⟩ := hM
  have hone : ∀ u ∈ M.flatMap E.enc, u.oneCell' = true := fun u hu => by
    obtain ⟨y, _, hy⟩ := List.mem_flatMap.1 hu
    exact E.one y u hy
  cases A with
  | none =>
    have hm := hnone rfl
    subst hm
    refine wpList_plain hgd fun K hK => ?_
    have hrun := run_append_none (P := P) (w := w) base t o.type e i E.n c ht hi v L.length _ hown
    unfold Oper.wp
    simp [execOp, ho, resolve, invoke, builtin, hs, hx, hrun, Result.andThen]
    refine hK _ _ (h v w ?_ (Below.refl _ _))
    rw [List.append_nil]; exact hown
  | some ad =>
    refine wpList_append_own w hgd s x t ho base e i z E.n bytes ht hi hz hsize hby hzs E.pos v L.length _ hs hown ad M.length c (M.flatMap E.enc) hx (flat_len E.enc E.n M (fun x _ => E.len x)) (hnews ad rfl) hone (by unfold maxLen; omega) ?_ hbase ?_
    · have : (L.length + M.length) * bytes ≤ 1000000000 * 1000 := Nat.mul_le_mul hn hb
      omega
    · intro v' w' h2 h3 _
      refine h v' w' ?_ (grown_below hown h3 hbase)
      show w'.ownsRow base e E.n v' (L ++ M).length ((L ++ M).flatMap E.enc)
      rw [List.flatMap_append, List.length_append]
      exact h2

/-- append within the room of an own row, at a single operation. -/
theorem wp_append_fits_ {P : Program} (w : World) {o : Oper} {a : Act} {K : Act → World → Prop} {Q : Exit → Act → World → Prop}
    (s x : Operand) (t : TypeId) (hop : o.op = Op.call { callee := Callee.builtin Builtin.append, args := #[s, x], argTypes := #[t, t] })
    (base : Nat) (e : TypeId) (i : TypeInfo) (size : Nat) (h1 : P.underlying t = some (.slice e)) (h2 : P.info? e = some i) (h4 : i.size = size)
    (g k cap : Nat) (xs : List Value) (hs : a.eval s = .slice (some ⟨g, 0, none⟩) k cap) (hown : w.ownsRow base e size (.slice (some ⟨g, 0, none⟩) k cap) k xs) (ad : Addr) (m c : Nat) (news : List Value) (hx : a.eval x = .slice (some ad) m c) (hn : news.length = m * size)
    (hc : ∀ j u, news[j]? = some u → w.cell? (ad.add j) = some u) (h1c : ∀ u ∈ news, u.oneCell' = true) (b1 : k + m ≤ cap)
    (hK : ∀ w', w'.ownsRow base e size (.slice (some ⟨g, 0, none⟩) (k + m) cap) (k + m) (xs ++ news) → w.grownBy w' (some g) → K (a.put o.dst (.slice (some ⟨g, 0, none⟩) (k + m) cap)) w') :
    o.wp P a w K Q := by
  obtain ⟨w', hrun, r1, r2⟩ := run_append_fits (P := P) w base t o.type e i size h1 h2 h4 g k cap xs hown ad m c news hn hc h1c b1
  unfold Oper.wp
  simp [execOp, hop, resolve, invoke, builtin, hs, hx, hrun, Result.andThen]
  exact hK w' r1 r2
theorem own_beyond {w : World} {base : Nat} {e : TypeId} {size g n cap : Nat} {xs : List Value} (h : w.ownsRow base e size (.slice (some ⟨g, 0, none⟩) n cap) n xs) {p : Nat} (hp : n * size ≤ p) (u : Value) :
    (w.setCell ⟨g, p, none⟩ u).ownsRow base e size (.slice (some ⟨g, 0, none⟩) n cap) n xs := by
  obtain ⟨h1, h2⟩ := h
  refine ⟨h1, ?_⟩
  rcases h2 with ⟨hv, _⟩ | ⟨g', cap', cur, hv, hg, hh, hnc, hcm, hsz, hxs⟩
  · cases hv
  · injection hv with hv1 _ hv2
    injection hv1 with hv1
    injection hv1 with hv1 _ _
    subst hv1 hv2
    refine .inr ⟨g, cap, cur.setIfInBounds p u, rfl, hg, ?_, hnc, hcm, by simpa using hsz, ?_⟩
    · have hl : g < w.heap.size := by
        rcases Nat.lt_or_ge g w.heap.size with hlt | hge
        · exact hlt
        · rw [Array.getElem?_eq_none hge] at hh; cases hh
      simp only [World.setCell]
      rw [Array.getElem?_modify, if_pos rfl, hh]
      rfl
    · rw [Array.toList_setIfInBounds, List.take_set_of_le hp]; exact hxs
theorem own_cell {w : World} {base : Nat} {e : TypeId} {size g n cap : Nat} {xs : List Value} (h : w.ownsRow base e size (.slice (some ⟨g, 0, none⟩) n cap) n xs) {p : Nat} (hp : p < cap * size) :
    (∃ u, w.cell? ⟨g, p, none⟩ = some u) ∧ w.frozen? ⟨g, p, none⟩ = false := by
  obtain ⟨h1, h2⟩ := h
  rcases h2 with ⟨hv, _⟩ | ⟨g', cap', cur, hv, hg, hh, hnc, hcm, hsz, hxs⟩
  · cases hv
  · injection hv with hv1 _ hv2
    injection hv1 with hv1
    injection hv1 with hv1 _ _
    subst hv1 hv2
    refine ⟨⟨cur[p]'(by omega), ?_⟩, ?_⟩
    · simp [World.cell?, hh, hsz, hp]
    · simp [World.frozen?, hh]
theorem own_prefix {w : World} {base : Nat} {e : TypeId} {size g n k cap : Nat} {xs ys : List Value} (h : w.ownsRow base e size (.slice (some ⟨g, 0, none⟩) n cap) n xs) (hk : k ≤ n) (hy : ys.length = k * size) (hp : ys <+: xs) :
    w.ownsRow base e size (.slice (some ⟨g, 0, none⟩) k cap) k ys := by
  obtain ⟨h1, h2⟩ := h
  refine ⟨hy, ?_⟩
  rcases h2 with ⟨hv, _⟩ | ⟨g', cap', cur, hv, hg, hh, hnc, hcm, hsz, hxs⟩
  · cases hv
  · injection hv with hv1 _ hv2
    injection hv1 with hv1
    injection hv1 with hv1 _ _
    subst hv1 hv2
    refine .inr ⟨g, cap, cur, rfl, hg, hh, by omega, hcm, hsz, ?_⟩
    have hle : k * size ≤ n * size := Nat.mul_le_mul_right _ hk
    rw [List.prefix_iff_eq_take] at hp
    rw [hp, ← hxs, List.take_take, hy, Nat.min_eq_left hle]
theorem own_tail {α : Type} {E : Flat α} {w : World} {base : Nat} {e : TypeId} {g n cap : Nat} {xs : List α} (h : w.ownsRow base e E.n (.slice (some ⟨g, 0, none⟩) n cap) n (xs.flatMap E.enc)) {k : Nat} (hk : k ≤ xs.length) :
    ∀ (j : Nat) u, ((xs.drop k).flatMap E.enc)[j]? = some u → w.cell? ⟨g, k * E.n + j, none⟩ = some u := by
  intro j u hu
  have hlt : ((xs.take k).flatMap E.enc).length = k * E.n := by
    rw [flat_len E.enc E.n _ (fun x _ => E.len x)]; simp; rw [Nat.min_eq_left hk]
  have e2 : xs.flatMap E.enc = (xs.take k).flatMap E.enc ++ (xs.drop k).flatMap E.enc := by rw [← List.flatMap_append, List.take_append_drop]
  have h3 : (xs.flatMap E.enc)[k * E.n + j]? = some u := by rw [e2, List.getElem?_append_right (by omega), hlt]; simpa using hu
  have h4 : k * E.n + j < n * E.n := by
    have := h.1
    rw [← this]
    rcases Nat.lt_or_ge (k * E.n + j) (xs.flatMap E.enc).length with h5 | h5
    · exact h5
    · rw [List.getElem?_eq_none h5] at h3; cases h3
  rw [h.cellAt (k * E.n + j) h4]; exact h3
end Go.Proofs.Ytjfaafoldllppaa

namespace Go.Proofs.Ytjfaafoldllppaa
open Go.RowKit
section
variable {P : Program} {ops : Array Oper} {Q : Exit → Act → World → Prop} {md : Region.Mode} {C : World → Prop}

def mixF (md : Region.Mode) (ops : Array Oper) (i : Nat) (is1 : List Nat) (ks1 : List Bool) (j : Nat) (is2 : List Nat) (ks2 : List Bool) : List Nat → Array Bool → Bool
  | [], listed => (Region.ready md ops listed == [i, j]) && mixB md ops is1 ks1 (listed.setIfInBounds i true) && mixB md ops is2 ks2 (listed.setIfInBounds j true)
  | p :: ps, listed => (Region.ready md ops listed).contains p && Region.free md ops listed p && ((ops[p]?).map valueOnly).getD false && mixF md ops i is1 ks1 j is2 ks2 ps (listed.setIfInBounds p true)
def wpFork (P : Program) (ops : Array Oper) (Q : Exit → Act → World → Prop) (C : World → Prop) (ks1 : List Bool) (l1 : List Oper) (ks2 : List Bool) (l2 : List Oper) : List Oper → Act → World → Prop
  | [], a, w => wpMix P ops Q C (false :: ks1) l1 a w ∧ wpMix P ops Q C (false :: ks2) l2 a w
  | o :: lp, a, w => if Region.wanted o (yielded ops a.tmps) then o.quiet P a C (fun a' => wpFork P ops Q C ks1 l1 ks2 l2 lp a' w) else wpFork P ops Q C ks1 l1 ks2 l2 lp (a.put o.dst undef) w

theorem wpOp_of_mix (hs : Region.noSelect ops = true) (hQ : ∀ (c : _) (a : Act) (d : Option Tmp) (v : Value) (w : World), Q (.panic c) (a.put d v) w → Q (.panic c) a w)
    {i : Nat} {is : List Nat} {ks : List Bool} {listed : Array Bool} {a : Act} {w : World} (hi : i < ops.size) (his : ∀ x ∈ is, x < ops.size) (hB : mixB md ops is ks (listed.setIfInBounds i true) = true) (hC : C w)
    (h : wpMix P ops Q C (false :: ks) ((i :: is).map fun i => ops.getD i default) a w) :
    wpOp P ops Q i (fun a' w' => C w' ∧ wpAnyH P md ops Q C is.length (listed.setIfInBounds i true) a' w') a w := by
  have ho : ops[i]? = some (ops.getD i default) := by simp [hi]
  have hl : ∀ j : Nat, (is.map fun i => ops.getD i default)[j]? = (is[j]?).bind (fun i => ops[i]?) := fun j => by
    rw [List.getElem?_map]
    cases hj : is[j]? with
    | none => rfl
    | some x => have := his x (List.mem_of_getElem? hj); simp [this]
  rw [List.map_cons] at h
  simp only [wpMix] at h
  unfold wpOp
  simp only [ho]
  by_cases hw : Region.wanted (ops.getD i default) (yielded ops a.tmps) = true
  · rw [if_pos hw] at h ⊢
    exact .inl (Oper.wp_mono (fun a' w' hh => ⟨hh.1, wpAnyH_of_mix hs hQ is ks _ _ a' w' hl (by simp) hB hh.1 hh.2⟩) h)
  · rw [if_neg hw] at h ⊢
    exact ⟨hC, wpAnyH_of_mix hs hQ is ks _ _ _ w hl (by simp) hB hC h⟩

theorem wpAnyH_of_fork (hs : Region.noSelect ops = true) (hQ : ∀ (c : _) (a : Act) (d : Option Tmp) (v : Value) (w : World), Q (.panic c) (a.put d v) w → Q (.panic c) a w)
    {i : Nat} {is1 : List Nat} {ks1 : List Bool} {j : Nat} {is2 : List Nat} {ks2 : List Bool} (hi : i < ops.size) (hj : j < ops.size) (h1 : ∀ x ∈ is1, x < ops.size) (h2 : ∀ x ∈ is2, x < ops.size) (hlen : is1.length = is2.length) :
    ∀ (ps : List Nat) (listed : Array Bool) (a : Act) (w : World), (∀ x ∈ ps, x < ops.size) → mixF md ops i is1 ks1 j is2 ks2 ps listed = true → C w →
      wpFork P ops Q C ks1 ((i :: is1).map fun i => ops.getD i default) ks2 ((j :: is2).map fun i => ops.getD i default) (ps.map fun i => ops.getD i default) a w → wpAnyH P md ops Q C (ps.length + (is1.length + 1)) listed a w := by
  intro ps
  induction ps with
  | nil =>
    intro listed a w _ hB hC h
    simp only [mixF, Bool.and_eq_true, beq_iff_eq] at hB
    obtain ⟨⟨hr, hb1⟩, hb2⟩ := hB
    simp only [List.map_nil, wpFork] at h
    rw [List.length_nil, Nat.zero_add]
    refine wpAnyH_all hr (by simp) (fun x hx => ?_)
    rcases List.mem_cons.1 hx with rfl | hx
    · exact wpOp_of_mix hs hQ hi h1 hb1 hC h.1
    · rw [List.mem_singleton] at hx; subst hx
      rw [hlen]
      exact wpOp_of_mix hs hQ hj h2 hb2 hC h.2
  | cons p ps ih =>
    intro listed a w hps hB hC h
    have hp : p < ops.size := hps p (by simp)
    have ho : ops[p]? = some (ops.getD p default) := by simp [hp]
    simp only [mixF, Bool.and_eq_true, ho, Option.map_some, Option.getD_some] at hB
    obtain ⟨⟨⟨hr, hf⟩, hv⟩, hB'⟩ := hB
    rw [show ((p :: ps).map fun i => ops.getD i default) = ops.getD p default :: ps.map (fun i => ops.getD i default) from rfl] at h
    simp only [wpFork] at h
    rw [List.length_cons, show ps.length + 1 + (is1.length + 1) = (ps.length + (is1.length + 1)) + 1 by omega]
    by_cases hw : Region.wanted (ops.getD p default) (yielded ops a.tmps) = true
    · rw [if_pos hw] at h
      obtain ⟨v, q1, q2⟩ := yieldsIf_of_quiet hv h
      exact wpAnyH_take ho hs hf hr (fun c a w => hQ c a _ _ w) (.inl ⟨hw, q1⟩) hC (ih _ _ w (fun x hx => hps x (by simp [hx])) hB' hC q2)
    · rw [if_neg hw] at h
      exact wpAnyH_take ho hs hf hr (fun c a w => hQ c a _ _ w) (.inr ⟨by simpa using hw, rfl⟩) hC (ih _ _ w (fun x hx => hps x (by simp [hx])) hB' hC h)

structure Fork (P : Program) (ops : Array Oper) (Q : Exit → Act → World → Prop) (C : World → Prop) (ks1 : List Bool) (l1 : List Oper) (ks2 : List Bool) (l2 : List Oper) (lp : List Oper) (a : Act) (w : World) : Prop where
  out : wpFork P ops Q C ks1 l1 ks2 l2 lp a w
theorem wp_region_fork {id : Nat} {l : List Oper} {a : Act} {w : World} (ps : List Nat) (i : Nat) (is1 : List Nat) (ks1 : List Bool) (j : Nat) (is2 : List Nat) (ks2 : List Bool) (hm : P.follows .mixedOrders = true) (hs : Region.noSelect l.toArray = true)
    (hB : (((i :: j :: (ps ++ is1 ++ is2)).all (fun x => decide (x < l.length))) && decide (is1.length = is2.length) && decide (ps.length + (is1.length + 1) = l.length) && mixF .any l.toArray i is1 ks1 j is2 ks2 ps (Array.replicate l.length false)) = true)
    (hQ : ∀ (c : _) (a : Act) (d : Option Tmp) (v : Value) (w : World), Q (.panic c) (a.put d v) w → Q (.panic c) a w) (hC : C w.drew)
    (h : Fork P l.toArray Q C ks1 ((i :: is1).map fun i => l.getD i default) ks2 ((j :: is2).map fun i => l.getD i default) (ps.map fun i => l.getD i default) a w.drew) : (Code.region id l.toArray true).wp P Q a w := by
  simp only [Bool.and_eq_true, decide_eq_true_eq, List.all_eq_true] at hB
  obtain ⟨⟨⟨h1, h2⟩, h3⟩, h4⟩ := hB
  refine wp_region_held (S := C) hm ?_
  have hg : (fun i => l.toArray.getD i default) = (fun i => l.getD i default) := by funext x; simp [Array.getD_eq_getD_getElem?, List.getD_eq_getElem?_getD]
  have := wpAnyH_of_fork (md := .any) (ops := l.toArray) hs hQ (i := i) (is1 := is1) (ks1 := ks1) (j := j) (is2 := is2) (ks2 := ks2) (by simpa using h1 i (by simp)) (by simpa using h1 j (by simp))
    (fun x hx => by simpa using h1 x (by simp [hx])) (fun x hx => by simpa using h1 x (by simp [hx])) h2 ps (Array.replicate l.length false) a w.drew (fun x hx => by simpa using h1 x (by simp [hx])) h4 hC (by rw [hg]; exact h.out)
  rw [h3] at this
  simpa using this
theorem wpFork_pure {ks1 ks2 : List Bool} {l1 l2 : List Oper} {o : Oper} {l : List Oper} {a : Act} {w : World} (hw : Region.wanted o (yielded ops a.tmps) = true)
    (h : ∀ K : Act → Prop, (∀ a', Fork P ops Q C ks1 l1 ks2 l2 l a' w → K a') → o.quiet P a C K) : Fork P ops Q C ks1 l1 ks2 l2 (o :: l) a w := by
  refine ⟨?_⟩
  simp only [wpFork]; rw [if_pos hw]; exact h _ fun _ h => h.out
theorem wpFork_split {ks1 ks2 : List Bool} {l1 l2 : List Oper} {a : Act} {w : World} (h1 : Mix P ops Q C (false :: ks1) l1 a w) (h2 : Mix P ops Q C (false :: ks2) l2 a w) : Fork P ops Q C ks1 l1 ks2 l2 [] a w := ⟨⟨h1.out, h2.out⟩⟩
end
end Go.Proofs.Ytjfaafoldllppaa
