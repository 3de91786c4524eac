/- Parts of the proof: Base, Mark, Coll, Ap, All, Cr, TString, So, De, Nu, Dt, Nm, Dz. -/
import Derived.Test.YtgnbhcgagdfaiaaGreatDoorRows
import Derived.WalkKit
import Derived.WalkSpells
import Derived.WalkLawsBesides
import Derived.Lib.Hide
import Derived.Deep.Draws
import Derived.Deep.QuietTactic
import Derived.BigQuiet
import Derived.Deep.DeepFit
import Derived.Lib.QuietBelow
import Derived.Laws.OwnMore
import Derived.Maps.AppendAt
import Derived.Sort.Walk0
import Derived.Laws.CopyOwn
import Derived.Lib.ItoaNum
import Derived.Laws.IdiomStrings
import Derived.Lib.ParseIntBTie
namespace Go.Proofs.YtgnbhcgagdfaiaaGreatDoor
open Go.RowKit

theorem ret_bool {a b : Bool} (h : a = b) : Ending.returned (.bool a) = .returned (.bool b) := by rw [h]
theorem ret_str {a b : ByteArray} (h : a = b) : Ending.returned (.string a) = .returned (.string b) := by rw [h]
theorem ret_int {k : IntKind} {a b : Int} (h : a = b) : Ending.returned (.int k a) = .returned (.int k b) := by rw [h]

theorem bytes_toList_inj {a b : ByteArray} (h : a.toList = b.toList) : a = b := by
  rw [ByteArray.toList_eq, ByteArray.toList_eq] at h
  exact ByteArray.ext (Array.toList_inj.mp h)
theorem bytes_beq_false {a b : ByteArray} (h : ¬ a = b) : (a.toList == b.toList) = false := by
  rw [beq_eq_false_iff_ne]
  exact fun e => h (bytes_toList_inj e)

/-- How a datum lies in cells: the cells, the datum, the blocks behind it. -/
structure Cod (α : Type) where
  n : Nat
  rd : World → List Value → α → List Nat → Prop
  pos : 0 < n
  len : ∀ {w cs x fp}, rd w cs x fp → cs.length = n
  lt : ∀ {w cs x fp}, rd w cs x fp → ∀ b ∈ fp, b < w.heap.size
  keep : ∀ {w w' cs x fp}, rd w cs x fp → (∀ b ∈ fp, w'.heap[b]? = w.heap[b]?) → rd w' cs x fp

/-- A datum whose cells are a function of it: no memory behind it. -/
structure Flat (α : Type) where
  n : Nat
  enc : α → List Value
  ok : α → Prop
  pos : 0 < n
  len : ∀ x, (enc x).length = n
  one : ∀ x, ∀ v ∈ enc x, v.oneCell' = true

def Flat.cod {α : Type} (E : Flat α) : Cod α where
  n := E.n
  rd := fun _ cs x fp => cs = E.enc x ∧ E.ok x ∧ fp = []
  pos := E.pos
  len := by rintro w cs x fp ⟨rfl, _, _⟩; exact E.len x
  lt := by rintro w cs x fp ⟨_, _, rfl⟩ b hb; simp at hb
  keep := by rintro w w' cs x fp h _; exact h

def fInt : Flat Int where
  n := 1
  enc := fun x => [.int .i64 x]
  ok := fun x => -9223372036854775808 ≤ x ∧ x ≤ 9223372036854775807
  pos := by omega
  len := fun _ => rfl
  one := by intro x v hv; simp at hv; subst hv; rfl
def fStr : Flat ByteArray where
  n := 1
  enc := fun x => [.string x]
  ok := fun x => x.size ≤ 9223372036854775807
  pos := by omega
  len := fun _ => rfl
  one := by intro x v hv; simp at hv; subst hv; rfl
def fBool : Flat Bool where
  n := 1
  enc := fun x => [.bool x]
  ok := fun _ => True
  pos := by omega
  len := fun _ => rfl
  one := by intro x v hv; simp at hv; subst hv; rfl
def fByte : Flat UInt8 where
  n := 1
  enc := fun x => [.int .u8 x.toNat]
  ok := fun _ => True
  pos := by omega
  len := fun _ => rfl
  one := by intro x v hv; simp at hv; subst hv; rfl

/-- A slice value that reads as a list. -/
def Sl {α : Type} (E : Cod α) (w : World) (v : Value) (xs : List α) (fp : List Nat) : Prop :=
  ∃ A cap, v = .slice A xs.length cap ∧ xs.length ≤ cap ∧ cap ≤ maxLen ∧
    ((xs = [] ∧ fp = []) ∨ ∃ b off F, A = some ⟨b, off, none⟩ ∧ b < w.heap.size ∧ fp = b :: (List.range xs.length).flatMap F ∧
      ∀ i (h : i < xs.length), ∃ cs, (∀ j, j < E.n → w.cell? ⟨b, off + i * E.n + j, none⟩ = cs[j]?) ∧ (∀ j, j < E.n → w.frozen? ⟨b, off + i * E.n + j, none⟩ = false) ∧ E.rd w cs xs[i] (F i))

theorem Sl.keep {α : Type} {E : Cod α} {w w' : World} {v : Value} {xs : List α} {fp : List Nat} (h : Sl E w v xs fp) (hk : ∀ b ∈ fp, w'.heap[b]? = w.heap[b]?) (hs : w.heap.size ≤ w'.heap.size) : Sl E w' v xs fp := by
  obtain ⟨A, cap, hv, hl, hc, hr⟩ := h
  refine ⟨A, cap, hv, hl, hc, ?_⟩
  rcases hr with ⟨h1, h2⟩ | ⟨b, off, F, hA, hb, hfp, hi⟩
  · exact .inl ⟨h1, h2⟩
  · refine .inr ⟨b, off, F, hA, by omega, hfp, fun i hlt => ?_⟩
    obtain ⟨cs, h1, h2, h3⟩ := hi i hlt
    have hbk : w'.heap[b]? = w.heap[b]? := hk b (by rw [hfp]; simp)
    refine ⟨cs, fun j hj => (World.cell?_of_block (w := w) (w' := w') (a := ⟨b, off + i * E.n + j, none⟩) hbk).trans (h1 j hj), fun j hj => (World.frozen?_of_block (w := w) (w' := w') (a := ⟨b, off + i * E.n + j, none⟩) hbk).trans (h2 j hj), E.keep h3 fun c hc => hk c ?_⟩
    rw [hfp]
    exact List.mem_cons_of_mem _ (List.mem_flatMap.2 ⟨i, by simpa using hlt, hc⟩)

theorem Sl.lt {α : Type} {E : Cod α} {w : World} {v : Value} {xs : List α} {fp : List Nat} (h : Sl E w v xs fp) : ∀ b ∈ fp, b < w.heap.size := by
  obtain ⟨A, cap, hv, hl, hc, hr⟩ := h
  intro c hc
  rcases hr with ⟨h1, rfl⟩ | ⟨b, off, F, hA, hb, rfl, hi⟩
  · simp at hc
  · rcases List.mem_cons.1 hc with rfl | hc
    · exact hb
    · obtain ⟨i, hi1, hi2⟩ := List.mem_flatMap.1 hc
      obtain ⟨cs, _, _, h3⟩ := hi i (by simpa using hi1)
      exact E.lt h3 c hi2

theorem Sl.below {α : Type} {E : Cod α} {w w' : World} {v : Value} {xs : List α} {fp : List Nat} {B : Nat} (h : Sl E w v xs fp) (hb : Below B w w') (hB : ∀ b ∈ fp, b < B) : Sl E w' v xs fp :=
  h.keep (fun b hm => hb.block b (hB b hm)) hb.size
theorem Sl.below' {α : Type} {E : Cod α} {w w' : World} {v : Value} {xs : List α} {fp : List Nat} (h : Sl E w v xs fp) (hb : Below w.heap.size w w') : Sl E w' v xs fp := h.below hb h.lt

/-- Slices as data. -/
def Cod.slice {α : Type} (E : Cod α) : Cod (List α) where
  n := 1
  rd := fun w cs xs fp => ∃ v, cs = [v] ∧ Sl E w v xs fp
  pos := by omega
  len := by rintro w cs x fp ⟨v, rfl, _⟩; rfl
  lt := by rintro w cs x fp ⟨v, _, h⟩; exact h.lt
  keep := by
    rintro w w' cs xs fp ⟨v, rfl, h⟩ hk
    refine ⟨v, rfl, ?_⟩
    obtain ⟨A, cap, hv, hl, hc, hr⟩ := h
    refine ⟨A, cap, hv, hl, hc, ?_⟩
    rcases hr with ⟨h1, h2⟩ | ⟨b, off, F, hA, hb, hfp, hi⟩
    · exact .inl ⟨h1, h2⟩
    · have hbk : w'.heap[b]? = w.heap[b]? := hk b (by rw [hfp]; simp)
      have hb' : b < w'.heap.size := by
        rcases Nat.lt_or_ge b w'.heap.size with hlt | hge
        · exact hlt
        · rw [Array.getElem?_eq_none hge, Array.getElem?_eq_getElem hb] at hbk; cases hbk
      refine .inr ⟨b, off, F, hA, hb', hfp, fun i hlt => ?_⟩
      obtain ⟨cs, h1, h2, h3⟩ := hi i hlt
      refine ⟨cs, fun j hj => (World.cell?_of_block (w := w) (w' := w') (a := ⟨b, off + i * E.n + j, none⟩) hbk).trans (h1 j hj), fun j hj => (World.frozen?_of_block (w := w) (w' := w') (a := ⟨b, off + i * E.n + j, none⟩) hbk).trans (h2 j hj), E.keep h3 fun c hc => hk c ?_⟩
      rw [hfp]
      exact List.mem_cons_of_mem _ (List.mem_flatMap.2 ⟨i, by simpa using hlt, hc⟩)

/-- The shape of a slice value, ahead of a walk. -/
theorem Sl.form {α : Type} {E : Cod α} {w : World} {v : Value} {xs : List α} {fp : List Nat} (h : Sl E w v xs fp) :
    ∃ A cap, v = .slice A xs.length cap ∧ xs.length ≤ cap ∧ cap ≤ 9223372036854775807 := by
  obtain ⟨A, cap, hv, hl, hc, _⟩ := h
  exact ⟨A, cap, hv, hl, by unfold maxLen at hc; exact hc⟩

/-- One element of a slice of flat data: its cells. -/
theorem Sl.at_ {α : Type} {E : Flat α} {w : World} {A : Option Addr} {len cap : Nat} {xs : List α} {fp : List Nat} (h : Sl E.cod w (.slice A len cap) xs fp) {k : Nat} (hk : k < xs.length) :
    ∃ b off, A = some ⟨b, off, none⟩ ∧ b ∈ fp ∧ E.ok xs[k] ∧ (∀ j, j < E.n → w.cell? ⟨b, off + k * E.n + j, none⟩ = (E.enc xs[k])[j]?) ∧ (∀ j, j < E.n → w.frozen? ⟨b, off + k * E.n + j, none⟩ = false) := by
  obtain ⟨A', cap', hv, hl, hc, hr⟩ := h
  injection hv with hA hn hcap
  subst hA
  rcases hr with ⟨h1, h2⟩ | ⟨b, off, F, hA, hb, hfp, hi⟩
  · subst h1; simp at hk
  · obtain ⟨cs, h1, h2, h3, h4, h5⟩ := hi k hk
    subst h3
    exact ⟨b, off, hA, by rw [hfp]; simp, h4, h1, h2⟩

theorem Sl.cell1 {α : Type} {E : Flat α} {w : World} {A : Option Addr} {len cap : Nat} {xs : List α} {fp : List Nat} (h : Sl E.cod w (.slice A len cap) xs fp) (h1 : E.n = 1) {k : Nat} (hk : k < xs.length) {u : Value} (hu : E.enc xs[k] = [u]) :
    ∃ b off, A = some ⟨b, off, none⟩ ∧ b ∈ fp ∧ E.ok xs[k] ∧ w.cell? ⟨b, off + k, none⟩ = some u ∧ w.frozen? ⟨b, off + k, none⟩ = false := by
  obtain ⟨b, off, hA, hb, hok, hc, hf⟩ := h.at_ hk
  refine ⟨b, off, hA, hb, hok, ?_, ?_⟩
  · have := hc 0 (by omega); rw [h1, hu] at this; simpa using this
  · have := hf 0 (by omega); rw [h1] at this; simpa using this

theorem flat_get {α : Type} (f : α → List Value) (n : Nat) : ∀ (xs : List α), (∀ x ∈ xs, (f x).length = n) → ∀ (i : Nat) (h : i < xs.length) (j : Nat), j < n → (xs.flatMap f)[i * n + j]? = (f xs[i])[j]?
  | [], _, i, h, _, _ => by simp at h
  | x :: xs, hl, 0, _, j, hj => by
    have hx : (f x).length = n := hl x (by simp)
    rw [List.flatMap_cons, Nat.zero_mul, Nat.zero_add, List.getElem?_append_left (by omega)]
    rfl
  | x :: xs, hl, i + 1, h, j, hj => by
    have hx : (f x).length = n := hl x (by simp)
    rw [List.flatMap_cons, List.getElem?_append_right (by rw [hx, Nat.succ_mul]; omega)]
    have e : (i + 1) * n + j - (f x).length = i * n + j := by rw [hx, Nat.succ_mul]; omega
    rw [e]
    exact flat_get f n xs (fun y hy => hl y (by simp [hy])) i (by simpa using h) j hj

theorem flat_len {α : Type} (f : α → List Value) (n : Nat) : ∀ (xs : List α), (∀ x ∈ xs, (f x).length = n) → (xs.flatMap f).length = xs.length * n
  | [], _ => by simp
  | x :: xs, hl => by
    rw [List.flatMap_cons, List.length_append, flat_len f n xs (fun y hy => hl y (by simp [hy])), hl x (by simp), List.length_cons, Nat.succ_mul]; omega

/-- A row of the call's own, of flat data, as a slice. -/
theorem Sl.of_own {α : Type} {E : Flat α} {w : World} {base : Nat} {e : TypeId} {v : Value} {xs : List α} {n : Nat} (hn : xs.length = n) (h : w.ownsRow base e E.n v n (xs.flatMap E.enc)) (hok : ∀ x ∈ xs, E.ok x) :
    ∃ fp, Sl E.cod w v xs fp ∧ (∀ b ∈ fp, base ≤ b) ∧ fp.Nodup := by
  subst hn
  obtain ⟨h1, h2⟩ := h
  rcases h2 with ⟨hv, hz⟩ | ⟨g, cap, cur, hv, hg, hh, hnc, hcm, hsz, hxs⟩
  · have : xs = [] := List.eq_nil_of_length_eq_zero hz
    subst this
    exact ⟨[], ⟨none, 0, hv, by simp, by simp [maxLen], .inl ⟨rfl, rfl⟩⟩, by simp, by simp⟩
  · rcases Nat.eq_zero_or_pos xs.length with h0 | h0
    · have : xs = [] := List.eq_nil_of_length_eq_zero h0
      subst this
      exact ⟨[], ⟨_, cap, hv, hnc, hcm, .inl ⟨rfl, rfl⟩⟩, by simp, by simp⟩
    · have hgl : g < w.heap.size := by
        rcases Nat.lt_or_ge g w.heap.size with hlt | hge
        · exact hlt
        · rw [Array.getElem?_eq_none hge] at hh; cases hh
      refine ⟨[g], ⟨_, cap, hv, hnc, hcm, .inr ⟨g, 0, fun _ => [], rfl, hgl, by simp, fun i hi => ⟨E.enc xs[i], fun j hj => ?_, fun j hj => ?_, rfl, hok _ (List.getElem_mem hi), rfl⟩⟩⟩, by simpa using hg, by simp⟩
      · have hc : w.cell? ⟨g, 0 + i * E.n + j, none⟩ = cur[i * E.n + j]? := by simp [World.cell?, hh]
        rw [show E.cod.n = E.n from rfl, hc, ← flat_get E.enc E.n xs (fun x _ => E.len x) i hi j hj, ← hxs, List.getElem?_take_of_lt, Array.getElem?_toList]
        have : (i + 1) * E.n ≤ xs.length * E.n := Nat.mul_le_mul_right _ hi
        have hj' : j < E.n := hj
        rw [Nat.succ_mul] at this
        omega
      · simp [World.frozen?, hh]

/-! ### A row of the call's own that is filled place by place -/

theorem run_make_rowN {P : Program} (t e : TypeId) (i : TypeInfo) (z : Value) (ht : P.underlying t = some (.slice e)) (hi : P.info? e = some i) (hz : i.zero = some z)
    (kl kc : IntKind) (n c : Nat) (hnc : n ≤ c) (hbytes : i.bytes * c ≤ 281474976710656) (h63 : c ≤ 9223372036854775807) (w : World) :
    (Instr.makeSlice t (.int kl (n : Int)) (.int kc (c : Int))).run P w = .ok (.slice (some ⟨w.heap.size, 0, none⟩) n c) (w.alloc (.cells (madeCells z.cells (c * i.size)) e)) := by
  have hb : (i.bytes : Int) * (c : Int) ≤ 281474976710656 := by
    have h : ((i.bytes * c : Nat) : Int) ≤ 281474976710656 := by omega
    rwa [Int.natCast_mul] at h
  have hr := run_make (P := P) w t e i z ht hi hz kl kc n c (by omega) (by omega) hb (by omega)
  simp only [Int.toNat_natCast] at hr
  exact hr

/-- Row g of n places of type e, of which the first ones hold ys. -/
def Fill (w : World) (base g : Nat) (e : TypeId) (size n : Nat) (ys : List Value) : Prop :=
  ∃ zs : List Value, w.ownsRow base e size (.slice (some ⟨g, 0, none⟩) n n) n (ys ++ zs)

theorem Fill.start (w : World) (e : TypeId) (size n : Nat) (z : Array Value) (hn : n ≤ 9223372036854775807) : Fill (w.alloc (.cells (madeCells z (n * size)) e)) w.heap.size w.heap.size e size n [] :=
  ⟨_, World.ownsRow_lit w _ n (Nat.le_refl _) (by unfold maxLen; exact hn) (size_madeCells _ _)⟩

theorem Fill.start1 (w : World) (e : TypeId) (n : Nat) (z : Array Value) (hn : n ≤ 9223372036854775807) : Fill (w.alloc (.cells (madeCells z n) e)) w.heap.size w.heap.size e 1 n [] := by
  have := Fill.start w e 1 n z hn
  rwa [Nat.mul_one] at this

section
variable {w w' : World} {base g : Nat} {e : TypeId} {size n : Nat} {ys : List Value}
theorem Fill.len (h : Fill w base g e size n ys) : ys.length ≤ n * size := by
  obtain ⟨zs, h⟩ := h
  have := h.1
  simp at this
  omega
theorem Fill.lt (h : Fill w base g e size n ys) : g < w.heap.size := by
  obtain ⟨zs, h⟩ := h
  exact (h.lt g rfl).2
theorem Fill.cell (h : Fill w base g e size n ys) {j : Nat} (hj : j < n * size) : ∃ u, w.cell? ⟨g, j, none⟩ = some u := by
  obtain ⟨zs, h⟩ := h
  refine ⟨_, (h.cellAt j hj).trans (List.getElem?_eq_getElem (by rw [h.1]; exact hj))⟩
theorem Fill.frozen (h : Fill w base g e size n ys) (j : Nat) : w.frozen? ⟨g, j, none⟩ = false := by
  obtain ⟨zs, h⟩ := h
  exact h.frozenAt j
/-- The next place gets its value. -/
theorem Fill.put (h : Fill w base g e size n ys) (hj : ys.length < n * size) (u : Value) : Fill (w.setCell ⟨g, ys.length, none⟩ u) base g e size n (ys ++ [u]) := by
  obtain ⟨zs, h⟩ := h
  have hl := h.1
  rw [List.length_append] at hl
  match zs, hl with
  | z :: zs, _ =>
    refine ⟨zs, ?_⟩
    have := (h.stored ys.length u).1
    rw [List.set_append_right _ _ (Nat.le_refl _), Nat.sub_self, List.set_cons_zero] at this
    rw [List.append_assoc]
    exact this
  | [], hl => simp at hl; omega
theorem Fill.kept {row : Option Nat} (h : Fill w base g e size n ys) (hg : w.grownBy w' row) (hr : row ≠ some g) : Fill w' base g e size n ys := by
  obtain ⟨zs, h⟩ := h
  exact ⟨zs, h.kept hg (.inr (by simp [Value.ownBlock]; exact fun h => hr h.symm))⟩
theorem Fill.below {B : Nat} (h : Fill w base g e size n ys) (hb : Below B w w') (hB : g < B) : Fill w' base g e size n ys := by
  obtain ⟨zs, h⟩ := h
  obtain ⟨h1, h2⟩ := h
  refine ⟨zs, h1, ?_⟩
  rcases h2 with h2 | ⟨g', cap, cur, hv, hg, hh, r⟩
  · exact .inl h2
  · have : g' = g := by injection hv with h _ _; injection h with h; injection h with h _ _; exact h.symm
    subst this
    exact .inr ⟨g', cap, cur, hv, hg, by rw [hb.block _ hB]; exact hh, r⟩
theorem Fill.done (h : Fill w base g e size n ys) (hy : ys.length = n * size) : w.ownsRow base e size (.slice (some ⟨g, 0, none⟩) n n) n ys := by
  obtain ⟨zs, h⟩ := h
  have hl := h.1
  rw [List.length_append, hy] at hl
  have : zs = [] := List.eq_nil_of_length_eq_zero (by omega)
  subst this
  rwa [List.append_nil] at h
end

theorem flat_take_step {α : Type} {E : Flat α} {xs : List α} {k : Nat} (hk : k < xs.length) : (xs.take (k + 1)).flatMap E.enc = (xs.take k).flatMap E.enc ++ E.enc xs[k] := by
  rw [List.take_succ_eq_append_getElem hk, List.flatMap_append]; simp
theorem flat_take_len {α : Type} {E : Flat α} {xs : List α} {k : Nat} (hk : k ≤ xs.length) : ((xs.take k).flatMap E.enc).length = k * E.n := by
  rw [flat_len E.enc E.n _ (fun x _ => E.len x), List.length_take, Nat.min_eq_left hk]
/-- A round that fills one place of one cell. -/
theorem fill_step {α : Type} {E : Flat α} {w : World} {base g : Nat} {e : TypeId} {xs : List α} {k : Nat} {u : Value} (h1 : E.n = 1) (hf : Fill w base g e 1 xs.length ((xs.take k).flatMap E.enc)) (hk : k < xs.length) (hu : E.enc xs[k] = [u]) :
    Fill (w.setCell ⟨g, k, none⟩ u) base g e 1 xs.length ((xs.take (k + 1)).flatMap E.enc) := by
  have hl : ((xs.take k).flatMap E.enc).length = k := by rw [flat_take_len (by omega), h1]; omega
  have := hf.put (by rw [hl]; omega) u
  rw [hl] at this
  rw [flat_take_step hk, hu]
  exact this
theorem Sl.oks {α : Type} {E : Flat α} {w : World} {v : Value} {xs : List α} {fp : List Nat} (h : Sl E.cod w v xs fp) : ∀ x ∈ xs, E.ok x := by
  intro x hx
  obtain ⟨A, cap, rfl, _, _⟩ := h.form
  obtain ⟨k, hk, rfl⟩ := List.getElem_of_mem hx
  obtain ⟨_, _, _, _, hok, _⟩ := h.at_ hk
  exact hok

theorem below_drewN {B : Nat} {a w : World} (h : Below B a w) (n : Nat) : Below B a (w.drewN n) := ⟨h.os, h.tape, h.output, h.size, h.block⟩
theorem Sl.drewN {α : Type} {E : Cod α} {w : World} {v : Value} {xs : List α} {fp : List Nat} (h : Sl E w v xs fp) (n : Nat) : Sl E (w.drewN n) v xs fp := h.below' (below_drewN (Below.refl _ _) n)
/-- The end of a call that says true and turns nothing that was there. -/
def YesR (w : World) (e : Ending) (w' : World) : Prop := e = .returned (.bool true) ∧ Below w.heap.size w w'

theorem sum_take_step_ {α : Type} (f : α → Nat) (xs : List α) (k : Nat) (h : k < xs.length) : ((xs.take (k + 1)).map f).sum = ((xs.take k).map f).sum + f xs[k] := by
  rw [List.take_succ_eq_append_getElem h, List.map_append, List.sum_append]; simp
theorem Fill.put_at {w : World} {base g : Nat} {e : TypeId} {size n : Nat} {ys : List Value} (h : Fill w base g e size n ys) {p : Nat} (hp : p = ys.length) (hj : p < n * size) (u : Value) : Fill (w.setCell ⟨g, p, none⟩ u) base g e size n (ys ++ [u]) := by
  subst hp; exact h.put hj u

theorem quiet_left {P : Program} {f : FuncId} {args : Array Value} {w : World} {n : Nat} {v : Value}
    (h : Calls P f args (w.drewN n) fun e w' => e = .returned v ∧ w.drewN n = w') : Calls P f args (w.drewN n) fun e w'' => e = .returned v ∧ ∃ m, w'' = w.drewN m :=
  h.mono fun _ _ ⟨he, hm⟩ => ⟨he, n, hm.symm⟩

/-- What a size check leaves: it has failed, or the rest is what is left. -/
def szPost (left : Int) (tot : Nat) (r : Int) : Prop := r = -1 ∨ (0 ≤ r ∧ r + tot = left)
def SzR (left : Int) (tot : Nat) (w : World) (e : Ending) (w' : World) : Prop := ∃ r : Int, e = .returned (.int .i64 r) ∧ szPost left tot r ∧ Below w.heap.size w w'
theorem SzR.no {left : Int} {tot : Nat} {w w' : World} (h : Below w.heap.size w w') : SzR left tot w (.returned (.int .i64 (-1))) w' := ⟨-1, rfl, .inl rfl, h⟩
theorem SzR.yes {left r : Int} {tot : Nat} {w w' : World} (h0 : 0 ≤ r) (h1 : r + tot = left) (h : Below w.heap.size w w') : SzR left tot w (.returned (.int .i64 r)) w' := ⟨r, rfl, .inr ⟨h0, h1⟩, h⟩

/-- A value that the call has made: it reads as the datum, through new blocks, none of them twice. -/
structure New {α : Type} (E : Cod α) (w : World) (v : Value) (xs : List α) (w' : World) : Prop where
  rd : ∃ fp, Sl E w' v xs fp ∧ (∀ b ∈ fp, w.heap.size ≤ b) ∧ fp.Nodup
  below : Below w.heap.size w w'
def NewR {α : Type} (E : Cod α) (w : World) (xs : List α) (e : Ending) (w' : World) : Prop := ∃ v, e = .returned v ∧ New E w v xs w'

/-! ### append of one element that has just been laid in a block of its own -/
theorem wpList_append_one {P : Program} {w : World} {ops : Array Oper} {rest : List Oper} {o : Oper} {a : Act} {Q : Exit → Act → World → Prop} (hgd : o.guard = none) (s x : Operand) (t : TypeId)
    (ho : o.op = .call { callee := .builtin .append, args := #[s, x], argTypes := #[t, t] })
    (base : Nat) (e : TypeId) (i : TypeInfo) (z : Value) (size bytes : Nat) (ht : P.underlying t = some (.slice e)) (hi : P.info? e = some i) (hz : i.zero = some z)
    (hsize : i.size = size) (hby : i.bytes = bytes) (hzs : z.cells.size = size) (hsz : 0 < size)
    (v : Value) (n : Nat) (xs : List Value) (hs : a.eval s = v) (hown : w.ownsRow base e size v n xs) (us : List Value) (hul : us.length = size) (h1 : ∀ u ∈ us, u.oneCell' = true)
    (hx : a.eval x = .slice (some ⟨w.heap.size, 0, none⟩) 1 1) (hn : n ≤ 1000000000) (hb : bytes ≤ 1000) (hbase : base ≤ w.heap.size)
    (h : ∀ v' w', w'.ownsRow base e size v' (n + 1) (xs ++ us) → Below base w w' → w.grownBy w' v.ownBlock → w.heap.size < w'.heap.size → wpList P ops Q rest (a.put o.dst v') w') : wpList P ops Q (o :: rest) a (w.alloc (.cells us.toArray e)) := by
  refine wpList_append_own _ hgd s x t ho base e i z size bytes ht hi hz hsize hby hzs hsz v n xs hs (hown.alloc _) ⟨w.heap.size, 0, none⟩ 1 1 us hx (by omega) ?_ h1 (by unfold maxLen; omega) ?_ (by simp; omega) ?_
  · intro j u hj
    have : (⟨w.heap.size, 0, none⟩ : Addr).add j = ⟨w.heap.size, j, none⟩ := by unfold Addr.add; by_cases h0 : j = 0 <;> simp [h0]
    rw [this, World.cell?_alloc_at _ _ _ _ rfl]
    simpa using hj
  · have : (n + 1) * bytes ≤ 1000000001 * 1000 := Nat.mul_le_mul (by omega) hb
    omega
  · intro v' w' h2 h3 _
    have h4 := h3.size
    simp at h4
    refine h v' w' h2 ?_ ⟨h3.os, h3.tape, h3.output, by omega, fun k hk hne => (h3.block k (by simp; omega) hne).trans (Below.heap_alloc w _ k hk)⟩ (by omega)
    exact ((Below.refl _ _).alloc hbase _).grown h3 (by simp; omega) (fun k hk => by
      have := (hown.alloc (.cells us.toArray e)).lt k hk
      exact this.1)

end Go.Proofs.YtgnbhcgagdfaiaaGreatDoor

namespace Go.Proofs.YtgnbhcgagdfaiaaGreatDoor
open Go.RowKit

/-! ### cells in a row -/
def Cells (w : World) (b off : Nat) (vs : List Value) : Prop := ∀ j, j < vs.length → w.cell? ⟨b, off + j, none⟩ = vs[j]? ∧ w.frozen? ⟨b, off + j, none⟩ = false

section
variable {w w' : World} {b off : Nat} {vs : List Value}
theorem Cells.get (h : Cells w b off vs) {j : Nat} (hj : j < vs.length) : w.cell? ⟨b, off + j, none⟩ = some vs[j] := by
  rw [(h j hj).1]; exact List.getElem?_eq_getElem hj
theorem Cells.free (h : Cells w b off vs) {j : Nat} (hj : j < vs.length) : w.frozen? ⟨b, off + j, none⟩ = false := (h j hj).2
theorem Cells.keep (h : Cells w b off vs) (hk : w'.heap[b]? = w.heap[b]?) : Cells w' b off vs := fun j hj =>
  ⟨(World.cell?_of_block (w := w) (w' := w') (a := ⟨b, off + j, none⟩) hk).trans (h j hj).1, (World.frozen?_of_block (w := w) (w' := w') (a := ⟨b, off + j, none⟩) hk).trans (h j hj).2⟩
theorem frozen?_setCell (w : World) (p q : Addr) (u : Value) : (w.setCell p u).frozen? q = w.frozen? q := by
  simp only [World.frozen?, World.setCell, Array.getElem?_modify]
  by_cases h : p.block = q.block
  · rw [if_pos h]
    cases hh : w.heap[q.block]? with
    | none => simp
    | some o => cases o <;> simp
  · rw [if_neg h]
theorem Cells.set (h : Cells w b off vs) {p : Nat} {j : Nat} (hp : p = off + j) (hj : j < vs.length) (u : Value) : Cells (w.setCell ⟨b, p, none⟩ u) b off (vs.set j u) := by
  subst hp
  intro i hi
  rw [List.length_set] at hi
  refine ⟨?_, (frozen?_setCell _ _ _ _).trans (h i hi).2⟩
  by_cases he : i = j
  · subst he
    rw [List.getElem?_set_self hj]
    have hc := (h i hi).1
    rw [List.getElem?_eq_getElem hi] at hc
    simp only [World.cell?] at hc ⊢
    simp only [World.setCell, Array.getElem?_modify]
    cases hh : w.heap[b]? with
    | none => rw [hh] at hc; cases hc
    | some o =>
      rw [hh] at hc
      cases o with
      | cells c e f =>
        simp at hc
        simp only [Option.map_some, if_true]
        simp
        have : off + i < c.size := by
          rcases Nat.lt_or_ge (off + i) c.size with h | h
          · exact h
          · rw [Array.getElem?_eq_none h] at hc; cases hc
        simp [this]
      | _ => simp at hc
  · rw [List.getElem?_set_ne (fun e => he e.symm), World.cell?_setCell_other _ _ _ _ (by simp <;> omega)]
    exact (h i hi).1
end

theorem Cells.put {w : World} {b off : Nat} {pre l : List Value} (h : Cells w b off (pre ++ l)) {m j p : Nat} (hm : pre.length = m) (hp : p = off + (m + j)) (hj : j < l.length) (u : Value) : Cells (w.setCell ⟨b, p, none⟩ u) b off (pre ++ l.set j u) := by
  have := h.set (j := m + j) hp (by rw [List.length_append]; omega) u
  rwa [List.set_append_right _ _ (by omega), hm, Nat.add_sub_cancel_left] at this
theorem Cells.at_mid {w : World} {b off : Nat} {pre l : List Value} (h : Cells w b off (pre ++ l)) {m j p : Nat} {u : Value} (hm : pre.length = m) (hp : p = off + (m + j)) (hj : j < l.length) (hu : l[j]? = some u) : w.cell? ⟨b, p, none⟩ = some u := by
  subst hp
  rw [(h (m + j) (by rw [List.length_append]; omega)).1, List.getElem?_append_right (by omega), hm, Nat.add_sub_cancel_left, hu]
theorem Cells.free_mid {w : World} {b off : Nat} {pre l : List Value} (h : Cells w b off (pre ++ l)) {m j p : Nat} (hm : pre.length = m) (hp : p = off + (m + j)) (hj : j < l.length) : w.frozen? ⟨b, p, none⟩ = false := by
  subst hp
  exact (h (m + j) (by rw [List.length_append]; omega)).2
theorem marks_step {α : Type} {E : Flat α} {w : World} {b off k : Nat} {f : Nat → α} {xs : List α} {pre post us : List Value} (hp : ((List.range k).map f).flatMap E.enc = pre) (hr : (xs.drop (k + 1)).flatMap E.enc = post) (hu : E.enc (f k) = us) (h : Cells w b off (pre ++ (us ++ post))) :
    Cells w b off (((List.range (k + 1)).map f).flatMap E.enc ++ (xs.drop (k + 1)).flatMap E.enc) := by
  rw [List.range_succ, List.map_append, List.flatMap_append, hp, hr]
  simp only [List.map_cons, List.map_nil, List.flatMap_cons, List.flatMap_nil, List.append_nil, hu, List.append_assoc]
  exact h

/-- A slice of flat data, its cells in one row. -/
theorem Sl.cells {α : Type} {E : Flat α} {w : World} {A : Option Addr} {len cap : Nat} {xs : List α} {fp : List Nat} (h : Sl E.cod w (.slice A len cap) xs fp) (hne : 0 < xs.length) :
    ∃ b off, A = some ⟨b, off, none⟩ ∧ fp = [b] ∧ b < w.heap.size ∧ Cells w b off (xs.flatMap E.enc) := by
  obtain ⟨A', cap', hv, hl, hc, hr⟩ := h
  injection hv with hA hn hcap
  subst hA
  rcases hr with ⟨h1, _⟩ | ⟨b, off, F, hA, hb, hfp, hi⟩
  · subst h1; simp at hne
  · have hF : (List.range xs.length).flatMap F = [] := by
      rw [List.flatMap_eq_nil_iff]
      intro i hi'
      obtain ⟨cs, _, _, _, _, h5⟩ := hi i (by simpa using hi')
      exact h5
    refine ⟨b, off, hA, by rw [hfp, hF], hb, fun j hj => ?_⟩
    rw [flat_len E.enc E.n _ (fun x _ => E.len x)] at hj
    have hpos := E.pos
    have h1 : j / E.n < xs.length := Nat.div_lt_of_lt_mul (by rw [Nat.mul_comm]; exact hj)
    have h2 : j % E.n < E.n := Nat.mod_lt _ hpos
    have h3 : j / E.n * E.n + j % E.n = j := by rw [Nat.mul_comm]; exact Nat.div_add_mod j E.n
    obtain ⟨cs, hc1, hc2, hc3, hok, _⟩ := hi _ h1
    have e1 := hc1 (j % E.n) h2
    have e2 := hc2 (j % E.n) h2
    have hcn : E.cod.n = E.n := rfl
    rw [hcn, Nat.add_assoc, h3] at e1 e2
    refine ⟨?_, e2⟩
    rw [e1, hc3, ← flat_get E.enc E.n xs (fun x _ => E.len x) _ h1 _ h2, h3]

theorem Sl.of_cells {α : Type} {E : Flat α} {w : World} {xs : List α} {b off cap : Nat} (hc : xs.length ≤ cap) (hm : cap ≤ 9223372036854775807) (hb : b < w.heap.size) (h : Cells w b off (xs.flatMap E.enc)) (hok : ∀ x ∈ xs, E.ok x) :
    0 < xs.length → Sl E.cod w (.slice (some ⟨b, off, none⟩) xs.length cap) xs [b] := by
  intro hne
  refine ⟨_, cap, rfl, hc, by unfold maxLen; exact hm, .inr ⟨b, off, fun _ => [], rfl, hb, by simp, fun i hi => ⟨E.enc xs[i], fun j hj => ?_, fun j hj => ?_, rfl, hok _ (List.getElem_mem hi), rfl⟩⟩⟩
  all_goals
    have hj' : j < E.n := hj
    have hlt : i * E.n + j < (xs.flatMap E.enc).length := by
      rw [flat_len E.enc E.n _ (fun x _ => E.len x)]
      have : (i + 1) * E.n ≤ xs.length * E.n := Nat.mul_le_mul_right _ hi
      rw [Nat.succ_mul] at this
      omega
    have := h _ hlt
    rw [show E.cod.n = E.n from rfl, Nat.add_assoc]
  · rw [this.1, flat_get E.enc E.n xs (fun x _ => E.len x) _ hi _ hj']
  · exact this.2

theorem Sl.atk {α : Type} {E : Flat α} {w : World} {b off len cap : Nat} {xs : List α} {fp : List Nat} (h : Sl E.cod w (.slice (some ⟨b, off, none⟩) len cap) xs fp) {k : Nat} (hk : k < xs.length) {j : Nat} (hj : j < E.n) :
    w.cell? ⟨b, off + k * E.n + j, none⟩ = (E.enc xs[k])[j]? := by
  obtain ⟨b', off', hA, _, _, hc, _⟩ := h.at_ hk
  injection hA with hA
  injection hA with h1 h2 _
  subst h1 h2
  exact hc j hj

/-- Of what was there only the blocks of fp may have turned. -/
structure Only (fp : List Nat) (w w' : World) : Prop where
  os : w'.os = w.os
  tape : w'.tape = w.tape
  output : w'.output = w.output
  size : w.heap.size ≤ w'.heap.size
  block : ∀ k, k < w.heap.size → k ∉ fp → w'.heap[k]? = w.heap[k]?
theorem Only.below {fp : List Nat} {w w' : World} {B : Nat} (h : Only fp w w') (hB : B ≤ w.heap.size) (hf : ∀ b ∈ fp, B ≤ b) : Below B w w' :=
  ⟨h.os, h.tape, h.output, h.size, fun k hk => h.block k (by omega) (fun hm => by have := hf k hm; omega)⟩
theorem Only.of_below {fp : List Nat} {w w' : World} (h : Below w.heap.size w w') : Only fp w w' := ⟨h.os, h.tape, h.output, h.size, fun k hk _ => h.block k hk⟩
theorem Only.trans {fp : List Nat} {a b c : World} (h : Only fp a b) (k : Only fp b c) : Only fp a c :=
  ⟨k.os.trans h.os, k.tape.trans h.tape, k.output.trans h.output, Nat.le_trans h.size k.size, fun i hi hn => (k.block i (Nat.lt_of_lt_of_le hi h.size) hn).trans (h.block i hi hn)⟩
theorem Only.set {w w' : World} {g : Nat} (h : Only [g] w w') (o : Nat) (u : Value) : Only [g] w (w'.setCell ⟨g, o, none⟩ u) :=
  ⟨h.os, h.tape, h.output, by simpa [World.setCell] using h.size, fun i hi hn => (Below.heap_setCell w' ⟨g, o, none⟩ u i (by simpa using hn)).trans (h.block i hi hn)⟩
theorem Only.refl (fp : List Nat) (w : World) : Only fp w w := .of_below (Below.refl _ _)
theorem Sl.only {α : Type} {E : Cod α} {w w' : World} {v : Value} {xs : List α} {fp fp' : List Nat} (h : Sl E w v xs fp) (hb : Only fp' w w') (hd : ∀ b ∈ fp, b ∉ fp') : Sl E w' v xs fp :=
  h.keep (fun b hm => hb.block b (h.lt b hm) (hd b hm)) hb.size

/-- What a marking helper leaves. -/
def MarkR {α : Type} (E : Cod α) (fp : List Nat) (w : World) (r : Int) (v : Value) (ys : List α) (e : Ending) (w' : World) : Prop := e = .returned (.int .i64 r) ∧ Sl E w' v ys fp ∧ Only fp w w'

/-! ### the mark's text -/
def mtStep (k : Int) (s : ByteArray) : ByteArray := ⟨#[UInt8.ofNat (48 + k % 10).toNat]⟩ ++ s
def mtLoop : Nat → Int → ByteArray → ByteArray
  | 0, _, s => s
  | f + 1, k, s => if 0 < k then mtLoop f (k / 10) (mtStep k s) else s
def mt (k : Int) : ByteArray := if k ≤ 0 then ⟨#[109, 48]⟩ else ⟨#[109]⟩ ++ mtLoop k.toNat k ⟨#[]⟩

theorem mtStep_size (k : Int) (s : ByteArray) : (mtStep k s).size = s.size + 1 := by
  unfold mtStep; rw [ByteArray.size_append]; show 1 + s.size = _; omega
theorem mtLoop_step {f : Nat} {k : Int} {s : ByteArray} (h : 0 < k) : mtLoop (f + 1) k s = mtLoop f (k / 10) (mtStep k s) := by rw [mtLoop, if_pos h]

theorem mtLoop_size : ∀ (f : Nat) (k : Int) (s : ByteArray), (mtLoop f k s).size ≤ s.size + f
  | 0, _, _ => by simp [mtLoop]
  | f + 1, k, s => by
    unfold mtLoop
    split
    · have := mtLoop_size f (k / 10) (mtStep k s); rw [mtStep_size] at this; omega
    · omega
theorem mt_ok (k : Int) (hk : k ≤ 1000000000000) : fStr.ok (mt k) := by
  show (mt k).size ≤ _
  unfold mt
  split
  · show 2 ≤ _; omega
  · rw [ByteArray.size_append]
    have := mtLoop_size k.toNat k ⟨#[]⟩
    have h1 : (ByteArray.mk #[109]).size = 1 := rfl
    have h2 : (ByteArray.mk #[]).size = 0 := rfl
    omega

set_option maxRecDepth 100000 in
set_option maxHeartbeats 400000 in
theorem markText_any (k : Int) (w : World) (hk : k ≤ 1000000000000) :
    Calls Tryz.prog 40 #[.int .i64 k] w fun e w' => e = .returned (.string (mt k)) ∧ Below w.heap.size w w' := by
  by_cases h0 : k ≤ 0
  · have hm : mt k = ⟨#[109, 48]⟩ := by unfold mt; rw [if_pos h0]
    rw [hm]
    go_enter Tryz.func40, Tryz.ntmps40
    go_wp2
    go_ret
    exact ⟨rfl, Below.refl _ _⟩
  · have hcv : ∀ (n : Int) (W : World), (convert 34 9 (.slice (some ⟨W.heap.size, 0, none⟩) 1 1)).run Tryz.prog (W.alloc (.cells #[.int .u8 n] 5)) = .ok (.string ⟨#[UInt8.ofNat n.toNat]⟩) (W.alloc (.cells #[.int .u8 n] 5)) := fun n W =>
      run_convert_bytes_arg _ _ _ Tryz.underlying34 Tryz.underlying5 W.heap.size 0 1 1 [n] rfl (fun i hi => by (obtain rfl : i = 0 := by omega); simp) _ Tryz.underlying9
    go_enter Tryz.func40, Tryz.ntmps40
    go_wp2
    go_loopw [0, 3] (fun n s wr => ∃ (j : Int) (t : ByteArray) (f : Nat), n = .int .i64 j ∧ s = .string t ∧ 0 ≤ j ∧ j ≤ f ∧ t.size + f ≤ k ∧ Hid (mtLoop f j t = mtLoop k.toNat k ⟨#[]⟩) ∧ Below w.heap.size w wr) (fun n _ _ => (intOf n).toNat)
    case atStart => exact ⟨k, _, k.toNat, rfl, rfl, by omega, by omega, by show ((0 : Nat) : Int) + _ ≤ _; omega, rfl, Below.refl _ _⟩
    case round =>
      obtain ⟨j, t, f, rfl, rfl, hj0, hjf, hsz, HE, hb⟩ := hrel
      have hbs := hb.size
      by_cases hj : 0 < j
      · have hj10 : 0 ≤ j % 10 := by omega
        have hj11 : j % 10 ≤ 9 := by omega
        have hjd : 0 ≤ j / 10 := by omega
        have hjd2 : j / 10 < j := by omega
        obtain ⟨g, rfl⟩ : ∃ g, f = g + 1 := ⟨f - 1, by omega⟩
        go_wp2
        go_roundw
        case rel => exact ⟨j / 10, mtStep j t, g, rfl, rfl, by omega, by omega, by rw [mtStep_size]; omega, HE.out ▸ (mtLoop_step hj).symm, (by repeat (first | exact Below.refl _ _ | assumption | refine Below.alloc ?_ (by first | omega | (simp <;> omega)) _ | refine Below.setCell ?_ (by first | (show _ ≤ _; omega) | (simp <;> omega)) _ | refine Below.drew ?_ | refine below_drewN ?_ _))⟩
        case measure => simp [intOf]; omega
      · have hf : mtLoop f j t = t := by cases f with | zero => rfl | succ f => simp [mtLoop, hj]
        have hm : mt k = ⟨#[109]⟩ ++ t := by unfold mt; rw [if_neg (by omega), ← HE.out, hf]
        have HM := Lib.hid hm
        clear hm hf
        go_wp2
        go_ret
        exact ⟨ret_str HM.out.symm, hb⟩
end Go.Proofs.YtgnbhcgagdfaiaaGreatDoor

namespace Go.Proofs.YtgnbhcgagdfaiaaGreatDoor
open Go.RowKit

/-- A row that has just been laid. -/
theorem Sl.lit2 {α : Type} {E : Flat α} (w : World) (xs : List α) (T : TypeId) (cs : Array Value) (hcs : cs = (xs.flatMap E.enc).toArray) (hok : ∀ x ∈ xs, E.ok x) (hne : 0 < xs.length) (hm : xs.length ≤ 9223372036854775807) :
    Sl E.cod (w.alloc (.cells cs T)) (.slice (some ⟨w.heap.size, 0, none⟩) xs.length xs.length) xs [w.heap.size] := by
  subst hcs
  refine Sl.of_cells (Nat.le_refl _) hm (by simp) (fun j hj => ⟨?_, ?_⟩) hok hne
  · rw [World.cell?_alloc_at _ _ _ _ rfl]; simp
  · rw [World.frozen?_alloc_at _ _ _ _ rfl]
/-- v is a row of the call's own that holds L. -/
def Own {α : Type} (E : Flat α) (w : World) (base : Nat) (e : TypeId) (v : Value) (L : List α) : Prop := w.ownsRow base e E.n v L.length (L.flatMap E.enc)
section
variable {α : Type} {E : Flat α} {w w' : World} {base : Nat} {e : TypeId} {v : Value} {L : List α}
theorem Own.nil (E : Flat α) (w : World) (base : Nat) (e : TypeId) : Own E w base e (.slice none 0 0) [] := World.ownsRow_nil w base e E.n
theorem Own.lit0 (E : Flat α) (w : World) (e : TypeId) : Own E (w.alloc (.cells #[] e)) w.heap.size e (.slice (some ⟨w.heap.size, 0, none⟩) 0 0) [] :=
  World.ownsRow_lit (e := e) (size := E.n) w #[] 0 (Nat.le_refl w.heap.size) (by decide) (by simp)
theorem Own.lit0m (E : Flat α) {w : World} {base : Nat} (hb : base ≤ w.heap.size) {e : TypeId} : Own E (w.alloc (.cells #[] e)) base e (.slice (some ⟨w.heap.size, 0, none⟩) 0 0) [] :=
  World.ownsRow_lit (e := e) (size := E.n) w #[] 0 hb (by decide) (by simp)
theorem Own.below (h : Own E w base e v L) (hb : Below w.heap.size w w') : Own E w' base e v L := by
  obtain ⟨h1, h2⟩ := h
  refine ⟨h1, ?_⟩
  rcases h2 with h2 | ⟨g, cap, cur, hv, hg, hh, r⟩
  · exact .inl h2
  · have hgl : g < w.heap.size := by
      rcases Nat.lt_or_ge g w.heap.size with hlt | hge
      · exact hlt
      · rw [Array.getElem?_eq_none hge] at hh; cases hh
    exact .inr ⟨g, cap, cur, hv, hg, by rw [hb.block _ hgl]; exact hh, r⟩
theorem Own.drewN (h : Own E w base e v L) (n : Nat) : Own E (w.drewN n) base e v L := h
theorem Own.form (h : Own E w base e v L) : ∃ A cap, v = .slice A L.length cap := by
  obtain ⟨h1, h2⟩ := h
  rcases h2 with ⟨hv, hz⟩ | ⟨g, cap, cur, hv, _⟩
  · exact ⟨none, 0, by rw [hv, hz]⟩
  · exact ⟨_, cap, hv⟩
/-- What it reads as, for the caller. -/
theorem Own.new (h : Own E w' w.heap.size e v L) (hb : Below w.heap.size w w') (hok : ∀ x ∈ L, E.ok x) : New E.cod w v L w' :=
  ⟨Sl.of_own (n := L.length) rfl h hok, hb⟩
/-- One more. -/
theorem Own.push (x : α) {n : Nat} (hn : n = L.length + 1) (h : w.ownsRow base e E.n v n (L.flatMap E.enc ++ E.enc x)) : Own E w base e v (L ++ [x]) := by
  subst hn
  show w.ownsRow base e E.n v (L ++ [x]).length ((L ++ [x]).flatMap E.enc)
  rw [List.flatMap_append, List.length_append]
  simpa using h
end
/-- The same where the walk writes the address of the new block in its own way. -/
theorem wpList_append_oneA {P : Program} {w : World} {ops : Array Oper} {rest : List Oper} {o : Oper} {a : Act} {Q : Exit → Act → World → Prop} (ad : Nat) (had : ad = w.heap.size) (hgd : o.guard = none) (s x : Operand) (t : TypeId)
    (ho : o.op = .call { callee := .builtin .append, args := #[s, x], argTypes := #[t, t] })
    (base : Nat) (e : TypeId) (i : TypeInfo) (z : Value) (size bytes : Nat) (ht : P.underlying t = some (.slice e)) (hi : P.info? e = some i) (hz : i.zero = some z)
    (hsize : i.size = size) (hby : i.bytes = bytes) (hzs : z.cells.size = size) (hsz : 0 < size)
    (v : Value) (n : Nat) (xs : List Value) (hs : a.eval s = v) (hown : w.ownsRow base e size v n xs) (us : List Value) (hul : us.length = size) (h1 : ∀ u ∈ us, u.oneCell' = true)
    (hx : a.eval x = .slice (some ⟨ad, 0, none⟩) 1 1) (hn : n ≤ 1000000000) (hb : bytes ≤ 1000) (hbase : base ≤ w.heap.size)
    (h : ∀ v' w', w'.ownsRow base e size v' (n + 1) (xs ++ us) → Below base w w' → w.grownBy w' v.ownBlock → w.heap.size < w'.heap.size → wpList P ops Q rest (a.put o.dst v') w') : wpList P ops Q (o :: rest) a (w.alloc (.cells us.toArray e)) := by
  subst had
  exact wpList_append_one hgd s x t ho base e i z size bytes ht hi hz hsize hby hzs hsz v n xs hs hown us hul h1 hx hn hb hbase h
/-- Two results: a new slice and a code. -/
def NewR2 {α : Type} (E : Cod α) (w : World) (xs : List α) (c : Int) (e : Ending) (w' : World) : Prop := ∃ v, e = .returned (.tuple #[v, .int .i64 c]) ∧ New E w v xs w'
theorem New.nil {α : Type} {E : Cod α} {w w' : World} (h : Below w.heap.size w w') : New E w (.slice none 0 0) ([] : List α) w' :=
  ⟨⟨[], ⟨none, 0, rfl, by simp, by simp [maxLen], .inl ⟨rfl, rfl⟩⟩, by simp, by simp⟩, h⟩
theorem New.later {α : Type} {E : Cod α} {w w0 w' : World} {v : Value} {xs : List α} (h : New E w0 v xs w') (hb : Below w.heap.size w w0) : New E w v xs w' := by
  obtain ⟨⟨fp, h1, h2, h3⟩, h4⟩ := h
  exact ⟨⟨fp, h1, fun b hb' => Nat.le_trans hb.size (h2 b hb'), h3⟩, hb.trans (h4.mono hb.size)⟩
/-- What has been kept of the first k. -/
def keptL {α β : Type} (p : α → Bool) (f : α → β) (xs : List α) (k : Nat) : List β := ((xs.take k).filter p).map f
theorem keptL_zero {α β : Type} (p : α → Bool) (f : α → β) (xs : List α) : keptL p f xs 0 = [] := rfl
theorem keptL_yes {α β : Type} {p : α → Bool} {f : α → β} {xs : List α} {k : Nat} (hk : k < xs.length) (h : p xs[k] = true) : keptL p f xs (k + 1) = keptL p f xs k ++ [f xs[k]] := by
  unfold keptL
  rw [List.take_succ_eq_append_getElem hk, List.filter_append, List.map_append]
  simp [h]
theorem keptL_no {α β : Type} {p : α → Bool} {f : α → β} {xs : List α} {k : Nat} (hk : k < xs.length) (h : p xs[k] = false) : keptL p f xs (k + 1) = keptL p f xs k := by
  unfold keptL
  rw [List.take_succ_eq_append_getElem hk, List.filter_append, List.map_append]
  simp [h]
theorem keptL_full {α β : Type} {p : α → Bool} {f : α → β} {xs : List α} {k : Nat} (hk : xs.length ≤ k) : keptL p f xs k = (xs.filter p).map f := by
  unfold keptL; rw [List.take_of_length_le hk]
theorem keptL_len {α β : Type} {p : α → Bool} {f : α → β} {xs : List α} {k : Nat} : (keptL p f xs k).length ≤ k := by
  unfold keptL; rw [List.length_map]
  exact Nat.le_trans (List.length_filter_le _ _) (List.length_take_le _ _)
end Go.Proofs.YtgnbhcgagdfaiaaGreatDoor

namespace Go.Proofs.YtgnbhcgagdfaiaaGreatDoor
open Go.RowKit
set_option linter.unusedVariables false

/-- What a region may leave behind that only adds above base, X kept. -/
structure KeptW (base : Nat) (w : World) (X : World → Prop) where
  v : World
  below : Below base w v
  x : X v
/-- append of one element, as an operation alone. -/
theorem wp_append_at1 {P : Program} (w : World) {o : Oper} {a : Act} {K : Act → World → Prop} {Q : Exit → Act → World → Prop}
    (s x : Operand) (t : TypeId) (ho : o.op = .call { callee := .builtin .append, args := #[s, x], argTypes := #[t, t] })
    (base : Nat) (e : TypeId) (i : TypeInfo) (z : Value) (size bytes : Nat) (ht : P.underlying t = some (.slice e)) (hi : P.info? e = some i) (hz : i.zero = some z)
    (hsize : i.size = size) (hby : i.bytes = bytes) (hzs : z.cells.size = size) (hsz : 0 < size)
    (v : Value) (n : Nat) (xs : List Value) (hs : a.eval s = v) (hown : w.ownsRow base e size v n xs) (us : List Value) (hul : us.length = size) (h1 : ∀ u ∈ us, u.oneCell' = true)
    (ad : Nat) (hx : a.eval x = .slice (some ⟨ad, 0, none⟩) 1 1) (hc : ∀ j u, us[j]? = some u → w.cell? ⟨ad, j, none⟩ = some u) (hn : n ≤ 1000000000) (hb : bytes ≤ 1000) (hbase : base ≤ w.heap.size)
    (h : ∀ v' w', w'.ownsRow base e size v' (n + 1) (xs ++ us) → Below base w w' → w.grownBy w' v.ownBlock → K (a.put o.dst v') w') : o.wp P a w K Q := by
  have hbytes : (n + 1) * bytes ≤ 140737488355328 := by
    have : (n + 1) * bytes ≤ 1000000001 * 1000 := Nat.mul_le_mul (by omega) hb
    omega
  obtain ⟨v', w', hr, h2, h3, h4, h5⟩ := run_append_own_at (P := P) w base t o.type e i z size bytes ht hi hz hsize hby hzs hsz v n xs hown ⟨ad, 0, none⟩ 1 1 us (by omega) (fun j u hj => by
    have e0 : (⟨ad, 0, none⟩ : Addr).add j = ⟨ad, j, none⟩ := by unfold Addr.add; by_cases h0 : j = 0 <;> simp [h0]
    rw [e0]; exact hc j u hj) h1 (by unfold maxLen; omega) hbytes hbase
  have hbw : Below base w w' := (Below.refl base w).grown h3 hbase (fun k hk => (hown.lt k hk).1)
  unfold Oper.wp execOp
  simp only [ho, resolve, invoke, builtin, Sem.run_bind, Sem.run_pure, Result.andThen_ok, List.map_toArray, List.map_cons, List.map_nil, hs, hx, hr]
  exact h v' w' h2 hbw h3
/-- append of one element, as an operation alone, with the block that it went to. -/
theorem wp_append_at2 {P : Program} (w : World) {o : Oper} {a : Act} {K : Act → World → Prop} {Q : Exit → Act → World → Prop}
    (s x : Operand) (t : TypeId) (ho : o.op = .call { callee := .builtin .append, args := #[s, x], argTypes := #[t, t] })
    (base : Nat) (e : TypeId) (i : TypeInfo) (z : Value) (size bytes : Nat) (ht : P.underlying t = some (.slice e)) (hi : P.info? e = some i) (hz : i.zero = some z)
    (hsize : i.size = size) (hby : i.bytes = bytes) (hzs : z.cells.size = size) (hsz : 0 < size)
    (v : Value) (n : Nat) (xs : List Value) (hs : a.eval s = v) (hown : w.ownsRow base e size v n xs) (us : List Value) (hul : us.length = size) (h1 : ∀ u ∈ us, u.oneCell' = true)
    (ad : Nat) (hx : a.eval x = .slice (some ⟨ad, 0, none⟩) 1 1) (hc : ∀ j u, us[j]? = some u → w.cell? ⟨ad, j, none⟩ = some u) (hn : n ≤ 1000000000) (hb : bytes ≤ 1000) (hbase : base ≤ w.heap.size)
    (h : ∀ v' w', w'.ownsRow base e size v' (n + 1) (xs ++ us) → Below base w w' → w.grownBy w' v.ownBlock → (v'.ownBlock = v.ownBlock ∨ v'.ownBlock = some w.heap.size) → K (a.put o.dst v') w') : o.wp P a w K Q := by
  have hbytes : (n + 1) * bytes ≤ 140737488355328 := by
    have : (n + 1) * bytes ≤ 1000000001 * 1000 := Nat.mul_le_mul (by omega) hb
    omega
  obtain ⟨v', w', hr, h2, h3, h4, h5⟩ := run_append_own_at (P := P) w base t o.type e i z size bytes ht hi hz hsize hby hzs hsz v n xs hown ⟨ad, 0, none⟩ 1 1 us (by omega) (fun j u hj => by
    have e0 : (⟨ad, 0, none⟩ : Addr).add j = ⟨ad, j, none⟩ := by unfold Addr.add; by_cases h0 : j = 0 <;> simp [h0]
    rw [e0]; exact hc j u hj) h1 (by unfold maxLen; omega) hbytes hbase
  have hbw : Below base w w' := (Below.refl base w).grown h3 hbase (fun k hk => (hown.lt k hk).1)
  unfold Oper.wp execOp
  simp only [ho, resolve, invoke, builtin, Sem.run_bind, Sem.run_pure, Result.andThen_ok, List.map_toArray, List.map_cons, List.map_nil, hs, hx, hr]
  exact h v' w' h2 hbw h3 h5

theorem run_append_none {P : Program} {w : World} (base : Nat) (t ty e : TypeId) (i : TypeInfo) (size c : Nat) (ht : P.underlying t = some (.slice e)) (hi : P.info? e = some i)
    (v : Value) (n : Nat) (xs : List Value) (hown : w.ownsRow base e size v n xs) :
    (Builtin.append_ #[t, t] ty #[v, .slice none 0 c]).run P w = .ok v w := by
  rcases hown.2 with ⟨rfl, rfl⟩ | ⟨g, cap, cur, rfl, _, _, hnc, _⟩
  · simp [Builtin.append_, run_underlying ht, sizeOf, typeInfo, hi, Builtin.lenOf, Builtin.firstCells]
  · simp [Builtin.append_, run_underlying ht, sizeOf, typeInfo, hi, Builtin.lenOf, Builtin.firstCells, hnc, storeCells]

/-- What may be copied out of a slice value: the list M. -/
def Src {α : Type} (E : Flat α) (w : World) (v : Value) (M : List α) : Prop :=
  ∃ A c, v = .slice A M.length c ∧ (A = none → M = []) ∧ ∀ ad, A = some ad → ∀ (j : Nat) u, (M.flatMap E.enc)[j]? = some u → w.cell? (ad.add j) = some u

theorem addr_add (b off j : Nat) : (⟨b, off, none⟩ : Addr).add j = ⟨b, off + j, none⟩ := by
  unfold Addr.add; by_cases h0 : j = 0 <;> simp [h0]
section
variable {α : Type} {E : Flat α} {w w' : World} {A : Option Addr} {len cap : Nat} {xs : List α} {fp : List Nat}
theorem Sl.src (h : Sl E.cod w (.slice A len cap) xs fp) : Src E w (.slice A len cap) xs := by
  obtain ⟨A', cap', hv, _, _, _⟩ := id h
  injection hv with hA hl hc
  subst hl
  refine ⟨A, cap, rfl, fun hn => ?_, fun ad had j u hu => ?_⟩
  · rcases Nat.eq_zero_or_pos xs.length with h0 | h0
    · exact List.eq_nil_of_length_eq_zero h0
    · obtain ⟨b, off, hA', _⟩ := h.cells h0
      rw [hn] at hA'; cases hA'
  · rcases Nat.eq_zero_or_pos xs.length with h0 | h0
    · rw [List.eq_nil_of_length_eq_zero h0] at hu; simp at hu
    · obtain ⟨b, off, hA', _, _, hc⟩ := h.cells h0
      rw [had] at hA'
      injection hA' with e
      subst e
      have hj : j < (xs.flatMap E.enc).length := by
        rcases Nat.lt_or_ge j (xs.flatMap E.enc).length with h1 | h1
        · exact h1
        · rw [List.getElem?_eq_none h1] at hu; cases hu
      rw [addr_add, (hc j hj).1, hu]
theorem Sl.src_take (h : Sl E.cod w (.slice A len cap) xs fp) {k : Nat} (hk : k ≤ xs.length) {c : Nat} : Src E w (.slice A k c) (xs.take k) := by
  obtain ⟨A', c', hv, h1, h2⟩ := h.src
  injection hv with hA hl hc
  subst hA
  have hlk : (xs.take k).length = k := by simp; omega
  refine ⟨A, c, by rw [hlk], fun hn => by rw [h1 hn]; simp, fun ad had j u hu => h2 ad had j u ?_⟩
  have e : xs.flatMap E.enc = (xs.take k).flatMap E.enc ++ (xs.drop k).flatMap E.enc := by rw [← List.flatMap_append, List.take_append_drop]
  rw [e, List.getElem?_append_left]
  · exact hu
  · rcases Nat.lt_or_ge j ((xs.take k).flatMap E.enc).length with h3 | h3
    · exact h3
    · rw [List.getElem?_eq_none h3] at hu; cases hu
theorem Sl.src_drop {b off : Nat} (h : Sl E.cod w (.slice (some ⟨b, off, none⟩) len cap) xs fp) {k : Nat} (hk : k ≤ xs.length) {c : Nat} : Src E w (.slice (some ⟨b, off + k * E.n, none⟩) (xs.length - k) c) (xs.drop k) := by
  obtain ⟨A', c', hv, h1, h2⟩ := h.src
  injection hv with hA hl hc
  subst hA
  refine ⟨some ⟨b, off + k * E.n, none⟩, c, by simp, fun hn => (by cases hn), fun ad had j u hu => ?_⟩
  obtain rfl : (⟨b, off + k * E.n, none⟩ : Addr) = ad := Option.some.inj had
  have hlt : ((xs.take k).flatMap E.enc).length = k * E.n := by
    rw [flat_len E.enc E.n _ (fun x _ => E.len x)]; simp; rw [Nat.min_eq_left hk]
  have e : xs.flatMap E.enc = (xs.take k).flatMap E.enc ++ (xs.drop k).flatMap E.enc := by rw [← List.flatMap_append, List.take_append_drop]
  have := h2 _ rfl (k * E.n + j) u (by rw [e, List.getElem?_append_right (by omega), hlt]; simpa using hu)
  rw [addr_add] at this ⊢
  rw [← this]; congr 2; omega
theorem Src.empty {A : Option Addr} {c : Nat} : Src E w (.slice A 0 c) ([] : List α) := ⟨A, c, rfl, fun _ => rfl, fun _ _ j u hu => by simp at hu⟩
theorem Src.below {v : Value} (h : Src E w v xs) (hb : ∀ a, (∃ u, w.cell? a = some u) → w'.cell? a = w.cell? a) : Src E w' v xs := by
  obtain ⟨A, c, h1, h2, h3⟩ := h
  exact ⟨A, c, h1, h2, fun ad had j u hu => (hb _ ⟨u, h3 ad had j u hu⟩).trans (h3 ad had j u hu)⟩
theorem Src.belowB {v : Value} (h : Src E w v xs) (hb : Below w.heap.size w w') : Src E w' v xs :=
  h.below fun a ⟨u, hu⟩ => hb.cell (block_lt_of_cell hu)
end

theorem grown_below {base : Nat} {w w' : World} {v : Value} {e : TypeId} {size n : Nat} {xs : List Value} (hown : w.ownsRow base e size v n xs) (hg : w.grownBy w' v.ownBlock) (hb : base ≤ w.heap.size) : Below base w w' :=
  (Below.refl base w).grown hg hb (fun k hk => (hown.lt k hk).1)

/-- append(own, other...) -/
theorem wpList_append_src {α : Type} {E : Flat α} {P : Program} {w : World} {ops : Array Oper} {rest : List Oper} {o : Oper} {a : Act} {Q : Exit → Act → World → Prop} (hgd : o.guard = none) (s x : Operand) (t : TypeId)
    (ho : o.op = .call { callee := .builtin .append, args := #[s, x], argTypes := #[t, t] })
    (base : Nat) (e : TypeId) (i : TypeInfo) (z : Value) (bytes : Nat) (ht : P.underlying t = some (.slice e)) (hi : P.info? e = some i) (hz : i.zero = some z)
    (hsize : i.size = E.n) (hby : i.bytes = bytes) (hzs : z.cells.size = E.n)
    (v : Value) (L : List α) (hs : a.eval s = v) (hown : Own E w base e v L) (v2 : Value) (M : List α) (hx : a.eval x = v2) (hM : Src E w v2 M)
    (hn : L.length + M.length ≤ 1000000000) (hb : bytes ≤ 1000) (hbase : base ≤ w.heap.size)
    (h : ∀ v' w', Own E w' base e v' (L ++ M) → Below base w w' → wpList P ops Q rest (a.put o.dst v') w') : wpList P ops Q (o :: rest) a w := by
  obtain ⟨A, c, rfl, hnone, hnews⟩ := hM
  have hone : ∀ u ∈ M.flatMap E.enc, u.oneCell' = true := fun u hu => by
    obtain ⟨y, _, hy⟩ := List.mem_flatMap.1 hu
    exact E.one y u hy
  cases A with
  | none =>
    have hm := hnone rfl
    subst hm
    refine wpList_plain hgd fun K hK => ?_
    have hrun := run_append_none (P := P) (w := w) base t o.type e i E.n c ht hi v L.length _ hown
    unfold Oper.wp
    simp [execOp, ho, resolve, invoke, builtin, hs, hx, hrun, Result.andThen]
    refine hK _ _ (h v w ?_ (Below.refl _ _))
    rw [List.append_nil]; exact hown
  | some ad =>
    refine wpList_append_own w hgd s x t ho base e i z E.n bytes ht hi hz hsize hby hzs E.pos v L.length _ hs hown ad M.length c (M.flatMap E.enc) hx (flat_len E.enc E.n M (fun x _ => E.len x)) (hnews ad rfl) hone (by unfold maxLen; omega) ?_ hbase ?_
    · have : (L.length + M.length) * bytes ≤ 1000000000 * 1000 := Nat.mul_le_mul hn hb
      omega
    · intro v' w' h2 h3 _
      refine h v' w' ?_ (grown_below hown h3 hbase)
      show w'.ownsRow base e E.n v' (L ++ M).length ((L ++ M).flatMap E.enc)
      rw [List.flatMap_append, List.length_append]
      exact h2

/-- append within the room of an own row, at a single operation. -/
theorem wp_append_fits_ {P : Program} (w : World) {o : Oper} {a : Act} {K : Act → World → Prop} {Q : Exit → Act → World → Prop}
    (s x : Operand) (t : TypeId) (hop : o.op = Op.call { callee := Callee.builtin Builtin.append, args := #[s, x], argTypes := #[t, t] })
    (base : Nat) (e : TypeId) (i : TypeInfo) (size : Nat) (h1 : P.underlying t = some (.slice e)) (h2 : P.info? e = some i) (h4 : i.size = size)
    (g k cap : Nat) (xs : List Value) (hs : a.eval s = .slice (some ⟨g, 0, none⟩) k cap) (hown : w.ownsRow base e size (.slice (some ⟨g, 0, none⟩) k cap) k xs) (ad : Addr) (m c : Nat) (news : List Value) (hx : a.eval x = .slice (some ad) m c) (hn : news.length = m * size)
    (hc : ∀ j u, news[j]? = some u → w.cell? (ad.add j) = some u) (h1c : ∀ u ∈ news, u.oneCell' = true) (b1 : k + m ≤ cap)
    (hK : ∀ w', w'.ownsRow base e size (.slice (some ⟨g, 0, none⟩) (k + m) cap) (k + m) (xs ++ news) → w.grownBy w' (some g) → K (a.put o.dst (.slice (some ⟨g, 0, none⟩) (k + m) cap)) w') :
    o.wp P a w K Q := by
  obtain ⟨w', hrun, r1, r2⟩ := run_append_fits (P := P) w base t o.type e i size h1 h2 h4 g k cap xs hown ad m c news hn hc h1c b1
  unfold Oper.wp
  simp [execOp, hop, resolve, invoke, builtin, hs, hx, hrun, Result.andThen]
  exact hK w' r1 r2
theorem own_beyond {w : World} {base : Nat} {e : TypeId} {size g n cap : Nat} {xs : List Value} (h : w.ownsRow base e size (.slice (some ⟨g, 0, none⟩) n cap) n xs) {p : Nat} (hp : n * size ≤ p) (u : Value) :
    (w.setCell ⟨g, p, none⟩ u).ownsRow base e size (.slice (some ⟨g, 0, none⟩) n cap) n xs := by
  obtain ⟨h1, h2⟩ := h
  refine ⟨h1, ?_⟩
  rcases h2 with ⟨hv, _⟩ | ⟨g', cap', cur, hv, hg, hh, hnc, hcm, hsz, hxs⟩
  · cases hv
  · injection hv with hv1 _ hv2
    injection hv1 with hv1
    injection hv1 with hv1 _ _
    subst hv1 hv2
    refine .inr ⟨g, cap, cur.setIfInBounds p u, rfl, hg, ?_, hnc, hcm, by simpa using hsz, ?_⟩
    · have hl : g < w.heap.size := by
        rcases Nat.lt_or_ge g w.heap.size with hlt | hge
        · exact hlt
        · rw [Array.getElem?_eq_none hge] at hh; cases hh
      simp only [World.setCell]
      rw [Array.getElem?_modify, if_pos rfl, hh]
      rfl
    · rw [Array.toList_setIfInBounds, List.take_set_of_le hp]; exact hxs
theorem own_cell {w : World} {base : Nat} {e : TypeId} {size g n cap : Nat} {xs : List Value} (h : w.ownsRow base e size (.slice (some ⟨g, 0, none⟩) n cap) n xs) {p : Nat} (hp : p < cap * size) :
    (∃ u, w.cell? ⟨g, p, none⟩ = some u) ∧ w.frozen? ⟨g, p, none⟩ = false := by
  obtain ⟨h1, h2⟩ := h
  rcases h2 with ⟨hv, _⟩ | ⟨g', cap', cur, hv, hg, hh, hnc, hcm, hsz, hxs⟩
  · cases hv
  · injection hv with hv1 _ hv2
    injection hv1 with hv1
    injection hv1 with hv1 _ _
    subst hv1 hv2
    refine ⟨⟨cur[p]'(by omega), ?_⟩, ?_⟩
    · simp [World.cell?, hh, hsz, hp]
    · simp [World.frozen?, hh]
theorem own_prefix {w : World} {base : Nat} {e : TypeId} {size g n k cap : Nat} {xs ys : List Value} (h : w.ownsRow base e size (.slice (some ⟨g, 0, none⟩) n cap) n xs) (hk : k ≤ n) (hy : ys.length = k * size) (hp : ys <+: xs) :
    w.ownsRow base e size (.slice (some ⟨g, 0, none⟩) k cap) k ys := by
  obtain ⟨h1, h2⟩ := h
  refine ⟨hy, ?_⟩
  rcases h2 with ⟨hv, _⟩ | ⟨g', cap', cur, hv, hg, hh, hnc, hcm, hsz, hxs⟩
  · cases hv
  · injection hv with hv1 _ hv2
    injection hv1 with hv1
    injection hv1 with hv1 _ _
    subst hv1 hv2
    refine .inr ⟨g, cap, cur, rfl, hg, hh, by omega, hcm, hsz, ?_⟩
    have hle : k * size ≤ n * size := Nat.mul_le_mul_right _ hk
    rw [List.prefix_iff_eq_take] at hp
    rw [hp, ← hxs, List.take_take, hy, Nat.min_eq_left hle]
theorem own_tail {α : Type} {E : Flat α} {w : World} {base : Nat} {e : TypeId} {g n cap : Nat} {xs : List α} (h : w.ownsRow base e E.n (.slice (some ⟨g, 0, none⟩) n cap) n (xs.flatMap E.enc)) {k : Nat} (hk : k ≤ xs.length) :
    ∀ (j : Nat) u, ((xs.drop k).flatMap E.enc)[j]? = some u → w.cell? ⟨g, k * E.n + j, none⟩ = some u := by
  intro j u hu
  have hlt : ((xs.take k).flatMap E.enc).length = k * E.n := by
    rw [flat_len E.enc E.n _ (fun x _ => E.len x)]; simp; rw [Nat.min_eq_left hk]
  have e2 : xs.flatMap E.enc = (xs.take k).flatMap E.enc ++ (xs.drop k).flatMap E.enc := by rw [← List.flatMap_append, List.take_append_drop]
  have h3 : (xs.flatMap E.enc)[k * E.n + j]? = some u := by rw [e2, List.getElem?_append_right (by omega), hlt]; simpa using hu
  have h4 : k * E.n + j < n * E.n := by
    have := h.1
    rw [← this]
    rcases Nat.lt_or_ge (k * E.n + j) (xs.flatMap E.enc).length with h5 | h5
    · exact h5
    · rw [List.getElem?_eq_none h5] at h3; cases h3
  rw [h.cellAt (k * E.n + j) h4]; exact h3
end Go.Proofs.YtgnbhcgagdfaiaaGreatDoor

namespace Go.Proofs.YtgnbhcgagdfaiaaGreatDoor
open Go.RowKit

/-! ### every index below n is in order -/
def allIdx (f : Nat → Bool) (n : Nat) : Bool := (List.range n).all f
theorem allIdx_zero {f : Nat → Bool} : allIdx f 0 = true := rfl
theorem allIdx_step {f : Nat → Bool} {k : Nat} (h : allIdx f k = true) (h1 : f k = true) : allIdx f (k + 1) = true := by
  unfold allIdx at *; rw [List.range_succ, List.all_append, h]; simp [h1]
theorem allIdx_true {f : Nat → Bool} {n : Nat} : allIdx f n = true ↔ ∀ i, i < n → f i = true := by
  unfold allIdx; rw [List.all_eq_true]; simp
theorem allIdx_bad {f : Nat → Bool} {k n : Nat} (h : k < n) (h1 : f k = false) : allIdx f n = false := by
  cases hh : allIdx f n with
  | false => rfl
  | true => rw [allIdx_true.1 hh k h] at h1; cases h1
theorem allIdx_full {f : Nat → Bool} {k n : Nat} (h : n ≤ k) (hk : k ≤ n) (h0 : allIdx f k = true) : allIdx f n = true := by
  have : k = n := by omega
  rw [← this]; exact h0
theorem allIdx_congr {f g : Nat → Bool} {n : Nat} (h : ∀ i, i < n → f i = g i) : allIdx f n = allIdx g n := by
  cases hh : allIdx g n with
  | true => rw [allIdx_true] at *; intro i hi; rw [h i hi]; exact hh i hi
  | false =>
    cases h2 : allIdx f n with
    | false => rfl
    | true =>
      have : allIdx g n = true := by rw [allIdx_true] at *; intro i hi; rw [← h i hi]; exact h2 i hi
      rw [this] at hh; cases hh
theorem all_eq_allIdx {α : Type} (p : α → Bool) (xs : List α) (d : α) : xs.all p = allIdx (fun i => p (xs.getD i d)) xs.length := by
  cases hh : allIdx (fun i => p (xs.getD i d)) xs.length with
  | true =>
    rw [allIdx_true] at hh
    rw [List.all_eq_true]
    intro x hx
    obtain ⟨i, hi, rfl⟩ := List.getElem_of_mem hx
    have := hh i hi
    simpa [List.getD_eq_getElem?_getD, hi] using this
  | false =>
    cases h2 : xs.all p with
    | false => rfl
    | true =>
      rw [List.all_eq_true] at h2
      have : allIdx (fun i => p (xs.getD i d)) xs.length = true := by
        rw [allIdx_true]; intro i hi
        have := h2 xs[i] (List.getElem_mem hi)
        simpa [List.getD_eq_getElem?_getD, hi] using this
      rw [this] at hh; cases hh
theorem getD_of_lt {α : Type} {xs : List α} {i : Nat} {d : α} (h : i < xs.length) : xs.getD i d = xs[i] := by
  simp [List.getD_eq_getElem?_getD, h]

/-! ### the order of strings -/
def ltS (a b : ByteArray) : Bool := Op.bytesLess a.toList b.toList
theorem ltS_eq (a b : ByteArray) : ltS a b = decide (a.data.toList < b.data.toList) := by
  unfold ltS; rw [bytesLess_eq, ByteArray.toList_eq, ByteArray.toList_eq]
theorem ltS_irrefl (a : ByteArray) : ltS a a = false := by
  rw [ltS_eq]; simp [List.lt_irrefl]
theorem ltS_trans {a b c : ByteArray} (h1 : ltS a b = true) (h2 : ltS b c = true) : ltS a c = true := by
  rw [ltS_eq, decide_eq_true_eq] at *; exact List.lt_trans h1 h2
theorem ltS_asymm {a b : ByteArray} (h : ltS a b = true) : ltS b a = false := by
  cases hh : ltS b a with
  | false => rfl
  | true => have := ltS_trans h hh; rw [ltS_irrefl] at this; cases this
theorem data_inj {a b : ByteArray} (h : a.data.toList = b.data.toList) : a = b := ByteArray.ext (Array.toList_inj.mp h)
theorem ltS_tri {a b : ByteArray} (h1 : ltS a b = false) (h2 : ltS b a = false) : a = b := by
  rw [ltS_eq, decide_eq_false_iff_not] at *
  exact data_inj (List.le_antisymm h2 h1)
theorem eqS_true {a b : ByteArray} : (a.toList == b.toList) = true ↔ a = b := by
  rw [beq_iff_eq]; exact ⟨bytes_toList_inj, fun h => by rw [h]⟩
theorem eqS_eq (a b : ByteArray) : (a.toList == b.toList) = decide (a = b) := by
  by_cases h : a = b
  · subst h; simp
  · rw [bytes_beq_false h]; simp [h]
theorem leS_eq (a b : ByteArray) : (Op.bytesLess a.toList b.toList || a.toList == b.toList) = !(ltS b a) := by
  cases h : ltS b a with
  | true =>
    have h1 : ltS a b = false := ltS_asymm h
    have h2 : ¬ a = b := fun e => by subst e; rw [ltS_irrefl] at h; cases h
    have : Op.bytesLess a.toList b.toList = false := h1
    rw [this, bytes_beq_false h2]; rfl
  | false =>
    cases h1 : ltS a b with
    | true => have : Op.bytesLess a.toList b.toList = true := h1; rw [this]; rfl
    | false =>
      have := ltS_tri h1 h
      subst this
      simp
end Go.Proofs.YtgnbhcgagdfaiaaGreatDoor

namespace Go.Proofs.YtgnbhcgagdfaiaaGreatDoor
open Go.RowKit
set_option linter.unusedVariables false

theorem run_copy_rowN {P : Program} (w : World) (dT sT ty elem : TypeId) (N g o dLen dCap : Nat) (a : Addr) (sLen sCap : Nat) (cur : Array Value) (t : TypeId) (cs : List Value)
    (hu : P.underlying dT = some (.slice elem)) (hs : (P.info? elem).map (·.size) = some N)
    (hg : w.heap[g]? = some (.cells cur t (0, 0))) (m : Nat) (hm : m = Nat.min sLen dLen) (hn : cs.length = m * N)
    (hsrc : ∀ j v, cs[j]? = some v → w.cell? (a.add j) = some v) (hfit : o + cs.length ≤ cur.size) (h1 : ∀ v ∈ cs, v.oneCell' = true) :
    (Builtin.copy_ #[dT, sT] ty #[.slice (some ⟨g, o, none⟩) dLen dCap, .slice (some a) sLen sCap]).run P w =
      .ok (goInt m) (w.setRow g (cur.toList.take o ++ cs ++ cur.toList.drop (o + cs.length)).toArray) := by
  have hl := run_loadCells_list (P := P) w a cs hsrc
  have hst := run_storeCells_at P g o t cs 0 cur w hg (by simpa using hfit) h1
  cases hq : P.info? elem with
  | none => simp [hq] at hs
  | some i =>
    have hi : i.size = N := by simpa [hq] using hs
    subst hm
    simp [Builtin.copy_, run_underlying hu, Builtin.lenOf, Builtin.firstCells, sizeOf, typeInfo, hq, hi, ← hn, hl, hst]

/-- copy at a single operation: the row behind it is a splice. -/
theorem wp_copy_at {P : Program} {w : World} {o : Oper} {a : Act} {K : Act → World → Prop} {Q : Exit → Act → World → Prop} (d s : Operand) (dT sT : TypeId)
    (ho : o.op = .call { callee := .builtin .copy, args := #[d, s], argTypes := #[dT, sT] }) (elem : TypeId) (hu : P.underlying dT = some (.slice elem)) (N : Nat) (hsz : (P.info? elem).map (·.size) = some N)
    (g off dLen dCap : Nat) (ad : Addr) (sLen sCap : Nat) (hd : a.eval d = .slice (some ⟨g, off, none⟩) dLen dCap) (hs : a.eval s = .slice (some ad) sLen sCap)
    (cur : List Value) (t : TypeId) (hg : w.heap[g]? = some (.cells cur.toArray t (0, 0))) (cs : List Value) (m : Nat) (hm : m = Nat.min sLen dLen) (hn : cs.length = m * N)
    (hsrc : ∀ j v, cs[j]? = some v → w.cell? (ad.add j) = some v) (hfit : off + cs.length ≤ cur.length) (h1 : ∀ v ∈ cs, v.oneCell' = true)
    (h : ∀ w', w'.heap[g]? = some (.cells (splice cur off cs).toArray t (0, 0)) → (∀ k, k ≠ g → w'.heap[k]? = w.heap[k]?) → Below g w w' → K (a.put o.dst (goInt m)) w') : o.wp P a w K Q := by
  have hrun := run_copy_rowN (P := P) w dT sT o.type elem N g off dLen dCap ad sLen sCap cur.toArray t cs hu hsz hg m hm hn hsrc (by simpa using hfit) h1
  unfold Oper.wp
  simp [execOp, ho, resolve, invoke, builtin, hd, hs, hrun, Result.andThen]
  refine h _ ?_ (fun k hk => setRow_other w g k _ hk) (below_setRow (Below.refl _ _) (Nat.le_refl _) _)
  simpa [splice] using setRow_heap w g _ _ t _ hg
theorem wpList_copy_at {P : Program} {w : World} {ops : Array Oper} {rest : List Oper} {o : Oper} {a : Act} {Q : Exit → Act → World → Prop} (hgd : o.guard = none) (d s : Operand) (dT sT : TypeId)
    (ho : o.op = .call { callee := .builtin .copy, args := #[d, s], argTypes := #[dT, sT] }) (elem : TypeId) (hu : P.underlying dT = some (.slice elem)) (N : Nat) (hsz : (P.info? elem).map (·.size) = some N)
    (g off dLen dCap : Nat) (ad : Addr) (sLen sCap : Nat) (hd : a.eval d = .slice (some ⟨g, off, none⟩) dLen dCap) (hs : a.eval s = .slice (some ad) sLen sCap)
    (cur : List Value) (t : TypeId) (hg : w.heap[g]? = some (.cells cur.toArray t (0, 0))) (cs : List Value) (m : Nat) (hm : m = Nat.min sLen dLen) (hn : cs.length = m * N)
    (hsrc : ∀ j v, cs[j]? = some v → w.cell? (ad.add j) = some v) (hfit : off + cs.length ≤ cur.length) (h1 : ∀ v ∈ cs, v.oneCell' = true)
    (h : ∀ w', w'.heap[g]? = some (.cells (splice cur off cs).toArray t (0, 0)) → (∀ k, k ≠ g → w'.heap[k]? = w.heap[k]?) → Below g w w' → wpList P ops Q rest (a.put o.dst (goInt m)) w') : wpList P ops Q (o :: rest) a w :=
  wpList_plain hgd fun _ hK => wp_copy_at d s dT sT ho elem hu N hsz g off dLen dCap ad sLen sCap hd hs cur t hg cs m hm hn hsrc hfit h1 fun w' a1 a2 a3 => hK _ _ (h w' a1 a2 a3)

/-- A row of the call's own, as its block stands. -/
theorem own_row {w : World} {base : Nat} {e : TypeId} {size g n cap : Nat} {xs : List Value} (h : w.ownsRow base e size (.slice (some ⟨g, 0, none⟩) n cap) n xs) :
    ∃ cur : List Value, w.heap[g]? = some (.cells cur.toArray e (0, 0)) ∧ cur.length = cap * size ∧ cur.take (n * size) = xs ∧ n ≤ cap ∧ cap ≤ maxLen ∧ base ≤ g := by
  obtain ⟨h1, h2⟩ := h
  rcases h2 with ⟨hv, _⟩ | ⟨g', cap', cur, hv, hg, hh, hnc, hcm, hsz, hxs⟩
  · cases hv
  · injection hv with hv1 _ hv2
    injection hv1 with hv1
    injection hv1 with hv1 _ _
    subst hv1 hv2
    exact ⟨cur.toList, by simpa using hh, by simpa using hsz, hxs, hnc, hcm, hg⟩
theorem own_of_row {w : World} {base : Nat} {e : TypeId} {size g n cap : Nat} {xs cur : List Value} (hh : w.heap[g]? = some (.cells cur.toArray e (0, 0))) (hb : base ≤ g) (hnc : n ≤ cap) (hcm : cap ≤ maxLen) (hsz : cur.length = cap * size) (hxs : cur.take (n * size) = xs) :
    w.ownsRow base e size (.slice (some ⟨g, 0, none⟩) n cap) n xs := by
  refine ⟨?_, .inr ⟨g, cap, cur.toArray, rfl, hb, hh, hnc, hcm, by simpa using hsz, by simpa using hxs⟩⟩
  rw [← hxs, List.length_take, hsz, Nat.min_eq_left (Nat.mul_le_mul_right _ hnc)]
theorem row_cell {w : World} {g : Nat} {e : TypeId} {cur : List Value} (hh : w.heap[g]? = some (.cells cur.toArray e (0, 0))) (j : Nat) : w.cell? ⟨g, j, none⟩ = cur[j]? := by
  simp [World.cell?, hh]
/-- Put in within the room: what stands behind is moved first. -/
theorem splice_shift {cur A t B : List Value} {p q r : Nat} (hc : cur.take (p + q) = A ++ B) (hA : A.length = p) (hB : B.length = q) (ht : t.length = r) (hl : p + r + q ≤ cur.length) :
    (splice (splice cur (p + r) B) p t).take (p + r + q) = A ++ (t ++ B) := by
  have hpA : cur.take p = A := by
    have := congrArg (List.take p) hc
    rw [List.take_take, Nat.min_eq_left (by omega), List.take_append_of_le_length (by omega), ← hA, List.take_length] at this
    rw [hA] at this; exact this
  have e1 : splice cur (p + r) B = cur.take (p + r) ++ (B ++ cur.drop (p + r + q)) := by rw [splice, hB]
  have hl1 : (cur.take (p + r)).length = p + r := by rw [List.length_take]; omega
  have e2 : (cur.take (p + r) ++ (B ++ cur.drop (p + r + q))).take p = A := by
    rw [List.take_append_of_le_length (by omega), List.take_take, Nat.min_eq_left (by omega), hpA]
  have e3 : (cur.take (p + r) ++ (B ++ cur.drop (p + r + q))).drop (p + r) = B ++ cur.drop (p + r + q) := by
    rw [List.drop_append_of_le_length (by omega), List.drop_of_length_le (by omega), List.nil_append]
  rw [e1, splice, ht, e2, e3, ← List.append_assoc, ← List.append_assoc, List.take_append_of_le_length (by simp; omega), List.take_of_length_le (by simp; omega), List.append_assoc]
/-- Put in into a new row: the element, then what stands behind. -/
theorem splice_fill {cur A t B : List Value} {p q r : Nat} (hc : cur.take p = A) (hA : A.length = p) (hB : B.length = q) (ht : t.length = r) (hl : p + r + q ≤ cur.length) :
    (splice (splice cur p t) (p + r) B).take (p + r + q) = A ++ (t ++ B) := by
  have e1 : splice cur p t = A ++ (t ++ cur.drop (p + r)) := by rw [splice, ht, hc]
  have e2 : (A ++ (t ++ cur.drop (p + r))).take (p + r) = A ++ t := by
    rw [← List.append_assoc, List.take_append_of_le_length (by simp; omega), List.take_of_length_le (by simp; omega)]
  rw [e1, splice, e2, ← List.append_assoc, List.take_append_of_le_length (by simp; omega), List.take_of_length_le (by simp; omega), List.append_assoc]
end Go.Proofs.YtgnbhcgagdfaiaaGreatDoor

namespace Go.Proofs.YtgnbhcgagdfaiaaGreatDoor
open Go.RowKit
set_option linter.unusedVariables false

def totString (x : ByteArray) : Nat := x.size
def totStringS (xs : List ByteArray) : Nat := xs.length + (xs.map totString).sum

set_option maxRecDepth 100000 in
set_option maxHeartbeats 1000000 in
theorem szStringS_any (v : Value) (xs : List ByteArray) (fp : List Nat) (left : Int) (w : World) (hx : Sl fStr.cod w v xs fp) (h0 : 0 ≤ left) (h1 : left ≤ 1048576) :
    Calls Tryz.prog 58 #[v, .int .i64 left] w fun e w' => SzR left (totStringS xs) w e w' := by
  obtain ⟨A, cap, rfl, hlen, hcap⟩ := hx.form
  by_cases hl : left - (xs.length : Int) < 0
  · go_enter Tryz.func58, Tryz.ntmps58
    go_wp2
    go_ret
    exact .no (Below.refl _ _)
  · go_enter Tryz.func58, Tryz.ntmps58
    go_wp2
    go_loopw [1, 5] (fun l i wr => ∃ k : Nat, k ≤ xs.length ∧ i = .int .i64 k ∧ Below w.heap.size w wr ∧ ∃ r : Int, l = .int .i64 r ∧ 0 ≤ r ∧ r + (xs.length + ((xs.take k).map totString).sum : Nat) = left) (fun _ i _ => xs.length - (intOf i).toNat)
    case atStart => exact ⟨0, Nat.zero_le _, rfl, Below.refl _ _, _, rfl, by omega, by simp⟩
    case round =>
      obtain ⟨k, hk, rfl, hb, r, rfl, hr0, hr⟩ := hrel
      have HR := Lib.hid hr
      clear hr
      have hr1 : r ≤ 1048576 := by have := HR.out; omega
      by_cases hlt : k < xs.length
      · obtain ⟨b, off, rfl, _, hok, hc, _⟩ := (hx.below' hb).at_ hlt
        have hc0 : wr.cell? ⟨b, off + k, none⟩ = some (.string xs[k]) := by have := hc 0 (by decide); rw [show off + k * fStr.n + 0 = off + k from by show off + k * 1 + 0 = _; omega] at this; exact this
        clear hc
        have hsz0 : xs[k].size ≤ 9223372036854775807 := hok
        by_cases hneg : r - (xs[k].size : Int) < 0
        · go_wp2
          go_ret
          exact .no hb
        · go_wp2
          go_roundw
          case rel => exact ⟨k + 1, by omega, by go_num, hb, _, rfl, by omega, by have := HR.out; have hst := sum_take_step_ totString xs k hlt; unfold totString at hst this ⊢; omega⟩
          case measure => simp [intOf]; omega
      · go_wp2
        go_ret
        exact .yes hr0 (by have := HR.out; rw [List.take_of_length_le (by omega)] at this; exact this) hb

theorem infoString : (Tryz.prog.info? 9).map (fun i => (i.zero, i.size, i.bytes)) = some (some (.string ⟨#[]⟩), 1, 16) := by kernel_rfl
set_option maxRecDepth 100000 in
set_option maxHeartbeats 1000000 in
theorem toStringS_any (v : Value) (xs : List ByteArray) (fp : List Nat) (w : World) (hx : Sl fStr.cod w v xs fp) (h1 : xs.length ≤ 1048576) :
    Calls Tryz.prog 64 #[v] w fun e w' => NewR fStr.cod w xs e w' := by
  obtain ⟨A, cap, rfl, hlen, hcap⟩ := hx.form
  obtain ⟨i0, hi, hz0, hz1, hz2⟩ := info_parts infoString
  have hmk := fun W => run_make_rowN (P := Tryz.prog) 24 9 i0 _ Tryz.underlying24 hi hz0 .i64 .i64 xs.length xs.length (Nat.le_refl _) (by rw [hz2]; omega) (by omega) W
  rw [hz1] at hmk
  go_enter Tryz.func64, Tryz.ntmps64
  go_wp2
  go_loopw [4] (fun i wr => ∃ k : Nat, k ≤ xs.length ∧ i = .int .i64 k ∧ Fill wr w.heap.size w.heap.size 9 1 xs.length ((xs.take k).flatMap fStr.enc) ∧ Below w.heap.size w wr) (fun i _ => xs.length - (intOf i).toNat)
  case atStart => exact ⟨0, Nat.zero_le _, rfl, Fill.start1 w _ _ _ (by omega), (Below.refl _ _).alloc (Nat.le_refl _) _⟩
  case round =>
    obtain ⟨k, hk, rfl, hf, hb⟩ := hrel
    by_cases hlt : k < xs.length
    · obtain ⟨b, off, rfl, _, hok, hc, _⟩ := (hx.below' hb).at_ hlt
      have hc0 : wr.cell? ⟨b, off + k, none⟩ = some (.string xs[k]) := by have := hc 0 (by decide); rw [show off + k * fStr.n + 0 = off + k from by show off + k * 1 + 0 = _; omega] at this; exact this
      clear hc
      obtain ⟨u, hu⟩ := hf.cell (j := k) (by omega)
      have hfz := hf.frozen k
      go_wp2
      go_roundw
      case rel => exact ⟨k + 1, by omega, by go_num, fill_step rfl hf hlt rfl, hb.setCell (Nat.le_refl _) _⟩
      case measure => simp [intOf]; omega
    · have hk' : k = xs.length := by omega
      subst hk'
      rw [List.take_length] at hf
      go_wp2
      go_ret
      exact ⟨_, rfl, Sl.of_own rfl (hf.done (flat_len _ 1 _ (fun _ _ => rfl))) hx.oks, hb⟩

set_option maxRecDepth 100000 in
set_option maxHeartbeats 400000 in
theorem eqStringS_any (v v' : Value) (xs : List ByteArray) (fp fp' : List Nat) (w : World) (hx : Sl fStr.cod w v xs fp) (hy : Sl fStr.cod w v' xs fp') :
    Calls Tryz.prog 9 #[v, v'] w fun e w' => YesR w e w' := by
  obtain ⟨A, cap, rfl, hlen, hcap⟩ := hx.form
  obtain ⟨A', cap', rfl, hlen', hcap'⟩ := hy.form
  go_enter Tryz.func9, Tryz.ntmps9
  go_wp2
  go_loopw [5] (fun i wr => ∃ k : Nat, k ≤ xs.length ∧ i = .int .i64 k ∧ ∃ n, wr = w.drewN n) (fun i _ => xs.length - (intOf i).toNat)
  case atStart => exact ⟨0, Nat.zero_le _, rfl, 0, rfl⟩
  case round =>
    obtain ⟨k, hk, rfl, n, rfl⟩ := hrel
    by_cases hlt : k < xs.length
    · obtain ⟨b, off, rfl, _, hok, hc, _⟩ := hx.cell1 rfl hlt rfl
      obtain ⟨b', off', rfl, _, hok', hc', _⟩ := hy.cell1 rfl hlt rfl
      go_wp2
      go_quiet (fail)
      go_wp2
      go_roundw
      case rel => exact ⟨k + 1, by omega, by go_num, _, rfl⟩
      case measure => simp [intOf]; omega
    · go_wp2
      go_ret
      exact ⟨rfl, below_drewN (Below.refl _ _) _⟩

def mkString (k : Int) : ByteArray := mt (k)
def marksString (k : Int) (n : Nat) : List ByteArray := (List.range n).map fun (i : Nat) => mkString (k + 1 * (i : Int))

theorem marksString_get (k0 : Int) (n i : Nat) (h : i < (marksString k0 n).length) : (marksString k0 n)[i] = mkString (k0 + 1 * (i : Int)) := by
  simp [marksString]
theorem marksString_len (k0 : Int) (n : Nat) : (marksString k0 n).length = n := by simp [marksString]

set_option maxRecDepth 100000 in
set_option maxHeartbeats 2000000 in
theorem markStringS_any (v : Value) (xs : List ByteArray) (fp : List Nat) (k0 : Int) (w : World) (hx : Sl fStr.cod w v xs fp) (h0 : 0 ≤ k0) (h1 : k0 + 1 * (xs.length : Int) ≤ 1000000000000) :
    Calls Tryz.prog 12 #[v, .int .i64 k0] w fun e w' => MarkR fStr.cod fp w (k0 + 1 * (xs.length : Int)) v (marksString k0 xs.length) e w' := by
  obtain ⟨A, cap, rfl, hlen, hcap⟩ := hx.form
  by_cases hne : xs.length = 0
  · have : xs = [] := List.eq_nil_of_length_eq_zero hne
    subst this
    go_enter Tryz.func12, Tryz.ntmps12
    go_wp2
    go_loop [1, 5] (fun n i => i = .int .i64 0 ∧ n = .int .i64 k0) (fun _ _ => 0)
    case atStart => exact ⟨rfl, rfl⟩
    case round =>
      obtain ⟨rfl, rfl⟩ := hrel
      go_wp2
      go_ret
      exact ⟨ret_int (by simp), hx, .refl _ _⟩
  · obtain ⟨b, off, rfl, rfl, hbs, hcs0⟩ := hx.cells (by omega)
    go_enter Tryz.func12, Tryz.ntmps12
    go_wp2
    go_loopw [1, 5] (fun n i wr => ∃ k : Nat, k ≤ xs.length ∧ i = .int .i64 k ∧ ∃ q : Int, n = .int .i64 q ∧ 0 ≤ q ∧ Hid (q = k0 + 1 * (k : Int)) ∧ Cells wr b off (((List.range k).map fun (i : Nat) => mkString (k0 + 1 * (i : Int))).flatMap fStr.enc ++ (xs.drop k).flatMap fStr.enc) ∧ Only [b] w wr) (fun _ i _ => xs.length - (intOf i).toNat)
    case atStart => exact ⟨0, Nat.zero_le _, rfl, k0, rfl, h0, by show _ = _; simp, by simpa using hcs0, .refl _ _⟩
    case round =>
      obtain ⟨k, hk, rfl, q, rfl, hq0, HQ, hcs, ho⟩ := hrel
      by_cases hlt : k < xs.length
      · have hq1 : q + 1 ≤ 1000000000000 := by have := HQ.out; omega
        have HC : Cells wr b off (((List.range k).map fun (i : Nat) => mkString (k0 + 1 * (i : Int))).flatMap fStr.enc ++ ((.string xs[k] : Value) :: (xs.drop (k + 1)).flatMap fStr.enc)) := by
          have := hcs
          rw [List.drop_eq_getElem_cons hlt, List.flatMap_cons] at this
          exact this
        generalize HP : ((List.range k).map fun (i : Nat) => mkString (k0 + 1 * (i : Int))).flatMap fStr.enc = pre at *
        have HL : pre.length = k * 1 := by rw [← HP, flat_len fStr.enc 1 _ (fun _ _ => rfl)]; simp
        generalize HR : (xs.drop (k + 1)).flatMap fStr.enc = post at *
        have HPH := Lib.hid HP
        clear HP hcs
        have HRH := Lib.hid HR
        clear HR
        have HLH := Lib.hid HL
        clear HL
        go_wp2_with fail
        refine (markText_any _ _ (by omega)).mono ?_
        rintro e w0 ⟨rfl, hbm⟩
        have HD0 := HC.keep (hbm.block b (by have := ho.size; simp at this ⊢; omega))
        have hoo := ho.trans (.of_below hbm)
        clear ho hbm HC
        have ho := hoo
        clear hoo
        have hu0 := HD0.at_mid (m := k * 1) (j := 0) (p := off + k) HLH.out (by omega) (by simp) rfl
        have hz0 := HD0.free_mid (m := k * 1) (j := 0) (p := off + k) HLH.out (by omega) (by simp)
        go_wp2
        have HC0 := HD0.put (m := k * 1) (j := 0) (p := off + k) HLH.out (by omega) (by simp) (.string (mt (q)))
        have ho_ := ho.set (off + k) (.string (mt (q)))
        clear hu0 hz0 ho
        have ho := ho_
        clear ho_
        clear HD0
        go_roundw
        case rel => exact ⟨k + 1, by omega, by go_num, q + 1, by go_num, by omega, by have := HQ.out; show _ = _; omega, marks_step (f := fun (i : Nat) => mkString (k0 + 1 * (i : Int))) HPH.out HRH.out (by rw [← HQ.out] <;> rfl) HC0, ho⟩
        case measure => simp [intOf]; omega
      · have hk' : k = xs.length := by omega
        subst hk'
        rw [List.drop_length, List.flatMap_nil, List.append_nil] at hcs
        go_wp2
        go_ret
        have hsz := ho.size
        have hm := Sl.of_cells (E := fStr) (cap := cap) (xs := marksString k0 xs.length) (by rw [marksString_len]; exact hlen) hcap (by omega) hcs (by intro x hx; simp [marksString] at hx; obtain ⟨i, hi, rfl⟩ := hx; exact mt_ok _ (by omega)) (by rw [marksString_len]; omega)
        rw [marksString_len] at hm
        exact ⟨ret_int HQ.out, hm, ho⟩

set_option maxRecDepth 100000 in
set_option maxHeartbeats 2000000 in
theorem heldStringS_any (v : Value) (n0 : Nat) (fp : List Nat) (k0 : Int) (w : World) (hx0 : Sl fStr.cod w v (marksString k0 n0) fp) (h0 : 0 ≤ k0) (h1 : k0 + 1 * (n0 : Int) ≤ 1000000000000) :
    Calls Tryz.prog 13 #[v, .int .i64 k0] w fun e w' => e = .returned (.int .i64 (k0 + 1 * (n0 : Int))) ∧ Below w.heap.size w w' := by
  have hn0 : (marksString k0 n0).length = n0 := marksString_len _ _
  obtain ⟨xs, hxs⟩ : ∃ xs, xs = marksString k0 n0 := ⟨_, rfl⟩
  rw [← hxs] at hx0 hn0
  have hx := hx0
  clear hx0
  rw [← hn0] at h1
  have HN := Lib.hid hn0
  clear hn0
  have HXS := Lib.hid hxs
  clear hxs
  obtain ⟨A, cap, rfl, hlen, hcap⟩ := hx.form
  go_enter Tryz.func13, Tryz.ntmps13
  go_wp2
  go_loopw [1, 5] (fun n i wr => ∃ k : Nat, k ≤ xs.length ∧ i = .int .i64 k ∧ ∃ q : Int, n = .int .i64 q ∧ 0 ≤ q ∧ Hid (q = k0 + 1 * (k : Int)) ∧ Below w.heap.size w wr) (fun _ i _ => xs.length - (intOf i).toNat)
  case atStart => exact ⟨0, Nat.zero_le _, rfl, k0, rfl, h0, by show _ = _; omega, Below.refl _ _⟩
  case round =>
    obtain ⟨k, hk, rfl, q, rfl, hq0, HQ, hb⟩ := hrel
    by_cases hlt : k < xs.length
    · have hq1 : q + 1 ≤ 1000000000000 := by have := HQ.out; omega
      obtain ⟨b, off, rfl, _⟩ := hx.at_ hlt
      have hget : xs[k] = mkString (k0 + 1 * (k : Int)) := by
        have hxs := HXS.out
        subst hxs
        exact marksString_get _ _ _ _
      rw [← HQ.out] at hget
      have HG := Lib.hid hget
      clear hget
      have hc0 : wr.cell? ⟨b, off + k, none⟩ = some (.string (mt (q))) := by
        have h := (hx.below' hb).atk hlt (j := 0) (by decide)
        rw [HG.out, show off + k * fStr.n + 0 = off + k from by (show off + k * 1 + 0 = _); omega] at h
        exact h
      have gc0 := cell_regrown hc0
      clear hc0
      have cq : ∀ d os, Calls Tryz.prog 40 #[.int .i64 (q)] (Go.Sort.grow (redrawn wr d) os) fun e w'' => e = .returned (.string (mt (q))) ∧ ∃ p : Regrown, w'' = Go.Sort.grow (redrawn wr p.d) p.os := fun d os => Calls.regrown_of (markText_any _ _ (by omega))
      go_wp2_with fail
      refine wp_region_quiet_below (by kernel_rfl) (by kernel_rfl) ?_
      repeat (quiet_step (exact cq _ _))
      refine wpQuiet_nil ?_
      intro _ hw'
      obtain ⟨⟨dq, osq⟩, hw''⟩ := hw'
      subst hw''
      have hbq := below_regrown wr dq osq
      clear gc0 cq
      generalize Go.Sort.grow (redrawn wr dq) osq = wq0 at *
      have hbb := hb.trans (hbq.mono hb.size)
      clear hb hbq
      have hb := hbb
      clear hbb
      go_wp2
      go_roundw
      case rel => exact ⟨k + 1, by omega, by go_num, q + 1, by go_num, by omega, by have := HQ.out; show _ = _; omega, hb⟩
      case measure => simp [intOf]; omega
    · have hk' : k = xs.length := by omega
      go_wp2
      go_ret
      exact ⟨ret_int (by rw [HQ.out, hk', HN.out]), hb⟩

end Go.Proofs.YtgnbhcgagdfaiaaGreatDoor

namespace Go.Proofs.YtgnbhcgagdfaiaaGreatDoor
open Go.RowKit
set_option linter.unusedVariables false

/-! ### lists of strings in order -/
def Srt (L : List ByteArray) : Prop := L.Pairwise (fun a b => ltS b a = false)
def srtF (L : List ByteArray) : List ByteArray := L.mergeSort (fun a b => !ltS b a)
theorem leS_trans {a b c : ByteArray} (h1 : ltS b a = false) (h2 : ltS c b = false) : ltS c a = false := by
  cases h : ltS c a with
  | false => rfl
  | true =>
    cases h3 : ltS b c with
    | true => have := ltS_trans h3 h; rw [this] at h1; cases h1
    | false =>
      have := ltS_tri h3 h2
      subst this
      rw [h] at h1; cases h1
theorem leS_total (a b : ByteArray) : (!ltS b a || !ltS a b) = true := by
  cases h : ltS b a with
  | false => rfl
  | true => rw [ltS_asymm h]; rfl
theorem srtF_perm (L : List ByteArray) : (srtF L).Perm L := List.mergeSort_perm _ _
theorem srtF_srt (L : List ByteArray) : Srt (srtF L) := by
  have h := List.pairwise_mergeSort (le := fun a b => !ltS b a) (fun a b c h1 h2 => by simp at *; exact leS_trans h1 h2) leS_total L
  exact h.imp (fun h => by simpa using h)
theorem srt_unique {a b : List ByteArray} (ha : Srt a) (hb : Srt b) (h : a.Perm b) : a = b :=
  List.Perm.eq_of_pairwise (fun x y _ _ h1 h2 => ltS_tri h2 h1) ha hb h
theorem srtF_of {a L : List ByteArray} (ha : Srt a) (h : a.Perm L) : a = srtF L := srt_unique ha (srtF_srt L) (h.trans (srtF_perm L).symm)
theorem srtF_len (L : List ByteArray) : (srtF L).length = L.length := (srtF_perm L).length_eq
/-- x put in behind the first k of A. -/
theorem srt_insert {A : List ByteArray} {x : ByteArray} {k : Nat} (hA : Srt A) (h1 : ∀ y ∈ A.take k, ltS x y = false) (h2 : ∀ y ∈ A.drop k, ltS y x = false) : Srt (A.take k ++ x :: A.drop k) := by
  unfold Srt at *
  rw [List.pairwise_append, List.pairwise_cons]
  refine ⟨hA.take, ⟨h2, hA.drop⟩, ?_⟩
  intro a ha b hb
  rcases List.mem_cons.1 hb with rfl | hb
  · exact h1 a ha
  · rw [← List.take_append_drop k A, List.pairwise_append] at hA
    exact hA.2.2 a ha b hb
theorem srt_below {A : List ByteArray} {x : ByteArray} {k : Nat} (hA : Srt A) (hk : k < A.length) (h : ltS x A[k] = false) : ∀ y ∈ A.take (k + 1), ltS x y = false := by
  intro y hy
  obtain ⟨m, hm, rfl⟩ := List.getElem_of_mem hy
  simp at hm
  rw [List.getElem_take]
  rcases Nat.lt_or_ge m k with h2 | h2
  · exact leS_trans (List.pairwise_iff_getElem.1 hA m k (by omega) hk h2) h
  · obtain rfl : m = k := by omega
    exact h
theorem srt_take1 : ∀ L : List ByteArray, Srt (L.take 1)
  | [] => List.Pairwise.nil
  | x :: L => by simp [Srt]
theorem gtS_cases (a b : ByteArray) : (ltS b a = false ∧ Op.bytesLess a.toList b.toList = true) ∨ (ltS b a = false ∧ Op.bytesLess a.toList b.toList = false ∧ (a.toList == b.toList) = true) ∨ (ltS b a = true ∧ Op.bytesLess a.toList b.toList = false ∧ (a.toList == b.toList) = false) := by
  cases h : ltS b a with
  | true =>
    refine .inr (.inr ⟨rfl, ltS_asymm h, bytes_beq_false (fun e => ?_)⟩)
    subst e; rw [ltS_irrefl] at h; cases h
  | false =>
    cases h1 : ltS a b with
    | true => exact .inl ⟨rfl, h1⟩
    | false => exact .inr (.inl ⟨rfl, h1, eqS_true.2 (ltS_tri h1 h)⟩)
/-- The rows of the insertion: x at place k of A, R behind. -/
def insL (A : List ByteArray) (x : ByteArray) (R : List ByteArray) (k : Nat) : List ByteArray := A.take k ++ x :: (A.drop k ++ R)
theorem insL_len {A R : List ByteArray} {x : ByteArray} {k : Nat} (hk : k ≤ A.length) : (insL A x R k).length = A.length + 1 + R.length := by
  unfold insL; simp; omega
theorem insL_at {A R : List ByteArray} {x : ByteArray} {k : Nat} (hk : k ≤ A.length) : (insL A x R k)[k]? = some x := by
  unfold insL; rw [List.getElem?_append_right (by simp; omega)]; simp [Nat.min_eq_left hk]
theorem insL_before {A R : List ByteArray} {x : ByteArray} {k : Nat} (hk : k + 1 ≤ A.length) : (insL A x R (k + 1))[k]? = some A[k] := by
  unfold insL; rw [List.getElem?_append_left (by simp; omega)]; simp
theorem insL_swap {A R : List ByteArray} {x : ByteArray} {k : Nat} (hk : k + 1 ≤ A.length) : ((insL A x R (k + 1)).set (k + 1) A[k]).set k x = insL A x R k := by
  apply List.ext_getElem?
  intro j
  have hl : (A.take (k + 1)).length = k + 1 := by simp; omega
  have hl2 : (A.take k).length = k := by simp; omega
  have hd : A.drop k = A[k] :: A.drop (k + 1) := List.drop_eq_getElem_cons (by omega)
  unfold insL
  rw [List.getElem?_set, List.getElem?_set]
  simp only [List.length_set, List.length_append, hl, List.length_cons, List.length_drop]
  by_cases h1 : k = j
  · subst h1
    rw [if_pos rfl, if_pos (by omega), List.getElem?_append_right (by omega), hl2]
    simp
  · rw [if_neg h1]
    by_cases h2 : k + 1 = j
    · subst h2
      rw [if_pos rfl, if_pos (by omega), List.getElem?_append_right (by omega), hl2, hd]
      generalize A[k] = a
      generalize A.drop (k + 1) = D
      simp
    · rw [if_neg h2]
      rcases Nat.lt_or_ge j k with h3 | h3
      · rw [List.getElem?_append_left (by omega), List.getElem?_append_left (by omega), List.getElem?_take, List.getElem?_take, if_pos (by omega), if_pos h3]
      · rw [List.getElem?_append_right (by omega), List.getElem?_append_right (by omega), hl, hl2, hd]
        obtain ⟨d, rfl⟩ : ∃ d, j = k + 2 + d := ⟨j - k - 2, by omega⟩
        rw [show k + 2 + d - (k + 1) = d + 1 by omega, show k + 2 + d - k = d + 1 + 1 by omega]
        generalize A[k] = a
        generalize A.drop (k + 1) = D
        simp
theorem insL_perm {A R : List ByteArray} {x : ByteArray} {k : Nat} : (insL A x R k).Perm (A ++ x :: R) := by
  unfold insL
  have h1 : (A.take k ++ x :: (A.drop k ++ R)).Perm (x :: (A.take k ++ (A.drop k ++ R))) := List.perm_middle
  have h2 : (A ++ x :: R).Perm (x :: (A ++ R)) := List.perm_middle
  rw [← List.append_assoc, List.take_append_drop] at h1
  exact h1.trans h2.symm
theorem insL_app {A R : List ByteArray} {x : ByteArray} {k : Nat} : insL A x [] k ++ R = insL A x R k := by unfold insL; simp
theorem insL_full {A R : List ByteArray} {x : ByteArray} : insL A x R A.length = A ++ x :: R := by unfold insL; simp

/-! ### a place of a row of the call's own -/
theorem flat1_set {α : Type} {E : Flat α} (h1 : E.n = 1) : ∀ (L : List α) (k : Nat) (y : α) (u : Value), E.enc y = [u] → (L.flatMap E.enc).set k u = (L.set k y).flatMap E.enc
  | [], k, y, u, hu => by simp
  | x :: L, 0, y, u, hu => by
    have hl := E.len x
    rw [h1] at hl
    obtain ⟨a, ha⟩ := List.length_eq_one_iff.1 hl
    simp [ha, hu]
  | x :: L, k + 1, y, u, hu => by
    have hl := E.len x
    rw [h1] at hl
    obtain ⟨a, ha⟩ := List.length_eq_one_iff.1 hl
    have ih := flat1_set h1 L k y u hu
    simp [ha, ih]
theorem Own.set1 {α : Type} {E : Flat α} (h1 : E.n = 1) {w : World} {base : Nat} {e : TypeId} {g n cap : Nat} {L : List α} (h : Own E w base e (.slice (some ⟨g, 0, none⟩) n cap) L) (k : Nat) (y : α) (u : Value) (hu : E.enc y = [u]) :
    Own E (w.setCell ⟨g, k, none⟩ u) base e (.slice (some ⟨g, 0, none⟩) n cap) (L.set k y) := by
  have hn : n = L.length := by
    rcases h.2 with ⟨hv, _⟩ | ⟨g', cap', cur, hv, _⟩
    · cases hv
    · injection hv
  have h' : w.ownsRow base e E.n (.slice (some ⟨g, 0, none⟩) L.length cap) L.length (L.flatMap E.enc) := by rw [hn] at h; exact h
  have h2 := (h'.stored k u).1
  rw [flat1_set h1 L k y u hu] at h2
  show World.ownsRow _ base e E.n _ (L.set k y).length _
  rw [List.length_set, hn]
  exact h2
theorem Own.cellS {w : World} {base : Nat} {e : TypeId} {g n cap : Nat} {L : List ByteArray} (h : Own fStr w base e (.slice (some ⟨g, 0, none⟩) n cap) L) {k : Nat} {x : ByteArray} (hx : L[k]? = some x) : w.cell? ⟨g, k, none⟩ = some (.string x) := by
  have hn : n = L.length := by
    rcases h.2 with ⟨hv, _⟩ | ⟨g', cap', cur, hv, _⟩
    · cases hv
    · injection hv
  have h' : w.ownsRow base e 1 (.slice (some ⟨g, 0, none⟩) L.length cap) L.length (L.flatMap fStr.enc) := by rw [hn] at h; exact h
  have hk : k < L.length := by
    rcases Nat.lt_or_ge k L.length with h | h
    · exact h
    · rw [List.getElem?_eq_none h] at hx; cases hx
  rw [h'.cellAt k (by omega)]
  have := flat_get fStr.enc 1 L (fun x _ => fStr.len x) k hk 0 (by omega)
  simp only [Nat.mul_one, Nat.add_zero] at this
  rw [this]
  have e1 : L[k] = x := by rw [List.getElem?_eq_getElem hk] at hx; exact Option.some.inj hx
  rw [e1]; rfl
theorem Own.frozenS {α : Type} {E : Flat α} {w : World} {base : Nat} {e : TypeId} {g n cap : Nat} {L : List α} (h : Own E w base e (.slice (some ⟨g, 0, none⟩) n cap) L) (k : Nat) : w.frozen? ⟨g, k, none⟩ = false := by
  have hn : n = L.length := by
    rcases h.2 with ⟨hv, _⟩ | ⟨g', cap', cur, hv, _⟩
    · cases hv
    · injection hv
  have h' : w.ownsRow base e E.n (.slice (some ⟨g, 0, none⟩) L.length cap) L.length (L.flatMap E.enc) := by rw [hn] at h; exact h
  exact h'.frozenAt k
/-- The end of a call that hands back a row of its own. -/
def OwnRS {α : Type} (E : Flat α) (T : TypeId) (w : World) (xs : List α) (e : Ending) (w' : World) : Prop := ∃ v, e = .returned v ∧ Own E w' w.heap.size T v xs ∧ Below w.heap.size w w'
theorem infoStr3 : (Tryz.prog.info? 9).map (fun i => (i.zero, i.size, i.bytes)) = some (some (.string ⟨#[]⟩), 1, 16) := by kernel_rfl

end Go.Proofs.YtgnbhcgagdfaiaaGreatDoor

namespace Go.Proofs.YtgnbhcgagdfaiaaGreatDoor
open Go.RowKit
set_option linter.unusedVariables false

/-- The digits, none for 0. -/
def dig (u : Nat) : List UInt8 := if h : u = 0 then [] else dig (u / 10) ++ [UInt8.ofNat (48 + u % 10)]
termination_by u
decreasing_by omega
theorem dig_zero : dig 0 = [] := by rw [dig, dif_pos rfl]
theorem dig_step {u : Nat} (h : u ≠ 0) : dig u = dig (u / 10) ++ [UInt8.ofNat (48 + u % 10)] := by rw [dig, dif_neg h]
theorem dig_dec : ∀ (u : Nat), u ≠ 0 → Lib.decDigits u = dig u := by
  intro u
  induction u using Nat.strongRecOn with
  | _ u ih =>
    intro h
    rw [dig_step h, Lib.decDigits]
    by_cases h1 : u < 10
    · rw [dif_pos h1, Nat.div_eq_of_lt h1, dig_zero, Nat.mod_eq_of_lt h1]; rfl
    · rw [dif_neg h1, ih (u / 10) (by omega) (by omega)]
theorem dig_len : ∀ (k u : Nat), u < 10 ^ k → (dig u).length ≤ k
  | 0, u, h => by rw [Nat.pow_zero] at h; obtain rfl : u = 0 := (by omega); rw [dig_zero]; exact Nat.le_refl _
  | k + 1, u, h => by
    by_cases h0 : u = 0
    · subst h0; rw [dig_zero]; simp
    · rw [dig_step h0, List.length_append]
      have := dig_len k (u / 10) (by rw [Nat.pow_succ] at h; omega)
      simp; omega
def decS (n : Int) : ByteArray := ⟨(Lib.itoa n).toArray⟩
theorem decS_zero : decS 0 = ⟨#[48]⟩ := by unfold decS Lib.itoa; rw [if_neg (by decide), show (0 : Int).toNat = 0 from rfl, Lib.decDigits, dif_pos (by decide)]; rfl
theorem itoa_ne {n : Int} (h : n ≠ 0) : Lib.itoa n = (if n < 0 then [45] else []) ++ dig n.natAbs := by
  unfold Lib.itoa
  by_cases h1 : n < 0
  · rw [if_pos h1, if_pos h1, dig_dec _ (by omega)]; rfl
  · rw [if_neg h1, if_neg h1, show n.toNat = n.natAbs by omega, dig_dec _ (by omega)]; rfl
theorem Own.cellB {w : World} {base : Nat} {e : TypeId} {g n cap : Nat} {L : List UInt8} (h : Own fByte w base e (.slice (some ⟨g, 0, none⟩) n cap) L) {k : Nat} {x : UInt8} (hx : L[k]? = some x) : w.cell? ⟨g, k, none⟩ = some (.int .u8 x.toNat) := by
  have hn : n = L.length := by
    rcases h.2 with ⟨hv, _⟩ | ⟨g', cap', cur, hv, _⟩
    · cases hv
    · injection hv
  have h' : w.ownsRow base e 1 (.slice (some ⟨g, 0, none⟩) L.length cap) L.length (L.flatMap fByte.enc) := by rw [hn] at h; exact h
  have hk : k < L.length := by
    rcases Nat.lt_or_ge k L.length with h | h
    · exact h
    · rw [List.getElem?_eq_none h] at hx; cases hx
  rw [h'.cellAt k (by omega)]
  have := flat_get fByte.enc 1 L (fun x _ => fByte.len x) k hk 0 (by omega)
  simp only [Nat.mul_one, Nat.add_zero] at this
  rw [this]
  have e1 : L[k] = x := by rw [List.getElem?_eq_getElem hk] at hx; exact Option.some.inj hx
  rw [e1]; rfl
set_option maxRecDepth 100000 in
theorem infoU8d : (Tryz.prog.info? 5).map (fun i => (i.zero, i.size, i.bytes)) = some (some (.int .u8 0), 1, 1) := by kernel_rfl
set_option maxRecDepth 100000 in
/-- What a row of bytes of the call's own is as a text. -/
theorem Own.text {w : World} {base : Nat} {v : Value} {L : List UInt8} (h : Own fByte w base 5 v L) : (convert 34 9 v).run Tryz.prog w = .ok (.string ⟨L.toArray⟩) w := by
  obtain ⟨A, cap, rfl⟩ := h.form
  cases A with
  | none =>
    rcases h.2 with ⟨hv, hz⟩ | ⟨g', cap', cur, hv, _⟩
    · have : L = [] := List.eq_nil_of_length_eq_zero hz
      subst this
      show _ = Result.ok (Value.string ByteArray.empty) w
      exact run_convert_bytes_nil w _ _ Tryz.underlying34 Tryz.underlying5 _ _ _ Tryz.underlying9
    · cases hv
  | some A =>
    rcases h.2 with ⟨hv, _⟩ | ⟨g', cap', cur, hv, _⟩
    · cases hv
    · injection hv with h1 h2 h3
      injection h1 with h1
      subst h1
      refine run_convert_bytes_back w _ _ _ _ cap L Tryz.underlying34 Tryz.underlying5 Tryz.underlying9 (fun j hj => ?_)
      have h4 := h.cellB (k := j) (x := L[j]) (by simp [hj])
      have e : (⟨g', 0, none⟩ : Addr).add j = ⟨g', j, none⟩ := by unfold Addr.add; split <;> simp_all
      rw [e]; exact h4
theorem dig_pos {u : Nat} (h : u ≠ 0) : 0 < (dig u).length := by rw [dig_step h]; simp
theorem Own.addr {α : Type} {E : Flat α} {w : World} {base : Nat} {e : TypeId} {v : Value} {L : List α} (h : Own E w base e v L) (hne : 0 < L.length) : ∃ g cap, v = .slice (some ⟨g, 0, none⟩) L.length cap := by
  rcases h.2 with ⟨hv, hz⟩ | ⟨g', cap', cur, hv, _⟩
  · omega
  · exact ⟨g', cap', hv⟩
theorem digit_neg (u : Int) (h : u.tmod 10 < 0) : wrap64 (48 + wrap64 (-u.tmod 10)) % 256 = ((UInt8.ofNat (48 + u.natAbs % 10)).toNat : Int) := by
  have h1 : (u.tmod 10).natAbs = u.natAbs % 10 := Int.natAbs_tmod u 10
  rw [UInt8.toNat_ofNat']
  generalize u.tmod 10 = t at *
  generalize u.natAbs = a at *
  unfold wrap64
  omega
theorem digit_pos (u : Int) (h : ¬ u.tmod 10 < 0) : wrap64 (48 + u.tmod 10) % 256 = ((UInt8.ofNat (48 + u.natAbs % 10)).toNat : Int) := by
  have h1 : (u.tmod 10).natAbs = u.natAbs % 10 := Int.natAbs_tmod u 10
  rw [UInt8.toNat_ofNat']
  generalize u.tmod 10 = t at *
  generalize u.natAbs = a at *
  unfold wrap64
  omega
theorem dig_push {n u : Nat} {D : List UInt8} (hu : u ≠ 0) (h : dig n = dig u ++ D.reverse) : dig n = dig (u / 10) ++ (D ++ [UInt8.ofNat (48 + u % 10)]).reverse := by
  rw [h, dig_step hu]; simp
theorem dig_dlen {n u : Nat} {D : List UInt8} (hn : n ≤ 9223372036854775808) (h : dig n = dig u ++ D.reverse) : D.length ≤ 20 := by
  have h1 := dig_len 20 n (by omega)
  rw [h, List.length_append, List.length_reverse] at h1; omega
set_option maxRecDepth 100000 in
set_option maxHeartbeats 2000000 in
theorem l01Dec_any (n : Int) (w : World) (h0 : -9223372036854775808 ≤ n) (h1 : n ≤ 9223372036854775807) :
    Calls Tryz.prog 31 #[.int .i64 n] w fun e w' => e = .returned (.string (decS n)) ∧ Below w.heap.size w w' := by
  by_cases hz : n = 0
  · have e0 : (n == 0) = true := by rw [beq_iff_eq]; exact hz
    go_enter Tryz.func31, Tryz.ntmps31
    go_wp2
    go_ret
    exact ⟨by rw [show decS n = ⟨#[48]⟩ from by rw [hz]; exact decS_zero]; rfl, Below.refl _ _⟩
  · obtain ⟨i0, hi, hz0, hz1, hz2⟩ := info_parts infoU8d
    have hB0 : Below w.heap.size w (w.alloc (.cells #[] 5)) := (Below.refl _ _).alloc (Nat.le_refl _) _
    have e0 : (n == 0) = false := by rw [beq_eq_false_iff_ne]; exact hz
    go_enter Tryz.func31, Tryz.ntmps31
    go_wp2
    go_loopw [3, 4] (fun v m wr => ∃ (u : Int) (D : List UInt8), m = .int .i64 u ∧ (-9223372036854775808 ≤ u ∧ u ≤ 9223372036854775807) ∧ D.length ≤ 20 ∧ Hid (dig n.natAbs = dig u.natAbs ++ D.reverse) ∧ Own fByte wr w.heap.size 5 v D ∧ Below w.heap.size w wr) (fun _ m _ => (intOf m).natAbs)
    case atStart => exact ⟨n, [], rfl, ⟨h0, h1⟩, by simp, by show _ = _; simp, Own.lit0m fByte (Nat.le_refl _), hB0⟩
    case round =>
      obtain ⟨u, D, rfl, ⟨hu0, hu1⟩, hD, HS, ho, hb⟩ := hrel
      have hoW : wr.ownsRow w.heap.size 5 1 u3 D.length (D.flatMap fByte.enc) := ho
      have hs2 := hb.size
      by_cases hu : u = 0
      · subst hu
        have HZ : Hid (dig n.natAbs = D.reverse) := by have := HS.out; rw [show (0 : Int).natAbs = 0 from rfl, dig_zero] at this; exact this
        have e1 : ((0 : Int) == 0) = true := rfl
        by_cases hn : n < 0
        · clear ho
          go_wp2_with (at_builtin; refine wpList_append_one rfl _ _ 34 rfl w.heap.size 5 i0 (.int .u8 0) 1 1 Tryz.underlying34 hi hz0 hz1 hz2 rfl (by decide) u3 D.length _ rfl hoW [.int .u8 (45)] rfl (by intro u hu; rw [List.mem_singleton] at hu; subst hu; rfl) rfl (by omega) (by decide) hs2 ?_)
          intro v' w1 hown hbu _ _
          have hbu' := hb.trans hbu
          have hoD : Own fByte w1 w.heap.size 5 v' (D ++ [45]) := Own.push _ rfl hown
          clear hown
          obtain ⟨DD, hDD⟩ : ∃ E, E = D ++ [45] := ⟨_, rfl⟩
          have hDl : DD.length ≤ 21 := by rw [hDD]; simp; omega
          have hDp : 0 < DD.length := by rw [hDD]; simp
          rw [← hDD] at hoD
          have HDD := Lib.hid hDD
          clear hDD
          obtain ⟨oa, oc, rfl⟩ := hoD.addr hDp
          obtain ⟨W2, rfl⟩ : ∃ W, W = w1 := ⟨w1, rfl⟩
          go_wp2
          have hBW : Below W2.heap.size W2 (W2.alloc (.cells #[] 5)) := (Below.refl _ _).alloc (Nat.le_refl _) _
          go_loopw [6, 7] (fun v j wr => ∃ (k : Nat) (O : List UInt8), k ≤ DD.length ∧ j = .int .i64 ((k : Int) - 1) ∧ O.length ≤ 30 ∧ Hid (O = (DD.drop k).reverse) ∧ Own fByte wr W2.heap.size 5 v O ∧ Below W2.heap.size W2 wr) (fun _ j _ => (intOf j + 1).toNat)
          case atStart => exact ⟨DD.length, [], Nat.le_refl _, by first | rfl | (simp; done) | go_num, by simp, by show _ = _; simp, Own.lit0m fByte (Nat.le_refl _), hBW⟩
          case round =>
            obtain ⟨k, O, hk, rfl, hO, HO, hoO, hb2⟩ := hrel
            by_cases hk0 : k = 0
            · subst hk0
              have hfin : O = Lib.itoa n := by rw [HO.out, List.drop_zero]; rw [itoa_ne hz, if_pos (by omega), HZ.out, HDD.out]; simp
              have hcv := hoO.text
              have HF := Lib.hid hfin
              clear hfin
              go_wp2
              go_ret
              exact ⟨by rw [HF.out]; rfl, hbu'.trans (hb2.mono hbu'.size)⟩
            · obtain ⟨k, rfl⟩ : ∃ q, k = q + 1 := ⟨k - 1, by omega⟩
              have hkl : k < DD.length := by omega
              have hc0 := (hoD.below hb2).cellB (k := k) (x := DD[k]) (List.getElem?_eq_getElem hkl)
              have hoW : wr.ownsRow W2.heap.size 5 1 u6 O.length (O.flatMap fByte.enc) := hoO
              have hs2 := hb2.size
              have HO2 : Hid (O ++ [DD[k]] = (DD.drop k).reverse) := by
                show _ = _
                rw [HO.out, List.drop_eq_getElem_cons hkl, List.reverse_cons]
              have HOL : (O ++ [DD[k]]).length ≤ 30 := by rw [HO2.out]; simp; omega
              clear hoO
              rw [show (((k + 1 : Nat) : Int) - 1) = (k : Int) by omega]
              go_wp2_with (at_builtin; refine wpList_append_one rfl _ _ 34 rfl W2.heap.size 5 i0 (.int .u8 0) 1 1 Tryz.underlying34 hi hz0 hz1 hz2 rfl (by decide) u6 O.length _ rfl hoW [.int .u8 (DD[k].toNat : Int)] rfl (by intro u hu; rw [List.mem_singleton] at hu; subst hu; rfl) rfl (by omega) (by decide) hs2 ?_)
              intro v'' w3 hown hbu2 _ _
              have hb3 := hb2.trans hbu2
              have hoO3 : Own fByte w3 W2.heap.size 5 v'' (O ++ [DD[k]]) := Own.push _ rfl hown
              clear hown
              go_wp2
              go_roundw
              case measure => simp [intOf]
              case rel => exact ⟨k, O ++ [DD[k]], by omega, by go_num, HOL, HO2, hoO3, hb3⟩
        · have hoD := ho
          clear ho hoW
          have hDp : 0 < D.length := by have := dig_pos (u := n.natAbs) (by omega); rw [HZ.out] at this; simpa using this
          obtain ⟨oa, oc, rfl⟩ := hoD.addr hDp
          obtain ⟨W2, rfl⟩ : ∃ W, W = wr := ⟨wr, rfl⟩
          go_wp2
          have hBW : Below W2.heap.size W2 (W2.alloc (.cells #[] 5)) := (Below.refl _ _).alloc (Nat.le_refl _) _
          go_loopw [6, 7] (fun v j wr => ∃ (k : Nat) (O : List UInt8), k ≤ D.length ∧ j = .int .i64 ((k : Int) - 1) ∧ O.length ≤ 30 ∧ Hid (O = (D.drop k).reverse) ∧ Own fByte wr W2.heap.size 5 v O ∧ Below W2.heap.size W2 wr) (fun _ j _ => (intOf j + 1).toNat)
          case atStart => exact ⟨D.length, [], Nat.le_refl _, by first | rfl | (simp; done) | go_num, by simp, by show _ = _; simp, Own.lit0m fByte (Nat.le_refl _), hBW⟩
          case round =>
            obtain ⟨k, O, hk, rfl, hO, HO, hoO, hb2⟩ := hrel
            by_cases hk0 : k = 0
            · subst hk0
              have hfin : O = Lib.itoa n := by rw [HO.out, List.drop_zero]; rw [itoa_ne hz, if_neg (by omega), HZ.out]; rfl
              have hcv := hoO.text
              have HF := Lib.hid hfin
              clear hfin
              go_wp2
              go_ret
              exact ⟨by rw [HF.out]; rfl, hb.trans (hb2.mono hb.size)⟩
            · obtain ⟨k, rfl⟩ : ∃ q, k = q + 1 := ⟨k - 1, by omega⟩
              have hkl : k < D.length := by omega
              have hc0 := (hoD.below hb2).cellB (k := k) (x := D[k]) (List.getElem?_eq_getElem hkl)
              have hoW : wr.ownsRow W2.heap.size 5 1 u6 O.length (O.flatMap fByte.enc) := hoO
              have hs2 := hb2.size
              have HO2 : Hid (O ++ [D[k]] = (D.drop k).reverse) := by
                show _ = _
                rw [HO.out, List.drop_eq_getElem_cons hkl, List.reverse_cons]
              have HOL : (O ++ [D[k]]).length ≤ 30 := by rw [HO2.out]; simp; omega
              clear hoO
              rw [show (((k + 1 : Nat) : Int) - 1) = (k : Int) by omega]
              go_wp2_with (at_builtin; refine wpList_append_one rfl _ _ 34 rfl W2.heap.size 5 i0 (.int .u8 0) 1 1 Tryz.underlying34 hi hz0 hz1 hz2 rfl (by decide) u6 O.length _ rfl hoW [.int .u8 (D[k].toNat : Int)] rfl (by intro u hu; rw [List.mem_singleton] at hu; subst hu; rfl) rfl (by omega) (by decide) hs2 ?_)
              intro v'' w3 hown hbu2 _ _
              have hb3 := hb2.trans hbu2
              have hoO3 : Own fByte w3 W2.heap.size 5 v'' (O ++ [D[k]]) := Own.push _ rfl hown
              clear hown
              go_wp2
              go_roundw
              case measure => simp [intOf]
              case rel => exact ⟨k, O ++ [D[k]], by omega, by go_num, HOL, HO2, hoO3, hb3⟩
      · have e1 : (u == 0) = false := by rw [beq_eq_false_iff_ne]; exact hu
        have hd1 : (u.tdiv 10).natAbs = u.natAbs / 10 := Int.natAbs_tdiv u 10
        have hd2 : -9223372036854775808 ≤ u.tdiv 10 ∧ u.tdiv 10 ≤ 9223372036854775807 := by generalize u.tdiv 10 = t at *; omega
        have HS2 : Hid (dig n.natAbs = dig (u.tdiv 10).natAbs ++ (D ++ [UInt8.ofNat (48 + u.natAbs % 10)]).reverse) := by show _ = _; rw [hd1]; exact dig_push (by omega) HS.out
        have HL : (D ++ [UInt8.ofNat (48 + u.natAbs % 10)]).length ≤ 20 := dig_dlen (by omega) HS2.out
        by_cases hs : u.tmod 10 < 0
        · clear ho
          go_wp2_with (at_builtin; refine wpList_append_one rfl _ _ 34 rfl w.heap.size 5 i0 (.int .u8 0) 1 1 Tryz.underlying34 hi hz0 hz1 hz2 rfl (by decide) u3 D.length _ rfl hoW [.int .u8 (wrap64 (48 + wrap64 (-u.tmod 10)) % 256)] rfl (by intro u hu; rw [List.mem_singleton] at hu; subst hu; rfl) rfl (by omega) (by decide) hs2 ?_)
          intro v' w1 hown hbu _ _
          have hbu' := hb.trans hbu
          have ev : wrap64 (48 + wrap64 (-u.tmod 10)) % 256 = ((UInt8.ofNat (48 + u.natAbs % 10)).toNat : Int) := digit_neg u hs
          have ho2 : Own fByte w1 w.heap.size 5 v' (D ++ [UInt8.ofNat (48 + u.natAbs % 10)]) := by rw [ev] at hown; exact Own.push _ rfl hown
          clear hown
          go_wp2
          go_roundw
          case measure => show (u.tdiv 10).natAbs < u.natAbs; rw [hd1]; omega
          case rel => exact ⟨u.tdiv 10, D ++ [UInt8.ofNat (48 + u.natAbs % 10)], by go_num, hd2, HL, HS2, ho2, hbu'⟩
        · clear ho
          go_wp2_with (at_builtin; refine wpList_append_one rfl _ _ 34 rfl w.heap.size 5 i0 (.int .u8 0) 1 1 Tryz.underlying34 hi hz0 hz1 hz2 rfl (by decide) u3 D.length _ rfl hoW [.int .u8 (wrap64 (48 + u.tmod 10) % 256)] rfl (by intro u hu; rw [List.mem_singleton] at hu; subst hu; rfl) rfl (by omega) (by decide) hs2 ?_)
          intro v' w1 hown hbu _ _
          have hbu' := hb.trans hbu
          have ev : wrap64 (48 + u.tmod 10) % 256 = ((UInt8.ofNat (48 + u.natAbs % 10)).toNat : Int) := digit_pos u (by omega)
          have ho2 : Own fByte w1 w.heap.size 5 v' (D ++ [UInt8.ofNat (48 + u.natAbs % 10)]) := by rw [ev] at hown; exact Own.push _ rfl hown
          clear hown
          go_wp2
          go_roundw
          case measure => show (u.tdiv 10).natAbs < u.natAbs; rw [hd1]; omega
          case rel => exact ⟨u.tdiv 10, D ++ [UInt8.ofNat (48 + u.natAbs % 10)], by go_num, hd2, HL, HS2, ho2, hbu'⟩

end Go.Proofs.YtgnbhcgagdfaiaaGreatDoor

namespace Go.Proofs.YtgnbhcgagdfaiaaGreatDoor
open Go.RowKit
set_option linter.unusedVariables false

def digB (c : UInt8) : Bool := decide (48 ≤ c.toNat) && decide (c.toNat ≤ 57)
def valL (a : Nat) (l : List UInt8) : Nat := l.foldl (fun n c => 10 * n + (c.toNat - 48)) a
theorem valL_nil (a : Nat) : valL a [] = a := rfl
theorem valL_cons (a : Nat) (c : UInt8) (l : List UInt8) : valL a (c :: l) = valL (10 * a + (c.toNat - 48)) l := by unfold valL; rw [List.foldl_cons]
theorem valL_snoc (a : Nat) (l : List UInt8) (c : UInt8) : valL a (l ++ [c]) = 10 * valL a l + (c.toNat - 48) := by
  unfold valL; rw [List.foldl_append]; rfl
theorem digB_of (k : Nat) : digB (UInt8.ofNat (48 + k % 10)) = true := by
  unfold digB; rw [UInt8.toNat_ofNat']
  simp only [Bool.and_eq_true, decide_eq_true_eq]; omega
theorem digB_val (k : Nat) : (UInt8.ofNat (48 + k % 10)).toNat - 48 = k % 10 := by
  rw [UInt8.toNat_ofNat']; omega
theorem dig_all : ∀ u, (dig u).all digB = true := by
  intro u
  induction u using Nat.strongRecOn with
  | _ u ih =>
    by_cases h : u = 0
    · subst h; rw [dig_zero]; rfl
    · rw [dig_step h, List.all_append, ih (u / 10) (by omega)]
      simp only [List.all_cons, List.all_nil, Bool.and_true, Bool.true_and]
      exact digB_of u
theorem dig_val : ∀ u, valL 0 (dig u) = u := by
  intro u
  induction u using Nat.strongRecOn with
  | _ u ih =>
    by_cases h : u = 0
    · subst h; rw [dig_zero]; rfl
    · rw [dig_step h, valL_snoc, ih (u / 10) (by omega), digB_val]; omega
theorem dig_ge : ∀ (k u : Nat), 10 ^ k ≤ u → k + 1 ≤ (dig u).length
  | 0, u, h => by
    rw [Nat.pow_zero] at h
    rw [dig_step (by omega)]; simp
  | k + 1, u, h => by
    have hp : 0 < 10 ^ k := Nat.pow_pos (by decide)
    rw [Nat.pow_succ] at h
    have := dig_ge k (u / 10) (by omega)
    rw [dig_step (by omega), List.length_append]; simp; omega
theorem dig_lt {k u : Nat} (h : (dig u).length ≤ k) : u < 10 ^ k := by
  rcases Nat.lt_or_ge u (10 ^ k) with h1 | h1
  · exact h1
  · have := dig_ge k u h1; omega
theorem dig_head : ∀ u, (dig u).head? ≠ some 48 := by
  intro u
  induction u using Nat.strongRecOn with
  | _ u ih =>
    by_cases h : u = 0
    · subst h; rw [dig_zero]; simp
    · rw [dig_step h]
      by_cases h1 : u / 10 = 0
      · rw [h1, dig_zero]
        simp only [List.nil_append, List.head?_cons, ne_eq, Option.some.injEq]
        intro e
        have e2 := congrArg UInt8.toNat e
        rw [UInt8.toNat_ofNat'] at e2
        have : (48 : UInt8).toNat = 48 := rfl
        omega
      · have ih1 := ih (u / 10) (by omega)
        rw [dig_step h1] at ih1 ⊢
        rw [List.head?_append] at ih1 ⊢
        simp only [List.head?_append] at ih1 ⊢
        revert ih1
        generalize (dig (u / 10 / 10)).head? = o
        cases o <;> simp
theorem dig_first (u : Nat) (h : u ≠ 0) : ∃ c r, dig u = c :: r := by
  rcases hd : dig u with _ | ⟨c, r⟩
  · rw [dig_step h] at hd; simp at hd
  · exact ⟨c, r, rfl⟩
/-- Digits that do not begin with 0 spell their number's digits. -/
theorem dig_back : ∀ (n : Nat) (l : List UInt8), l.length = n → l.all digB = true → l.head? ≠ some 48 → dig (valL 0 l) = l ∧ (l ≠ [] → valL 0 l ≠ 0) := by
  intro n
  induction n with
  | zero => intro l hl _ _; obtain rfl := List.eq_nil_of_length_eq_zero hl; exact ⟨by rw [valL_nil, dig_zero], fun h => absurd rfl h⟩
  | succ n ih =>
    intro l hl ha hh
    obtain ⟨p, c, rfl⟩ : ∃ p c, l = p ++ [c] := ⟨l.dropLast, l.getLast (by intro h; subst h; simp at hl), (List.dropLast_concat_getLast _).symm⟩
    rw [List.all_append] at ha
    simp only [List.all_cons, List.all_nil, Bool.and_true, Bool.and_eq_true] at ha
    obtain ⟨ha1, ha2⟩ := ha
    unfold digB at ha2
    simp only [Bool.and_eq_true, decide_eq_true_eq] at ha2
    have hpl : p.length = n := by simp at hl; exact hl
    rw [valL_snoc]
    rcases Nat.eq_zero_or_pos n with h0 | h0
    · obtain rfl : p = [] := List.eq_nil_of_length_eq_zero (by omega)
      have hc : c.toNat ≠ 48 := by
        intro e
        refine hh ?_
        simp only [List.nil_append, List.head?_cons, Option.some.injEq]
        exact UInt8.toNat_inj.1 e
      rw [valL_nil]
      refine ⟨?_, fun _ => by omega⟩
      rw [dig_step (by omega), show (10 * 0 + (c.toNat - 48)) / 10 = 0 by omega, dig_zero]
      rw [show 48 + (10 * 0 + (c.toNat - 48)) % 10 = c.toNat by omega, UInt8.ofNat_toNat]
    · have hpn : p ≠ [] := by intro h; subst h; simp at hpl; omega
      have hph : p.head? ≠ some 48 := by
        cases p with
        | nil => exact absurd rfl hpn
        | cons x p => simpa using hh
      obtain ⟨i1, i2⟩ := ih p hpl ha1 hph
      have i3 := i2 hpn
      refine ⟨?_, fun _ => by omega⟩
      rw [dig_step (by omega), show (10 * valL 0 p + (c.toNat - 48)) / 10 = valL 0 p by omega, i1]
      rw [show 48 + (10 * valL 0 p + (c.toNat - 48)) % 10 = c.toNat by omega, UInt8.ofNat_toNat]
theorem valL_lt : ∀ (l : List UInt8) (a k : Nat), l.all digB = true → a < 10 ^ k → valL a l < 10 ^ (k + l.length)
  | [], a, k, _, h => h
  | c :: l, a, k, ha, h => by
    simp only [List.all_cons, Bool.and_eq_true] at ha
    have h1 := ha.1
    unfold digB at h1
    simp only [Bool.and_eq_true, decide_eq_true_eq] at h1
    have := valL_lt l (10 * a + (c.toNat - 48)) (k + 1) ha.2 (by rw [Nat.pow_succ]; omega)
    rw [valL_cons, List.length_cons, show k + (l.length + 1) = k + 1 + l.length by omega]
    exact this

/-- The number behind a sign. -/
def bodyL (l : List UInt8) : List UInt8 := if l.head? = some 45 then l.drop 1 else l
def numL (l : List UInt8) : Option Int :=
  if (bodyL l).isEmpty || decide (18 < (bodyL l).length) || (decide ((bodyL l).head? = some 48) && decide (1 < l.length)) || !(bodyL l).all digB then none
  else some (if l.head? = some 45 then -(valL 0 (bodyL l) : Int) else (valL 0 (bodyL l) : Int))
theorem itoa_natL {u : Nat} (h : u ≠ 0) : Lib.itoa (u : Int) = dig u := by rw [itoa_ne (by omega), if_neg (by omega)]; rfl
theorem itoa_negL {u : Nat} (h : u ≠ 0) : Lib.itoa (-(u : Int)) = 45 :: dig u := by rw [itoa_ne (by omega), if_pos (by omega), Int.natAbs_neg]; rfl
theorem itoa_zeroL : Lib.itoa 0 = [48] := by
  have h := decS_zero
  unfold decS at h
  have := congrArg (fun s : ByteArray => s.data.toList) h
  simpa using this
theorem dig_head45 (u : Nat) : (dig u).head? ≠ some 45 := by
  intro h
  have ha := dig_all u
  cases hd : dig u with
  | nil => rw [hd] at h; cases h
  | cons c r =>
    rw [hd] at h ha
    injection h with h
    subst h
    simp [digB] at ha
theorem itoa_body {v : Int} : (bodyL (Lib.itoa v)).length = if v = 0 then 1 else (dig v.natAbs).length := by
  by_cases h0 : v = 0
  · subst h0; rw [itoa_zeroL, if_pos rfl]; rfl
  · rw [if_neg h0]
    by_cases hn : v < 0
    · obtain ⟨u, rfl⟩ : ∃ u : Nat, v = -(u : Int) := ⟨v.natAbs, by omega⟩
      rw [itoa_negL (by omega), Int.natAbs_neg]; rfl
    · obtain ⟨u, rfl⟩ : ∃ u : Nat, v = (u : Int) := ⟨v.natAbs, by omega⟩
      rw [itoa_natL (by omega)]
      unfold bodyL
      rw [if_neg (dig_head45 u)]; rfl
/-- The number whose decimal form the bytes are. -/
theorem numL_itoa (v : Int) (h : v.natAbs < 10 ^ 18) : numL (Lib.itoa v) = some v := by
  by_cases h0 : v = 0
  · subst h0; rw [itoa_zeroL]; decide
  · have hne : v.natAbs ≠ 0 := by omega
    obtain ⟨c, r, hcr⟩ := dig_first v.natAbs hne
    have hl := dig_len 18 v.natAbs h
    have hv := dig_val v.natAbs
    have hh := dig_head v.natAbs
    have h45 := dig_head45 v.natAbs
    have ha := dig_all v.natAbs
    by_cases hn : v < 0
    · obtain ⟨u, rfl⟩ : ∃ u : Nat, v = -(u : Int) := ⟨v.natAbs, by omega⟩
      rw [Int.natAbs_neg, Int.natAbs_natCast] at *
      rw [itoa_negL (by omega)]
      have hb : bodyL (45 :: dig u) = dig u := rfl
      unfold numL
      rw [hb, if_neg, List.head?_cons, if_pos rfl, hv]
      rw [ha, hcr]
      rw [hcr] at hh hl
      simp only [List.head?_cons, Option.some.injEq, ne_eq] at hh
      simp [hh]; simpa using hl
    · obtain ⟨u, rfl⟩ : ∃ u : Nat, v = (u : Int) := ⟨v.natAbs, by omega⟩
      rw [Int.natAbs_natCast] at *
      rw [itoa_natL (by omega)]
      have hb : bodyL (dig u) = dig u := by unfold bodyL; rw [if_neg h45]
      unfold numL
      rw [hb, if_neg, if_neg h45, hv]
      rw [ha, hcr]
      rw [hcr] at hh hl
      simp only [List.head?_cons, Option.some.injEq, ne_eq] at hh
      simp [hh]; simpa using hl
theorem numL_back {l : List UInt8} {v : Int} (h : numL l = some v) : Lib.itoa v = l ∧ v.natAbs < 10 ^ 18 ∧ (bodyL l).length ≤ 18 := by
  unfold numL at h
  split at h
  · cases h
  · rename_i hc
    simp only [Bool.or_eq_true, decide_eq_true_eq, Bool.and_eq_true, Bool.not_eq_true', not_or, List.isEmpty_iff] at hc
    obtain ⟨⟨⟨h1, h2⟩, h3⟩, h4⟩ := hc
    have ha : (bodyL l).all digB = true := by simpa using h4
    have h18 : (bodyL l).length ≤ 18 := by omega
    have hlt := valL_lt (bodyL l) 0 0 ha (by decide)
    have hlt2 : valL 0 (bodyL l) < 10 ^ 18 := Nat.lt_of_lt_of_le hlt (Nat.pow_le_pow_right (by decide) (by omega))
    injection h with h
    by_cases h45 : l.head? = some 45
    · rw [if_pos h45] at h
      have hb : bodyL l = l.drop 1 := by unfold bodyL; rw [if_pos h45]
      obtain ⟨r, rfl⟩ : ∃ r, l = 45 :: r := by
        cases l with
        | nil => cases h45
        | cons c r => injection h45 with h45; exact ⟨r, by rw [h45]⟩
      rw [show bodyL (45 :: r) = r from rfl] at *
      have h48 : r.head? ≠ some 48 := by
        intro e
        refine h3 ⟨e, ?_⟩
        cases r with
        | nil => exact absurd rfl h1
        | cons _ _ => simp
      obtain ⟨d1, d2⟩ := dig_back _ r rfl ha h48
      have d3 := d2 h1
      refine ⟨?_, by omega, h18⟩
      rw [← h, itoa_negL d3, d1]
    · rw [if_neg h45] at h
      have hb : bodyL l = l := by unfold bodyL; rw [if_neg h45]
      rw [hb] at h h1 h2 h3 ha h18 hlt hlt2
      by_cases h48 : l.head? = some 48
      · have hl1 : l.length = 1 := by
          have hp : l.length ≠ 0 := by intro e; exact h1 (List.eq_nil_of_length_eq_zero e)
          have : ¬ 1 < l.length := fun e => h3 ⟨h48, e⟩
          omega
        match l, hl1, h48 with
        | [c], _, h48 =>
          injection h48 with h48
          subst h48
          subst h
          exact ⟨itoa_zeroL, by decide, by decide⟩
      · obtain ⟨d1, d2⟩ := dig_back _ l rfl ha h48
        have d3 := d2 h1
        refine ⟨?_, by omega, by rw [hb]; exact h18⟩
        rw [← h, itoa_natL d3, d1]
theorem parseUintM_digits (M : Nat) : ∀ (l : List UInt8) (a k : Nat), l.all digB = true → a < 10 ^ k → k + l.length ≤ 18 → 10 ^ 18 ≤ M → Lib.parseUintM M a l = .ok (valL a l)
  | [], a, k, _, _, _, _ => rfl
  | c :: l, a, k, ha, h, hk, hM => by
    simp only [List.all_cons, Bool.and_eq_true] at ha
    have h1 := ha.1
    unfold digB at h1
    simp only [Bool.and_eq_true, decide_eq_true_eq] at h1
    rw [List.length_cons] at hk
    have h10 : a * 10 + (c.toNat - 48) < 10 ^ (k + 1) := by rw [Nat.pow_succ]; omega
    have h18 : 10 ^ (k + 1) ≤ 10 ^ 18 := Nat.pow_le_pow_right (by decide) (by omega)
    have h17 : (10 : Nat) ^ 18 = 1000000000000000000 := by decide
    unfold Lib.parseUintM
    rw [if_pos h1, if_neg (by omega), if_neg (by omega), parseUintM_digits M l _ (k + 1) ha.2 h10 (by omega) hM, valL_cons, Nat.mul_comm]
theorem parse_of_num {l : List UInt8} {v : Int} (h : numL l = some v) : Lib.parseIntB 64 l = .ok v := by
  obtain ⟨e, hv, _⟩ := numL_back h
  subst e
  have h17 : (10 : Nat) ^ 18 = 1000000000000000000 := by decide
  by_cases h0 : v = 0
  · subst h0; rw [itoa_zeroL]; rfl
  · have hne : v.natAbs ≠ 0 := by omega
    obtain ⟨c, r, hcr⟩ := dig_first v.natAbs hne
    have hl := dig_len 18 v.natAbs hv
    have hval := dig_val v.natAbs
    have ha := dig_all v.natAbs
    have h45 := dig_head45 v.natAbs
    have hp := parseUintM_digits (2 ^ 64 - 1) (dig v.natAbs) 0 0 ha (by decide) (by omega) (by decide)
    rw [hval] at hp
    have hpu : Lib.parseUintB 64 (dig v.natAbs) = .ok v.natAbs := by
      unfold Lib.parseUintB; rw [if_neg (by rw [hcr]; simp)]; exact hp
    by_cases hn : v < 0
    · obtain ⟨u, rfl⟩ : ∃ u : Nat, v = -(u : Int) := ⟨v.natAbs, by omega⟩
      rw [Int.natAbs_neg, Int.natAbs_natCast] at *
      rw [itoa_negL (by omega), Lib.parseIntB_minus, hpu]
      unfold Lib.signedC
      simp only
      rw [if_neg (by omega)]
    · obtain ⟨u, rfl⟩ : ∃ u : Nat, v = (u : Int) := ⟨v.natAbs, by omega⟩
      rw [Int.natAbs_natCast] at *
      rw [itoa_natL (by omega), hcr]
      rw [hcr] at ha h45 hpu
      simp only [List.all_cons, Bool.and_eq_true] at ha
      have h1 := ha.1
      unfold digB at h1
      simp only [Bool.and_eq_true, decide_eq_true_eq] at h1
      rw [Lib.parseIntB_plain 64 c r (by omega) (by omega), hpu]
      unfold Lib.signlessC
      simp only
      rw [if_neg (by omega)]
/-- What the program's reading asks: it parses, is short, and spells itself. -/
theorem num_of_parse {l : List UInt8} {v : Int} (h1 : (bodyL l).length ≤ 18) (h2 : Lib.itoa v = l) : numL l = some v := by
  subst h2
  refine numL_itoa v ?_
  have hb := itoa_body (v := v)
  by_cases h0 : v = 0
  · subst h0; decide
  · rw [if_neg h0] at hb
    rw [hb] at h1
    exact dig_lt h1
end Go.Proofs.YtgnbhcgagdfaiaaGreatDoor

namespace Go.Proofs.YtgnbhcgagdfaiaaGreatDoor
open Go.RowKit
set_option linter.unusedVariables false

/-- The days of a month, or of the year for the month 0. -/
def leapI (y : Int) : Int := if y % 4 = 0 then 1 else 0
def lenM (y m : Int) : Int := if m = 0 then 365 + leapI y else if m = 2 then 28 + leapI y else if m = 4 ∨ m = 6 ∨ m = 9 ∨ m = 11 then 30 else 31
def cumM (y m : Int) : Int := if m = 1 then 0 else if m = 2 then 31 else (if m = 3 then 59 else if m = 4 then 90 else if m = 5 then 120 else if m = 6 then 151 else if m = 7 then 181 else if m = 8 then 212 else if m = 9 then 243 else if m = 10 then 273 else if m = 11 then 304 else if m = 12 then 334 else 365) + leapI y
def yB (y : Int) : Int := 365 * (y - 2000) + (y - 2000 + 3) / 4
def numD (y m d : Int) : Int := yB y + cumM y m + d - 1
def dateOk (y m d : Int) : Prop := (2000 ≤ y ∧ y ≤ 2099) ∧ (1 ≤ m ∧ m ≤ 12) ∧ (1 ≤ d ∧ d ≤ lenM y m)
instance (y m d : Int) : Decidable (dateOk y m d) := by unfold dateOk; infer_instance
theorem leapI_01 (y : Int) : leapI y = 0 ∨ leapI y = 1 := by unfold leapI; split <;> simp
theorem monthC {m : Int} (h1 : 1 ≤ m) (h2 : m ≤ 12) : m = 1 ∨ m = 2 ∨ m = 3 ∨ m = 4 ∨ m = 5 ∨ m = 6 ∨ m = 7 ∨ m = 8 ∨ m = 9 ∨ m = 10 ∨ m = 11 ∨ m = 12 := by omega
theorem cumM_step (y : Int) {m : Int} (h1 : 1 ≤ m) (h2 : m ≤ 12) : cumM y (m + 1) = cumM y m + lenM y m := by
  rcases monthC h1 h2 with h | h | h | h | h | h | h | h | h | h | h | h <;> subst h <;> simp [cumM, lenM] <;> omega
theorem cumM_one (y : Int) : cumM y 1 = 0 := rfl
theorem lenM_pos (y : Int) {m : Int} (h1 : 1 ≤ m) (h2 : m ≤ 12) : 28 ≤ lenM y m ∧ lenM y m ≤ 31 := by
  have := leapI_01 y
  rcases monthC h1 h2 with h | h | h | h | h | h | h | h | h | h | h | h <;> subst h <;> simp [lenM] <;> omega
theorem cumM_bounds (y : Int) {m : Int} (h1 : 1 ≤ m) (h2 : m ≤ 12) : 0 ≤ cumM y m ∧ cumM y m + lenM y m ≤ 365 + leapI y := by
  have := leapI_01 y
  rcases monthC h1 h2 with h | h | h | h | h | h | h | h | h | h | h | h <;> subst h <;> simp [cumM, lenM] <;> omega
theorem cumM_mono (y : Int) {a b : Int} (h1 : 1 ≤ a) (h2 : a < b) (h3 : b ≤ 12) : cumM y a + lenM y a ≤ cumM y b := by
  have := leapI_01 y
  rcases monthC h1 (by omega) with h | h | h | h | h | h | h | h | h | h | h | h <;> subst h <;> rcases monthC (m := b) (by omega) h3 with h | h | h | h | h | h | h | h | h | h | h | h <;> subst h <;> first | omega | (simp [cumM, lenM] <;> omega)
theorem lenM_zero (y : Int) : lenM y 0 = 365 + leapI y := rfl
theorem yB_step (y : Int) : yB (y + 1) = yB y + lenM y 0 := by
  rw [lenM_zero]; unfold yB leapI; split <;> omega
theorem yB_mono {a b : Int} (h : a < b) : yB a + lenM a 0 ≤ yB b := by
  rw [← yB_step]; unfold yB; omega
theorem numD_bounds {y m d : Int} (h : dateOk y m d) : 0 ≤ numD y m d ∧ numD y m d ≤ 36524 := by
  obtain ⟨⟨h1, h2⟩, ⟨h3, h4⟩, h5, h6⟩ := h
  have ⟨h7, h8⟩ := cumM_bounds y h3 h4
  have h9 : leapI y = if y % 4 = 0 then 1 else 0 := rfl
  unfold numD yB
  split at h9 <;> omega
theorem yB_four (y : Int) : (y - 2000) / 4 * 1461 = yB (y / 4 * 4) := by unfold yB; omega
theorem yB_rest (n : Int) : yB (2000 + n / 1461 * 4) = n - n % 1461 := by unfold yB; omega
theorem year_le {y m d : Int} (h : dateOk y m d) : 2000 + numD y m d / 1461 * 4 ≤ y := by
  obtain ⟨⟨h1, h2⟩, ⟨h3, h4⟩, h5, h6⟩ := h
  have ⟨h7, h8⟩ := cumM_bounds y h3 h4
  have h9 : leapI y = if y % 4 = 0 then 1 else 0 := rfl
  have e : numD y m d = yB y + cumM y m + d - 1 := rfl
  generalize numD y m d = n at *
  unfold yB at e
  split at h9 <;> omega
/-- The year's loop: it goes on exactly below the year. -/
theorem year_go {y m d t r : Int} (h : dateOk y m d) (ht : t ≤ y) (hr : r = numD y m d - yB t) : 0 ≤ r ∧ (lenM t 0 ≤ r ↔ t < y) := by
  obtain ⟨⟨h1, h2⟩, ⟨h3, h4⟩, h5, h6⟩ := h
  have ⟨h7, h8⟩ := cumM_bounds y h3 h4
  have e : numD y m d = yB y + cumM y m + d - 1 := rfl
  have hz := lenM_zero y
  rcases Int.lt_or_eq_of_le ht with hlt | rfl
  · have := yB_mono hlt
    have h9 := leapI_01 t
    have hz := lenM_zero t
    omega
  · omega
theorem month_go {y m d t r : Int} (h : dateOk y m d) (h0 : 1 ≤ t) (ht : t ≤ m) (hr : r = cumM y m + d - 1 - cumM y t) : 0 ≤ r ∧ (lenM y t ≤ r ↔ t < m) := by
  obtain ⟨⟨h1, h2⟩, ⟨h3, h4⟩, h5, h6⟩ := h
  rcases Int.lt_or_eq_of_le ht with hlt | rfl
  · have := cumM_mono y h0 hlt h4
    have := lenM_pos y h0 (by omega)
    omega
  · omega

/-! ### The text of a date -/
theorem digB_iff {c : UInt8} : digB c = true ↔ 48 ≤ c.toNat ∧ c.toNat ≤ 57 := by unfold digB; simp
theorem digB_back {c : UInt8} (h : digB c = true) : UInt8.ofNat (48 + (c.toNat - 48)) = c := by
  have := digB_iff.1 h
  rw [show 48 + (c.toNat - 48) = c.toNat by omega, UInt8.ofNat_toNat]
def two (n : Int) : List UInt8 := [UInt8.ofNat (48 + n.toNat / 10), UInt8.ofNat (48 + n.toNat % 10)]
theorem two_back {a b : UInt8} (ha : digB a = true) (hb : digB b = true) : two ((valL 0 [a, b] : Nat) : Int) = [a, b] := by
  have h1 := digB_iff.1 ha
  have h2 := digB_iff.1 hb
  have e : valL 0 [a, b] = 10 * (a.toNat - 48) + (b.toNat - 48) := by rw [valL_cons, valL_cons, valL_nil]; omega
  unfold two
  rw [Int.toNat_natCast, e, show (10 * (a.toNat - 48) + (b.toNat - 48)) / 10 = a.toNat - 48 by omega, show (10 * (a.toNat - 48) + (b.toNat - 48)) % 10 = b.toNat - 48 by omega, digB_back ha, digB_back hb]
theorem year_back {a b c d : UInt8} (ha : digB a = true) (hb : digB b = true) (hc : digB c = true) (hd : digB d = true) (h : 1000 ≤ valL 0 [a, b, c, d]) : Lib.itoa ((valL 0 [a, b, c, d] : Nat) : Int) = [a, b, c, d] := by
  have h1 := digB_iff.1 ha
  have h2 := digB_iff.1 hb
  have h3 := digB_iff.1 hc
  have h4 := digB_iff.1 hd
  rw [itoa_natL (by omega)]
  refine (dig_back 4 [a, b, c, d] rfl (by simp [ha, hb, hc, hd]) ?_).1
  intro e
  have e2 : a = 48 := by simpa using e
  subst e2
  rw [valL_cons, valL_cons, valL_cons, valL_cons, valL_nil] at h
  have : (48 : UInt8).toNat = 48 := rfl
  omega
/-- The number of a field of digits, -1 if there is another byte. -/
def fN (l : List UInt8) : Int := if l.all digB then ((valL 0 l : Nat) : Int) else -1
theorem fN_pos {l : List UInt8} (h : 0 ≤ fN l) : l.all digB = true ∧ fN l = ((valL 0 l : Nat) : Int) := by
  unfold fN at h ⊢
  split
  · rename_i h1; exact ⟨h1, rfl⟩
  · rename_i h1; rw [if_neg h1] at h; omega
theorem fN_ok {l : List UInt8} (h : l.all digB = true) : fN l = ((valL 0 l : Nat) : Int) := by unfold fN; rw [if_pos h]
theorem fN_bad {l : List UInt8} (h : l.all digB = false) : fN l = -1 := by unfold fN; rw [if_neg (by rw [h]; decide)]
def dayL (y m d : Int) : List UInt8 := Lib.itoa y ++ [45] ++ two m ++ [45] ++ two d
def yF (l : List UInt8) : Int := fN (l.take 4)
def mF (l : List UInt8) : Int := fN ((l.take 7).drop 5)
def dF (l : List UInt8) : Int := fN (l.drop 8)
theorem text_iff {l : List UInt8} (h : l.length = 10) (hd : dateOk (yF l) (mF l) (dF l)) : dayL (yF l) (mF l) (dF l) = l ↔ (l[4]? = some 45 ∧ l[7]? = some 45) := by
  match l, h with
  | [a, b, c, d, e, f, g, h, i, j], _ =>
    obtain ⟨⟨h1, _⟩, ⟨h2, _⟩, h3, _⟩ := hd
    obtain ⟨ha, ea⟩ := fN_pos (l := [a, b, c, d]) (by have : (2000 : Int) ≤ fN [a, b, c, d] := h1; omega)
    obtain ⟨hb, eb⟩ := fN_pos (l := [f, g]) (by have : (1 : Int) ≤ fN [f, g] := h2; omega)
    obtain ⟨hc, ec⟩ := fN_pos (l := [i, j]) (by have : (1 : Int) ≤ fN [i, j] := h3; omega)
    have h1' : (2000 : Int) ≤ fN [a, b, c, d] := h1
    rw [ea] at h1'
    simp only [List.all_cons, List.all_nil, Bool.and_true, Bool.and_eq_true] at ha hb hc
    have e1 : yF [a, b, c, d, e, f, g, h, i, j] = ((valL 0 [a, b, c, d] : Nat) : Int) := ea
    have e2 : mF [a, b, c, d, e, f, g, h, i, j] = ((valL 0 [f, g] : Nat) : Int) := eb
    have e3 : dF [a, b, c, d, e, f, g, h, i, j] = ((valL 0 [i, j] : Nat) : Int) := ec
    unfold dayL
    rw [e1, e2, e3, year_back ha.1 ha.2.1 ha.2.2.1 ha.2.2.2 (by omega), two_back hb.1 hb.2, two_back hc.1 hc.2]
    simp
    constructor
    · rintro ⟨rfl, rfl⟩; exact ⟨rfl, rfl⟩
    · rintro ⟨rfl, rfl⟩; exact ⟨rfl, rfl⟩
/-- The day of a text. -/
def rdF (s : ByteArray) : Option Int :=
  if s.size = 10 ∧ s.data.toList[4]? = some 45 ∧ s.data.toList[7]? = some 45 ∧ dateOk (yF s.data.toList) (mF s.data.toList) (dF s.data.toList) then some (numD (yF s.data.toList) (mF s.data.toList) (dF s.data.toList)) else none
theorem rdF_size {s : ByteArray} (h : ¬ s.size = 10) : rdF s = none := by unfold rdF; rw [if_neg (fun e => h e.1)]
theorem rdF_four {s : ByteArray} (h : ¬ s.data.toList[4]? = some 45) : rdF s = none := by unfold rdF; rw [if_neg (fun e => h e.2.1)]
theorem rdF_seven {s : ByteArray} (h : ¬ s.data.toList[7]? = some 45) : rdF s = none := by unfold rdF; rw [if_neg (fun e => h e.2.2.1)]
theorem rdF_date {s : ByteArray} (h : ¬ dateOk (yF s.data.toList) (mF s.data.toList) (dF s.data.toList)) : rdF s = none := by unfold rdF; rw [if_neg (fun e => h e.2.2.2)]
theorem rdF_some {s : ByteArray} (h : s.size = 10) (h4 : s.data.toList[4]? = some 45) (h7 : s.data.toList[7]? = some 45) (hd : dateOk (yF s.data.toList) (mF s.data.toList) (dF s.data.toList)) : rdF s = some (numD (yF s.data.toList) (mF s.data.toList) (dF s.data.toList)) := by unfold rdF; rw [if_pos ⟨h, h4, h7, hd⟩]
theorem rdF_text {s : ByteArray} (h : s.size = 10) (hd : dateOk (yF s.data.toList) (mF s.data.toList) (dF s.data.toList)) :
    (dayL (yF s.data.toList) (mF s.data.toList) (dF s.data.toList) = s.data.toList → rdF s = some (numD (yF s.data.toList) (mF s.data.toList) (dF s.data.toList))) ∧ (¬ dayL (yF s.data.toList) (mF s.data.toList) (dF s.data.toList) = s.data.toList → rdF s = none) := by
  have hl : s.data.toList.length = 10 := by simpa using h
  have ht := text_iff hl hd
  constructor
  · intro e
    have := ht.1 e
    exact rdF_some h this.1 this.2 hd
  · intro e
    unfold rdF
    rw [if_neg (fun c => e (ht.2 ⟨c.2.1, c.2.2.1⟩))]
/-- What is read is a date, and its text is the text that was read. -/
theorem rdF_is {s : ByteArray} {n : Int} (h : rdF s = some n) : ∃ y m d, dateOk y m d ∧ n = numD y m d ∧ s = ⟨(dayL y m d).toArray⟩ := by
  unfold rdF at h
  split at h
  · rename_i c
    injection h with h
    refine ⟨_, _, _, c.2.2.2, h.symm, ?_⟩
    rw [(text_iff (by simpa using c.1) c.2.2.2).2 ⟨c.2.1, c.2.2.1⟩]
  · cases h
theorem yearL {y : Int} (h : 2000 ≤ y) (h2 : y ≤ 2099) : Lib.itoa y = [UInt8.ofNat (48 + y.toNat / 1000), UInt8.ofNat (48 + y.toNat / 100 % 10), UInt8.ofNat (48 + y.toNat / 10 % 10), UInt8.ofNat (48 + y.toNat % 10)] := by
  have hd : ∀ k, k < 10 → digB (UInt8.ofNat (48 + k)) = true ∧ (UInt8.ofNat (48 + k)).toNat = 48 + k := by
    intro k hk
    have e : (UInt8.ofNat (48 + k)).toNat = 48 + k := by rw [UInt8.toNat_ofNat']; omega
    exact ⟨digB_iff.2 (by omega), e⟩
  have e : y = ((valL 0 [UInt8.ofNat (48 + y.toNat / 1000), UInt8.ofNat (48 + y.toNat / 100 % 10), UInt8.ofNat (48 + y.toNat / 10 % 10), UInt8.ofNat (48 + y.toNat % 10)] : Nat) : Int) := by
    rw [valL_cons, valL_cons, valL_cons, valL_cons, valL_nil, (hd (y.toNat / 1000) (by omega)).2, (hd (y.toNat / 100 % 10) (by omega)).2, (hd (y.toNat / 10 % 10) (by omega)).2, (hd (y.toNat % 10) (by omega)).2]
    omega
  have := year_back (hd (y.toNat / 1000) (by omega)).1 (hd (y.toNat / 100 % 10) (by omega)).1 (hd (y.toNat / 10 % 10) (by omega)).1 (hd (y.toNat % 10) (by omega)).1 (by omega)
  rw [← e] at this
  exact this
theorem dayL_len {y m d : Int} (h : dateOk y m d) : (dayL y m d).length = 10 := by
  unfold dayL; rw [yearL h.1.1 h.1.2]; simp [two]
theorem two_dig {n : Int} (h0 : 0 ≤ n) (h1 : n < 100) : ∀ b ∈ two n, b ≠ 32 := by
  intro b hb
  have hn : ∀ k, k < 10 → UInt8.ofNat (48 + k) ≠ 32 := by
    intro k hk e
    have := congrArg UInt8.toNat e
    rw [UInt8.toNat_ofNat'] at this
    simp at this
    omega
  unfold two at hb
  simp only [List.mem_cons, List.not_mem_nil, or_false] at hb
  rcases hb with rfl | rfl
  · exact hn _ (by omega)
  · exact hn _ (by omega)
/-! ### Every day has a date -/
theorem year_of : ∀ (k : Nat) (n : Int), 0 ≤ n → n < yB (2000 + (k : Int)) → ∃ y, 2000 ≤ y ∧ y < 2000 + (k : Int) ∧ yB y ≤ n ∧ n < yB (y + 1)
  | 0, n, h0, h => absurd h (by show ¬ n < yB (2000 + 0); unfold yB; omega)
  | k + 1, n, h0, h => by
    by_cases hk : n < yB (2000 + (k : Int))
    · obtain ⟨y, h1, h2, h3, h4⟩ := year_of k n h0 hk
      exact ⟨y, h1, by omega, h3, h4⟩
    · exact ⟨2000 + (k : Int), by omega, by omega, by omega, by rw [show (2000 : Int) + k + 1 = 2000 + ((k + 1 : Nat) : Int) by omega]; exact h⟩
theorem month_of (y : Int) : ∀ (k : Nat) (r : Int), k ≤ 12 → 0 ≤ r → r < cumM y (1 + (k : Int)) → ∃ m, 1 ≤ m ∧ m ≤ (k : Int) ∧ cumM y m ≤ r ∧ r < cumM y (m + 1)
  | 0, r, _, h0, h => absurd h (by show ¬ r < cumM y (1 + 0); rw [show (1 : Int) + 0 = 1 from rfl, cumM_one]; omega)
  | k + 1, r, hk12, h0, h => by
    by_cases hk : r < cumM y (1 + (k : Int))
    · obtain ⟨m, h1, h2, h3, h4⟩ := month_of y k r (by omega) h0 hk
      exact ⟨m, h1, by omega, h3, h4⟩
    · exact ⟨1 + (k : Int), by omega, by omega, by omega, by rw [show (1 : Int) + k + 1 = 1 + ((k + 1 : Nat) : Int) by omega]; exact h⟩
theorem day_has {n : Int} (h0 : 0 ≤ n) (h1 : n ≤ 36524) : ∃ y m d, dateOk y m d ∧ n = numD y m d := by
  obtain ⟨y, hy1, hy2, hy3, hy4⟩ := year_of 100 n h0 (by show n < yB (2000 + 100); unfold yB; omega)
  have hlen := yB_step y
  rw [lenM_zero] at hlen
  obtain ⟨m, hm1, hm2, hm3, hm4⟩ := month_of y 12 (n - yB y) (by omega) (by omega) (by show _ < cumM y 13; show _ < 365 + leapI y; omega)
  have hs := cumM_step y hm1 hm2
  exact ⟨y, m, n - yB y - cumM y m + 1, ⟨⟨hy1, by omega⟩, ⟨hm1, hm2⟩, by omega, by omega⟩, by unfold numD; omega⟩

end Go.Proofs.YtgnbhcgagdfaiaaGreatDoor

namespace Go.Proofs.YtgnbhcgagdfaiaaGreatDoor
open Go.RowKit

def inB (a lo hi : Int) : Bool := decide (lo ≤ a) && decide (a ≤ hi)
theorem inB_true {a lo hi : Int} : inB a lo hi = true ↔ lo ≤ a ∧ a ≤ hi := by simp [inB]
theorem inB_false {a lo hi : Int} : inB a lo hi = false ↔ a < lo ∨ hi < a := by
  simp [inB]
  omega

set_option maxRecDepth 100000 in
set_option maxHeartbeats 400000 in
theorem l00InB_any (a b c : Int) (w : World) :
    Calls Tryz.prog 85 #[.int .i64 a, .int .i64 b, .int .i64 c] w fun e w' => e = .returned (.bool (inB a b c)) ∧ w = w' := by
  go_enter Tryz.func85, Tryz.ntmps85
  go_wp2
  all_goals
    go_ret
    exact ⟨ret_bool (by simp [inB, *] <;> omega), rfl⟩
set_option maxRecDepth 100000 in
set_option maxHeartbeats 400000 in
theorem withinB_any (a b c : Int) (w : World) :
    Calls Tryz.prog 101 #[.int .i64 a, .int .i64 b, .int .i64 c] w fun e w' => e = .returned (.bool (inB a b c)) ∧ w = w' := by
  go_enter Tryz.func101, Tryz.ntmps101
  go_wp2
  all_goals
    go_ret
    exact ⟨ret_bool (by simp [inB, *] <;> omega), rfl⟩

def smallB (c : Int) : Bool := inB c 97 122
def digitB (c : Int) : Bool := inB c 48 57
def okNm (c : UInt8) : Bool := smallB c.toNat || digitB c.toNat
def allNm (l : List UInt8) : Bool := l.all okNm
def headNm (s : ByteArray) : Bool := match s.data.toList with | [] => false | c :: _ => smallB c.toNat
def nameB (s : ByteArray) : Bool := decide (s.size ≤ 10) && headNm s && allNm s.data.toList

theorem headNm_zero {s : ByteArray} (h : s.size = 0) : headNm s = false := by
  unfold headNm
  have : s.data.toList = [] := List.eq_nil_of_length_eq_zero (by simpa using h)
  rw [this]
theorem headNm_pos {s : ByteArray} (h : 0 < s.size) : headNm s = smallB s[0].toNat := by
  obtain ⟨⟨l⟩⟩ := s
  cases l with
  | nil => exact absurd h (by show ¬ 0 < 0; omega)
  | cons c r => rfl
theorem allNm_step {s : ByteArray} {k : Nat} (h : k < s.size) (h0 : allNm (s.data.toList.take k) = true) (h1 : okNm s[k] = true) : allNm (s.data.toList.take (k + 1)) = true := by
  rw [List.take_succ_eq_append_getElem (by simpa using h)]
  unfold allNm at *
  rw [List.all_append, h0]
  simp only [List.all_cons, List.all_nil, Bool.and_true, Bool.true_and]
  exact h1
theorem allNm_bad {s : ByteArray} {k : Nat} (h : k < s.size) (h1 : okNm s[k] = false) : allNm s.data.toList = false := by
  unfold allNm
  rw [List.all_eq_false]
  exact ⟨s[k], Array.mem_toList_iff.2 (Array.getElem_mem _), by rw [h1]; simp⟩
theorem allNm_full {s : ByteArray} {k : Nat} (h : s.size ≤ k) (h0 : allNm (s.data.toList.take k) = true) : allNm s.data.toList = true := by
  rwa [List.take_of_length_le (by simpa using h)] at h0

theorem okNm_true {c : UInt8} (h : (97 ≤ (c.toNat : Int) ∧ (c.toNat : Int) ≤ 122) ∨ (48 ≤ (c.toNat : Int) ∧ (c.toNat : Int) ≤ 57)) : okNm c = true := by
  simp only [okNm, smallB, digitB, Bool.or_eq_true, inB_true]; exact h
theorem okNm_false {c : UInt8} (h : ((c.toNat : Int) < 97 ∨ 122 < (c.toNat : Int)) ∧ ((c.toNat : Int) < 48 ∨ 57 < (c.toNat : Int))) : okNm c = false := by
  simp only [okNm, smallB, digitB, Bool.or_eq_false_iff, inB_false]; exact h

set_option maxRecDepth 100000 in
set_option maxHeartbeats 1000000 in
theorem onlyNameBytes_any (s : ByteArray) (w : World) (hs : s.size ≤ 9223372036854775807) :
    Calls Tryz.prog 100 #[.string s] w fun e w' => e = .returned (.bool (allNm s.data.toList)) ∧ w = w' := by
  go_enter Tryz.func100, Tryz.ntmps100
  go_wp2
  go_loop [7] (fun i => ∃ k : Nat, k ≤ s.size ∧ i = .int .i64 k ∧ allNm (s.data.toList.take k) = true) (fun i => s.size - (intOf i).toNat)
  case atStart => exact ⟨0, Nat.zero_le _, rfl, rfl⟩
  case round =>
    obtain ⟨k, hk, rfl, h0⟩ := hrel
    have H0 := Lib.hid h0
    clear h0
    by_cases hlt : k < s.size
    · go_wp2
      all_goals first
        | (go_ret; exact ⟨ret_bool (allNm_bad hlt (okNm_false (by omega))).symm, rfl⟩)
        | (go_round
           case rel => exact ⟨k + 1, by omega, by go_num, allNm_step hlt H0.out (okNm_true (by omega))⟩
           case measure => simp [intOf]; omega)
    · go_wp2
      go_ret
      exact ⟨ret_bool (allNm_full (by omega) H0.out).symm, rfl⟩
theorem nameB_empty {s : ByteArray} (h : s.size = 0) : nameB s = false := by simp [nameB, headNm_zero h]
theorem nameB_long {s : ByteArray} (h : 10 < s.size) : nameB s = false := by
  have : decide (s.size ≤ 10) = false := by simp; omega
  simp [nameB, this]
theorem nameB_head {s : ByteArray} (h : 0 < s.size) (h1 : (s[0].toNat : Int) < 97 ∨ 122 < (s[0].toNat : Int)) : nameB s = false := by
  have : headNm s = false := by rw [headNm_pos h]; exact inB_false.2 h1
  simp [nameB, this]
theorem nameB_rest {s : ByteArray} (h : 0 < s.size) (h0 : s.size ≤ 10) (h1 : 97 ≤ (s[0].toNat : Int) ∧ (s[0].toNat : Int) ≤ 122) : nameB s = allNm s.data.toList := by
  have : headNm s = true := by rw [headNm_pos h]; exact inB_true.2 h1
  simp [nameB, this, h0]

set_option maxRecDepth 100000 in
set_option maxHeartbeats 1000000 in
theorem implIsName_any (s : ByteArray) (w : World) (hs : s.size ≤ 9223372036854775807) :
    Calls Tryz.prog 65 #[.string s] w fun e w' => e = .returned (.bool (nameB s)) ∧ w = w' := by
  by_cases c0 : s.size = 0
  · rw [nameB_empty c0]
    have c0' : (s.size : Int) < 1 := by omega
    clear c0
    go_enter Tryz.func65, Tryz.ntmps65
    go_wp2
    go_ret
    exact ⟨rfl, rfl⟩
  · by_cases c1 : 10 < s.size
    · rw [nameB_long c1]
      go_enter Tryz.func65, Tryz.ntmps65
      go_wp2
      go_ret
      exact ⟨rfl, rfl⟩
    · have c2 : 0 < s.size := by omega
      by_cases c3 : 97 ≤ (s[0].toNat : Int) ∧ (s[0].toNat : Int) ≤ 122
      · rw [nameB_rest c2 (by omega) c3]
        obtain ⟨c4, c5⟩ := c3
        go_enter Tryz.func65, Tryz.ntmps65
        go_wp2_with (go_at_call 100; refine (onlyNameBytes_any _ _ hs).mono ?_; rintro e w' ⟨rfl, rfl⟩)
        go_ret
        exact ⟨rfl, rfl⟩
      · rw [nameB_head c2 (by omega)]
        by_cases c4 : (s[0].toNat : Int) < 97
        · clear c3
          go_enter Tryz.func65, Tryz.ntmps65
          go_wp2
          go_ret
          exact ⟨rfl, rfl⟩
        · have c5 : 122 < (s[0].toNat : Int) := by omega
          clear c3
          go_enter Tryz.func65, Tryz.ntmps65
          go_wp2
          go_ret
          exact ⟨rfl, rfl⟩
set_option maxRecDepth 100000 in
set_option maxHeartbeats 400000 in
theorem l01Small_any (c : Int) (w : World) :
    Calls Tryz.prog 98 #[.int .u8 c] w fun e w' => e = .returned (.bool (smallB c)) ∧ w = w' := by
  go_enter Tryz.func98, Tryz.ntmps98
  go_wp2
  all_goals
    go_ret
    exact ⟨ret_bool (by simp [smallB, inB, *] <;> omega), rfl⟩
set_option maxRecDepth 100000 in
set_option maxHeartbeats 400000 in
theorem l01Digit_any (c : Int) (w : World) :
    Calls Tryz.prog 99 #[.int .u8 c] w fun e w' => e = .returned (.bool (digitB c)) ∧ w = w' := by
  go_enter Tryz.func99, Tryz.ntmps99
  go_wp2
  all_goals
    go_ret
    exact ⟨ret_bool (by simp [digitB, inB, *] <;> omega), rfl⟩

set_option maxRecDepth 100000 in
set_option maxHeartbeats 1000000 in
theorem l01Name_any (s : ByteArray) (w : World) (hs : s.size ≤ 9223372036854775807) :
    Calls Tryz.prog 59 #[.string s] w fun e w' => e = .returned (.bool (nameB s)) ∧ w = w' := by
  by_cases c0 : s.size = 0
  · rw [nameB_empty c0]
    have e0 : s = ⟨#[]⟩ := ByteArray.ext (Array.eq_empty_of_size_eq_zero c0)
    subst e0
    clear c0
    go_enter Tryz.func59, Tryz.ntmps59
    go_wp2
    go_ret
    exact ⟨rfl, rfl⟩
  · have hemp : s.toList.isEmpty = false := by
      rw [ByteArray.toList_eq]
      cases hl : s.data.toList with
      | nil => exact absurd (by have := congrArg List.length hl; simpa using this) c0
      | cons => rfl
    by_cases c1 : 10 < s.size
    · rw [nameB_long c1]
      go_enter Tryz.func59, Tryz.ntmps59
      go_wp2
      go_ret
      exact ⟨rfl, rfl⟩
    · have c2 : 0 < s.size := by omega
      by_cases c3 : 97 ≤ (s[0].toNat : Int) ∧ (s[0].toNat : Int) ≤ 122
      · rw [nameB_rest c2 (by omega) c3]
        have c4 : smallB s[0].toNat = true := inB_true.2 c3
        clear c3
        go_enter Tryz.func59, Tryz.ntmps59
        go_wp2_with (go_at_call 98; refine (l01Small_any _ _).mono ?_; rintro e w' ⟨rfl, rfl⟩)
        clear c4
        go_loop [3] (fun i => ∃ k : Nat, k ≤ s.size ∧ i = .int .i64 k ∧ allNm (s.data.toList.take k) = true) (fun i => s.size - (intOf i).toNat)
        case atStart => exact ⟨0, Nat.zero_le _, rfl, rfl⟩
        case round =>
          obtain ⟨k, hk, rfl, h0⟩ := hrel
          have H0 := Lib.hid h0
          clear h0
          by_cases hlt : k < s.size
          · cases d1 : smallB s[k].toNat <;> cases d2 : digitB s[k].toNat
            all_goals
              go_wp2_with (first | (go_at_call 98; refine (l01Small_any _ _).mono ?_; rintro e w' ⟨rfl, rfl⟩) | (go_at_call 99; refine (l01Digit_any _ _).mono ?_; rintro e w' ⟨rfl, rfl⟩))
              first
                | (go_ret; exact ⟨ret_bool (allNm_bad hlt (by simp [okNm, *])).symm, rfl⟩)
                | (go_round
                   case rel => exact ⟨k + 1, by omega, by go_num, allNm_step hlt H0.out (by simp [okNm, *])⟩
                   case measure => simp [intOf]; omega)
          · go_wp2
            go_ret
            exact ⟨ret_bool (allNm_full (by omega) H0.out).symm, rfl⟩
      · rw [nameB_head c2 (by omega)]
        have c4 : smallB s[0].toNat = false := inB_false.2 (by omega)
        clear c3
        go_enter Tryz.func59, Tryz.ntmps59
        go_wp2_with (go_at_call 98; refine (l01Small_any _ _).mono ?_; rintro e w' ⟨rfl, rfl⟩)
        go_ret
        exact ⟨rfl, rfl⟩
end Go.Proofs.YtgnbhcgagdfaiaaGreatDoor

namespace Go.Proofs.YtgnbhcgagdfaiaaGreatDoor
open Go.RowKit
set_option linter.unusedVariables false

theorem decS_size (n : Int) : (decS n).size = (Lib.itoa n).length := by unfold decS; show (Lib.itoa n).toArray.size = _; simp
theorem itoa_len20 {n : Int} (h0 : -9223372036854775808 ≤ n) (h1 : n ≤ 9223372036854775807) : (Lib.itoa n).length ≤ 21 := by
  by_cases h : n = 0
  · subst h; rw [← decS_size, decS_zero]; decide
  · rw [itoa_ne h, List.length_append]
    have := dig_len 20 n.natAbs (by omega)
    split <;> simp <;> omega
end Go.Proofs.YtgnbhcgagdfaiaaGreatDoor
