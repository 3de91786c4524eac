/- Parts of the proof: Base, Mark, Coll, Ap, All, Cr, TString, So, Ln. -/
import Derived.Test.YticoiaibcgpbjaaGreatDoorRows
import Derived.WalkKit
import Derived.WalkSpells
import Derived.WalkLawsBesides
import Derived.Lib.Hide
import Derived.Deep.Draws
import Derived.Deep.QuietTactic
import Derived.BigQuiet
import Derived.Deep.DeepFit
import Derived.Lib.QuietBelow
import Derived.Laws.OwnMore
import Derived.Maps.AppendAt
import Derived.Sort.Walk0
import Derived.Laws.CopyOwn
namespace Go.Proofs.YticoiaibcgpbjaaGreatDoor
open Go.RowKit

theorem ret_bool {a b : Bool} (h : a = b) : Ending.returned (.bool a) = .returned (.bool b) := by rw [h]
theorem ret_str {a b : ByteArray} (h : a = b) : Ending.returned (.string a) = .returned (.string b) := by rw [h]
theorem ret_int {k : IntKind} {a b : Int} (h : a = b) : Ending.returned (.int k a) = .returned (.int k b) := by rw [h]

theorem bytes_toList_inj {a b : ByteArray} (h : a.toList = b.toList) : a = b := by
  rw [ByteArray.toList_eq, ByteArray.toList_eq] at h
  exact ByteArray.ext (Array.toList_inj.mp h)
theorem bytes_beq_false {a b : ByteArray} (h : ¬ a = b) : (a.toList == b.toList) = false := by
  rw [beq_eq_false_iff_ne]
  exact fun e => h (bytes_toList_inj e)

/-- How a datum lies in cells: the cells, the datum, the blocks behind it. -/
structure Cod (α : Type) where
  n : Nat
  rd : World → List Value → α → List Nat → Prop
  pos : 0 < n
  len : ∀ {w cs x fp}, rd w cs x fp → cs.length = n
  lt : ∀ {w cs x fp}, rd w cs x fp → ∀ b ∈ fp, b < w.heap.size
  keep : ∀ {w w' cs x fp}, rd w cs x fp → (∀ b ∈ fp, w'.heap[b]? = w.heap[b]?) → rd w' cs x fp

/-- A datum whose cells are a function of it: no memory behind it. -/
structure Flat (α : Type) where
  n : Nat
  enc : α → List Value
  ok : α → Prop
  pos : 0 < n
  len : ∀ x, (enc x).length = n
  one : ∀ x, ∀ v ∈ enc x, v.oneCell' = true

def Flat.cod {α : Type} (E : Flat α) : Cod α where
  n := E.n
  rd := fun _ cs x fp => cs = E.enc x ∧ E.ok x ∧ fp = []
  pos := E.pos
  len := by rintro w cs x fp ⟨rfl, _, _⟩; exact E.len x
  lt := by rintro w cs x fp ⟨_, _, rfl⟩ b hb; simp at hb
  keep := by rintro w w' cs x fp h _; exact h

def fInt : Flat Int where
  n := 1
  enc := fun x => [.int .i64 x]
  ok := fun x => -9223372036854775808 ≤ x ∧ x ≤ 9223372036854775807
  pos := by omega
  len := fun _ => rfl
  one := by intro x v hv; simp at hv; subst hv; rfl
def fStr : Flat ByteArray where
  n := 1
  enc := fun x => [.string x]
  ok := fun x => x.size ≤ 9223372036854775807
  pos := by omega
  len := fun _ => rfl
  one := by intro x v hv; simp at hv; subst hv; rfl
def fBool : Flat Bool where
  n := 1
  enc := fun x => [.bool x]
  ok := fun _ => True
  pos := by omega
  len := fun _ => rfl
  one := by intro x v hv; simp at hv; subst hv; rfl
def fByte : Flat UInt8 where
  n := 1
  enc := fun x => [.int .u8 x.toNat]
  ok := fun _ => True
  pos := by omega
  len := fun _ => rfl
  one := by intro x v hv; simp at hv; subst hv; rfl

/-- A slice value that reads as a list. -/
def Sl {α : Type} (E : Cod α) (w : World) (v : Value) (xs : List α) (fp : List Nat) : Prop :=
  ∃ A cap, v = .slice A xs.length cap ∧ xs.length ≤ cap ∧ cap ≤ maxLen ∧
    ((xs = [] ∧ fp = []) ∨ ∃ b off F, A = some ⟨b, off, none⟩ ∧ b < w.heap.size ∧ fp = b :: (List.range xs.length).flatMap F ∧
      ∀ i (h : i < xs.length), ∃ cs, (∀ j, j < E.n → w.cell? ⟨b, off + i * E.n + j, none⟩ = cs[j]?) ∧ (∀ j, j < E.n → w.frozen? ⟨b, off + i * E.n + j, none⟩ = false) ∧ E.rd w cs xs[i] (F i))

theorem Sl.keep {α : Type} {E : Cod α} {w w' : World} {v : Value} {xs : List α} {fp : List Nat} (h : Sl E w v xs fp) (hk : ∀ b ∈ fp, w'.heap[b]? = w.heap[b]?) (hs : w.heap.size ≤ w'.heap.size) : Sl E w' v xs fp := by
  obtain ⟨A, cap, hv, hl, hc, hr⟩ := h
  refine ⟨A, cap, hv, hl, hc, ?_⟩
  rcases hr with ⟨h1, h2⟩ | ⟨b, off, F, hA, hb, hfp, hi⟩
  · exact .inl ⟨h1, h2⟩
  · refine .inr ⟨b, off, F, hA, by omega, hfp, fun i hlt => ?_⟩
    obtain ⟨cs, h1, h2, h3⟩ := hi i hlt
    have hbk : w'.heap[b]? = w.heap[b]? := hk b (by rw [hfp]; simp)
    refine ⟨cs, fun j hj => (World.cell?_of_block (w := w) (w' := w') (a := ⟨b, off + i * E.n + j, none⟩) hbk).trans (h1 j hj), fun j hj => (World.frozen?_of_block (w := w) (w' := w') (a := ⟨b, off + i * E.n + j, none⟩) hbk).trans (h2 j hj), E.keep h3 fun c hc => hk c ?_⟩
    rw [hfp]
    exact List.mem_cons_of_mem _ (List.mem_flatMap.2 ⟨i, by simpa using hlt, hc⟩)

theorem Sl.lt {α : Type} {E : Cod α} {w : World} {v : Value} {xs : List α} {fp : List Nat} (h : Sl E w v xs fp) : ∀ b ∈ fp, b < w.heap.size := by
  obtain ⟨A, cap, hv, hl, hc, hr⟩ := h
  intro c hc
  rcases hr with ⟨h1, rfl⟩ | ⟨b, off, F, hA, hb, rfl, hi⟩
  · simp at hc
  · rcases List.mem_cons.1 hc with rfl | hc
    · exact hb
    · obtain ⟨i, hi1, hi2⟩ := List.mem_flatMap.1 hc
      obtain ⟨cs, _, _, h3⟩ := hi i (by simpa using hi1)
      exact E.lt h3 c hi2

theorem Sl.below {α : Type} {E : Cod α} {w w' : World} {v : Value} {xs : List α} {fp : List Nat} {B : Nat} (h : Sl E w v xs fp) (hb : Below B w w') (hB : ∀ b ∈ fp, b < B) : Sl E w' v xs fp :=
  h.keep (fun b hm => hb.block b (hB b hm)) hb.size
theorem Sl.below' {α : Type} {E : Cod α} {w w' : World} {v : Value} {xs : List α} {fp : List Nat} (h : Sl E w v xs fp) (hb : Below w.heap.size w w') : Sl E w' v xs fp := h.below hb h.lt

/-- Slices as data. -/
def Cod.slice {α : Type} (E : Cod α) : Cod (List α) where
  n := 1
  rd := fun w cs xs fp => ∃ v, cs = [v] ∧ Sl E w v xs fp
  pos := by omega
  len := by rintro w cs x fp ⟨v, rfl, _⟩; rfl
  lt := by rintro w cs x fp ⟨v, _, h⟩; exact h.lt
  keep := by
    rintro w w' cs xs fp ⟨v, rfl, h⟩ hk
    refine ⟨v, rfl, ?_⟩
    obtain ⟨A, cap, hv, hl, hc, hr⟩ := h
    refine ⟨A, cap, hv, hl, hc, ?_⟩
    rcases hr with ⟨h1, h2⟩ | ⟨b, off, F, hA, hb, hfp, hi⟩
    · exact .inl ⟨h1, h2⟩
    · have hbk : w'.heap[b]? = w.heap[b]? := hk b (by rw [hfp]; simp)
      have hb' : b < w'.heap.size := by
        rcases Nat.lt_or_ge b w'.heap.size with hlt | hge
        · exact hlt
        · rw [Array.getElem?_eq_none hge, Array.getElem?_eq_getElem hb] at hbk; cases hbk
      refine .inr ⟨b, off, F, hA, hb', hfp, fun i hlt => ?_⟩
      obtain ⟨cs, h1, h2, h3⟩ := hi i hlt
      refine ⟨cs, fun j hj => (World.cell?_of_block (w := w) (w' := w') (a := ⟨b, off + i * E.n + j, none⟩) hbk).trans (h1 j hj), fun j hj => (World.frozen?_of_block (w := w) (w' := w') (a := ⟨b, off + i * E.n + j, none⟩) hbk).trans (h2 j hj), E.keep h3 fun c hc => hk c ?_⟩
      rw [hfp]
      exact List.mem_cons_of_mem _ (List.mem_flatMap.2 ⟨i, by simpa using hlt, hc⟩)

/-- The shape of a slice value, ahead of a walk. -/
theorem Sl.form {α : Type} {E : Cod α} {w : World} {v : Value} {xs : List α} {fp : List Nat} (h : Sl E w v xs fp) :
    ∃ A cap, v = .slice A xs.length cap ∧ xs.length ≤ cap ∧ cap ≤ 9223372036854775807 := by
  obtain ⟨A, cap, hv, hl, hc, _⟩ := h
  exact ⟨A, cap, hv, hl, by unfold maxLen at hc; exact hc⟩

/-- One element of a slice of flat data: its cells. -/
theorem Sl.at_ {α : Type} {E : Flat α} {w : World} {A : Option Addr} {len cap : Nat} {xs : List α} {fp : List Nat} (h : Sl E.cod w (.slice A len cap) xs fp) {k : Nat} (hk : k < xs.length) :
    ∃ b off, A = some ⟨b, off, none⟩ ∧ b ∈ fp ∧ E.ok xs[k] ∧ (∀ j, j < E.n → w.cell? ⟨b, off + k * E.n + j, none⟩ = (E.enc xs[k])[j]?) ∧ (∀ j, j < E.n → w.frozen? ⟨b, off + k * E.n + j, none⟩ = false) := by
  obtain ⟨A', cap', hv, hl, hc, hr⟩ := h
  injection hv with hA hn hcap
  subst hA
  rcases hr with ⟨h1, h2⟩ | ⟨b, off, F, hA, hb, hfp, hi⟩
  · subst h1; simp at hk
  · obtain ⟨cs, h1, h2, h3, h4, h5⟩ := hi k hk
    subst h3
    exact ⟨b, off, hA, by rw [hfp]; simp, h4, h1, h2⟩

theorem Sl.cell1 {α : Type} {E : Flat α} {w : World} {A : Option Addr} {len cap : Nat} {xs : List α} {fp : List Nat} (h : Sl E.cod w (.slice A len cap) xs fp) (h1 : E.n = 1) {k : Nat} (hk : k < xs.length) {u : Value} (hu : E.enc xs[k] = [u]) :
    ∃ b off, A = some ⟨b, off, none⟩ ∧ b ∈ fp ∧ E.ok xs[k] ∧ w.cell? ⟨b, off + k, none⟩ = some u ∧ w.frozen? ⟨b, off + k, none⟩ = false := by
  obtain ⟨b, off, hA, hb, hok, hc, hf⟩ := h.at_ hk
  refine ⟨b, off, hA, hb, hok, ?_, ?_⟩
  · have := hc 0 (by omega); rw [h1, hu] at this; simpa using this
  · have := hf 0 (by omega); rw [h1] at this; simpa using this

theorem flat_get {α : Type} (f : α → List Value) (n : Nat) : ∀ (xs : List α), (∀ x ∈ xs, (f x).length = n) → ∀ (i : Nat) (h : i < xs.length) (j : Nat), j < n → (xs.flatMap f)[i * n + j]? = (f xs[i])[j]?
  | [], _, i, h, _, _ => by simp at h
  | x :: xs, hl, 0, _, j, hj => by
    have hx : (f x).length = n := hl x (by simp)
    rw [List.flatMap_cons, Nat.zero_mul, Nat.zero_add, List.getElem?_append_left (by omega)]
    rfl
  | x :: xs, hl, i + 1, h, j, hj => by
    have hx : (f x).length = n := hl x (by simp)
    rw [List.flatMap_cons, List.getElem?_append_right (by rw [hx, Nat.succ_mul]; omega)]
    have e : (i + 1) * n + j - (f x).length = i * n + j := by rw [hx, Nat.succ_mul]; omega
    rw [e]
    exact flat_get f n xs (fun y hy => hl y (by simp [hy])) i (by simpa using h) j hj

theorem flat_len {α : Type} (f : α → List Value) (n : Nat) : ∀ (xs : List α), (∀ x ∈ xs, (f x).length = n) → (xs.flatMap f).length = xs.length * n
  | [], _ => by simp
  | x :: xs, hl => by
    rw [List.flatMap_cons, List.length_append, flat_len f n xs (fun y hy => hl y (by simp [hy])), hl x (by simp), List.length_cons, Nat.succ_mul]; omega

/-- A row of the call's own, of flat data, as a slice. -/
theorem Sl.of_own {α : Type} {E : Flat α} {w : World} {base : Nat} {e : TypeId} {v : Value} {xs : List α} {n : Nat} (hn : xs.length = n) (h : w.ownsRow base e E.n v n (xs.flatMap E.enc)) (hok : ∀ x ∈ xs, E.ok x) :
    ∃ fp, Sl E.cod w v xs fp ∧ (∀ b ∈ fp, base ≤ b) ∧ fp.Nodup := by
  subst hn
  obtain ⟨h1, h2⟩ := h
  rcases h2 with ⟨hv, hz⟩ | ⟨g, cap, cur, hv, hg, hh, hnc, hcm, hsz, hxs⟩
  · have : xs = [] := List.eq_nil_of_length_eq_zero hz
    subst this
    exact ⟨[], ⟨none, 0, hv, by simp, by simp [maxLen], .inl ⟨rfl, rfl⟩⟩, by simp, by simp⟩
  · rcases Nat.eq_zero_or_pos xs.length with h0 | h0
    · have : xs = [] := List.eq_nil_of_length_eq_zero h0
      subst this
      exact ⟨[], ⟨_, cap, hv, hnc, hcm, .inl ⟨rfl, rfl⟩⟩, by simp, by simp⟩
    · have hgl : g < w.heap.size := by
        rcases Nat.lt_or_ge g w.heap.size with hlt | hge
        · exact hlt
        · rw [Array.getElem?_eq_none hge] at hh; cases hh
      refine ⟨[g], ⟨_, cap, hv, hnc, hcm, .inr ⟨g, 0, fun _ => [], rfl, hgl, by simp, fun i hi => ⟨E.enc xs[i], fun j hj => ?_, fun j hj => ?_, rfl, hok _ (List.getElem_mem hi), rfl⟩⟩⟩, by simpa using hg, by simp⟩
      · have hc : w.cell? ⟨g, 0 + i * E.n + j, none⟩ = cur[i * E.n + j]? := by simp [World.cell?, hh]
        rw [show E.cod.n = E.n from rfl, hc, ← flat_get E.enc E.n xs (fun x _ => E.len x) i hi j hj, ← hxs, List.getElem?_take_of_lt, Array.getElem?_toList]
        have : (i + 1) * E.n ≤ xs.length * E.n := Nat.mul_le_mul_right _ hi
        have hj' : j < E.n := hj
        rw [Nat.succ_mul] at this
        omega
      · simp [World.frozen?, hh]

/-! ### A row of the call's own that is filled place by place -/

theorem run_make_rowN {P : Program} (t e : TypeId) (i : TypeInfo) (z : Value) (ht : P.underlying t = some (.slice e)) (hi : P.info? e = some i) (hz : i.zero = some z)
    (kl kc : IntKind) (n c : Nat) (hnc : n ≤ c) (hbytes : i.bytes * c ≤ 281474976710656) (h63 : c ≤ 9223372036854775807) (w : World) :
    (Instr.makeSlice t (.int kl (n : Int)) (.int kc (c : Int))).run P w = .ok (.slice (some ⟨w.heap.size, 0, none⟩) n c) (w.alloc (.cells (madeCells z.cells (c * i.size)) e)) := by
  have hb : (i.bytes : Int) * (c : Int) ≤ 281474976710656 := by
    have h : ((i.bytes * c : Nat) : Int) ≤ 281474976710656 := by omega
    rwa [Int.natCast_mul] at h
  have hr := run_make (P := P) w t e i z ht hi hz kl kc n c (by omega) (by omega) hb (by omega)
  simp only [Int.toNat_natCast] at hr
  exact hr

/-- Row g of n places of type e, of which the first ones hold ys. -/
def Fill (w : World) (base g : Nat) (e : TypeId) (size n : Nat) (ys : List Value) : Prop :=
  ∃ zs : List Value, w.ownsRow base e size (.slice (some ⟨g, 0, none⟩) n n) n (ys ++ zs)

theorem Fill.start (w : World) (e : TypeId) (size n : Nat) (z : Array Value) (hn : n ≤ 9223372036854775807) : Fill (w.alloc (.cells (madeCells z (n * size)) e)) w.heap.size w.heap.size e size n [] :=
  ⟨_, World.ownsRow_lit w _ n (Nat.le_refl _) (by unfold maxLen; exact hn) (size_madeCells _ _)⟩

theorem Fill.start1 (w : World) (e : TypeId) (n : Nat) (z : Array Value) (hn : n ≤ 9223372036854775807) : Fill (w.alloc (.cells (madeCells z n) e)) w.heap.size w.heap.size e 1 n [] := by
  have := Fill.start w e 1 n z hn
  rwa [Nat.mul_one] at this

section
variable {w w' : World} {base g : Nat} {e : TypeId} {size n : Nat} {ys : List Value}
theorem Fill.len (h : Fill w base g e size n ys) : ys.length ≤ n * size := by
  obtain ⟨zs, h⟩ := h
  have := h.1
  simp at this
  omega
theorem Fill.lt (h : Fill w base g e size n ys) : g < w.heap.size := by
  obtain ⟨zs, h⟩ := h
  exact (h.lt g rfl).2
theorem Fill.cell (h : Fill w base g e size n ys) {j : Nat} (hj : j < n * size) : ∃ u, w.cell? ⟨g, j, none⟩ = some u := by
  obtain ⟨zs, h⟩ := h
  refine ⟨_, (h.cellAt j hj).trans (List.getElem?_eq_getElem (by rw [h.1]; exact hj))⟩
theorem Fill.frozen (h : Fill w base g e size n ys) (j : Nat) : w.frozen? ⟨g, j, none⟩ = false := by
  obtain ⟨zs, h⟩ := h
  exact h.frozenAt j
/-- The next place gets its value. -/
theorem Fill.put (h : Fill w base g e size n ys) (hj : ys.length < n * size) (u : Value) : Fill (w.setCell ⟨g, ys.length, none⟩ u) base g e size n (ys ++ [u]) := by
  obtain ⟨zs, h⟩ := h
  have hl := h.1
  rw [List.length_append] at hl
  match zs, hl with
  | z :: zs, _ =>
    refine ⟨zs, ?_⟩
    have := (h.stored ys.length u).1
    rw [List.set_append_right _ _ (Nat.le_refl _), Nat.sub_self, List.set_cons_zero] at this
    rw [List.append_assoc]
    exact this
  | [], hl => simp at hl; omega
theorem Fill.kept {row : Option Nat} (h : Fill w base g e size n ys) (hg : w.grownBy w' row) (hr : row ≠ some g) : Fill w' base g e size n ys := by
  obtain ⟨zs, h⟩ := h
  exact ⟨zs, h.kept hg (.inr (by simp [Value.ownBlock]; exact fun h => hr h.symm))⟩
theorem Fill.below {B : Nat} (h : Fill w base g e size n ys) (hb : Below B w w') (hB : g < B) : Fill w' base g e size n ys := by
  obtain ⟨zs, h⟩ := h
  obtain ⟨h1, h2⟩ := h
  refine ⟨zs, h1, ?_⟩
  rcases h2 with h2 | ⟨g', cap, cur, hv, hg, hh, r⟩
  · exact .inl h2
  · have : g' = g := by injection hv with h _ _; injection h with h; injection h with h _ _; exact h.symm
    subst this
    exact .inr ⟨g', cap, cur, hv, hg, by rw [hb.block _ hB]; exact hh, r⟩
theorem Fill.done (h : Fill w base g e size n ys) (hy : ys.length = n * size) : w.ownsRow base e size (.slice (some ⟨g, 0, none⟩) n n) n ys := by
  obtain ⟨zs, h⟩ := h
  have hl := h.1
  rw [List.length_append, hy] at hl
  have : zs = [] := List.eq_nil_of_length_eq_zero (by omega)
  subst this
  rwa [List.append_nil] at h
end

theorem flat_take_step {α : Type} {E : Flat α} {xs : List α} {k : Nat} (hk : k < xs.length) : (xs.take (k + 1)).flatMap E.enc = (xs.take k).flatMap E.enc ++ E.enc xs[k] := by
  rw [List.take_succ_eq_append_getElem hk, List.flatMap_append]; simp
theorem flat_take_len {α : Type} {E : Flat α} {xs : List α} {k : Nat} (hk : k ≤ xs.length) : ((xs.take k).flatMap E.enc).length = k * E.n := by
  rw [flat_len E.enc E.n _ (fun x _ => E.len x), List.length_take, Nat.min_eq_left hk]
/-- A round that fills one place of one cell. -/
theorem fill_step {α : Type} {E : Flat α} {w : World} {base g : Nat} {e : TypeId} {xs : List α} {k : Nat} {u : Value} (h1 : E.n = 1) (hf : Fill w base g e 1 xs.length ((xs.take k).flatMap E.enc)) (hk : k < xs.length) (hu : E.enc xs[k] = [u]) :
    Fill (w.setCell ⟨g, k, none⟩ u) base g e 1 xs.length ((xs.take (k + 1)).flatMap E.enc) := by
  have hl : ((xs.take k).flatMap E.enc).length = k := by rw [flat_take_len (by omega), h1]; omega
  have := hf.put (by rw [hl]; omega) u
  rw [hl] at this
  rw [flat_take_step hk, hu]
  exact this
theorem Sl.oks {α : Type} {E : Flat α} {w : World} {v : Value} {xs : List α} {fp : List Nat} (h : Sl E.cod w v xs fp) : ∀ x ∈ xs, E.ok x := by
  intro x hx
  obtain ⟨A, cap, rfl, _, _⟩ := h.form
  obtain ⟨k, hk, rfl⟩ := List.getElem_of_mem hx
  obtain ⟨_, _, _, _, hok, _⟩ := h.at_ hk
  exact hok

theorem below_drewN {B : Nat} {a w : World} (h : Below B a w) (n : Nat) : Below B a (w.drewN n) := ⟨h.os, h.tape, h.output, h.size, h.block⟩
theorem Sl.drewN {α : Type} {E : Cod α} {w : World} {v : Value} {xs : List α} {fp : List Nat} (h : Sl E w v xs fp) (n : Nat) : Sl E (w.drewN n) v xs fp := h.below' (below_drewN (Below.refl _ _) n)
/-- The end of a call that says true and turns nothing that was there. -/
def YesR (w : World) (e : Ending) (w' : World) : Prop := e = .returned (.bool true) ∧ Below w.heap.size w w'

theorem sum_take_step_ {α : Type} (f : α → Nat) (xs : List α) (k : Nat) (h : k < xs.length) : ((xs.take (k + 1)).map f).sum = ((xs.take k).map f).sum + f xs[k] := by
  rw [List.take_succ_eq_append_getElem h, List.map_append, List.sum_append]; simp
theorem Fill.put_at {w : World} {base g : Nat} {e : TypeId} {size n : Nat} {ys : List Value} (h : Fill w base g e size n ys) {p : Nat} (hp : p = ys.length) (hj : p < n * size) (u : Value) : Fill (w.setCell ⟨g, p, none⟩ u) base g e size n (ys ++ [u]) := by
  subst hp; exact h.put hj u

theorem quiet_left {P : Program} {f : FuncId} {args : Array Value} {w : World} {n : Nat} {v : Value}
    (h : Calls P f args (w.drewN n) fun e w' => e = .returned v ∧ w.drewN n = w') : Calls P f args (w.drewN n) fun e w'' => e = .returned v ∧ ∃ m, w'' = w.drewN m :=
  h.mono fun _ _ ⟨he, hm⟩ => ⟨he, n, hm.symm⟩

/-- What a size check leaves: it has failed, or the rest is what is left. -/
def szPost (left : Int) (tot : Nat) (r : Int) : Prop := r = -1 ∨ (0 ≤ r ∧ r + tot = left)
def SzR (left : Int) (tot : Nat) (w : World) (e : Ending) (w' : World) : Prop := ∃ r : Int, e = .returned (.int .i64 r) ∧ szPost left tot r ∧ Below w.heap.size w w'
theorem SzR.no {left : Int} {tot : Nat} {w w' : World} (h : Below w.heap.size w w') : SzR left tot w (.returned (.int .i64 (-1))) w' := ⟨-1, rfl, .inl rfl, h⟩
theorem SzR.yes {left r : Int} {tot : Nat} {w w' : World} (h0 : 0 ≤ r) (h1 : r + tot = left) (h : Below w.heap.size w w') : SzR left tot w (.returned (.int .i64 r)) w' := ⟨r, rfl, .inr ⟨h0, h1⟩, h⟩

/-- A value that the call has made: it reads as the datum, through new blocks, none of them twice. -/
structure New {α : Type} (E : Cod α) (w : World) (v : Value) (xs : List α) (w' : World) : Prop where
  rd : ∃ fp, Sl E w' v xs fp ∧ (∀ b ∈ fp, w.heap.size ≤ b) ∧ fp.Nodup
  below : Below w.heap.size w w'
def NewR {α : Type} (E : Cod α) (w : World) (xs : List α) (e : Ending) (w' : World) : Prop := ∃ v, e = .returned v ∧ New E w v xs w'

/-! ### append of one element that has just been laid in a block of its own -/
theorem wpList_append_one {P : Program} {w : World} {ops : Array Oper} {rest : List Oper} {o : Oper} {a : Act} {Q : Exit → Act → World → Prop} (hgd : o.guard = none) (s x : Operand) (t : TypeId)
    (ho : o.op = .call { callee := .builtin .append, args := #[s, x], argTypes := #[t, t] })
    (base : Nat) (e : TypeId) (i : TypeInfo) (z : Value) (size bytes : Nat) (ht : P.underlying t = some (.slice e)) (hi : P.info? e = some i) (hz : i.zero = some z)
    (hsize : i.size = size) (hby : i.bytes = bytes) (hzs : z.cells.size = size) (hsz : 0 < size)
    (v : Value) (n : Nat) (xs : List Value) (hs : a.eval s = v) (hown : w.ownsRow base e size v n xs) (us : List Value) (hul : us.length = size) (h1 : ∀ u ∈ us, u.oneCell' = true)
    (hx : a.eval x = .slice (some ⟨w.heap.size, 0, none⟩) 1 1) (hn : n ≤ 1000000000) (hb : bytes ≤ 1000) (hbase : base ≤ w.heap.size)
    (h : ∀ v' w', w'.ownsRow base e size v' (n + 1) (xs ++ us) → Below base w w' → w.grownBy w' v.ownBlock → w.heap.size < w'.heap.size → wpList P ops Q rest (a.put o.dst v') w') : wpList P ops Q (o :: rest) a (w.alloc (.cells us.toArray e)) := by
  refine wpList_append_own _ hgd s x t ho base e i z size bytes ht hi hz hsize hby hzs hsz v n xs hs (hown.alloc _) ⟨w.heap.size, 0, none⟩ 1 1 us hx (by omega) ?_ h1 (by unfold maxLen; omega) ?_ (by simp; omega) ?_
  · intro j u hj
    have : (⟨w.heap.size, 0, none⟩ : Addr).add j = ⟨w.heap.size, j, none⟩ := by unfold Addr.add; by_cases h0 : j = 0 <;> simp [h0]
    rw [this, World.cell?_alloc_at _ _ _ _ rfl]
    simpa using hj
  · have : (n + 1) * bytes ≤ 1000000001 * 1000 := Nat.mul_le_mul (by omega) hb
    omega
  · intro v' w' h2 h3 _
    have h4 := h3.size
    simp at h4
    refine h v' w' h2 ?_ ⟨h3.os, h3.tape, h3.output, by omega, fun k hk hne => (h3.block k (by simp; omega) hne).trans (Below.heap_alloc w _ k hk)⟩ (by omega)
    exact ((Below.refl _ _).alloc hbase _).grown h3 (by simp; omega) (fun k hk => by
      have := (hown.alloc (.cells us.toArray e)).lt k hk
      exact this.1)

end Go.Proofs.YticoiaibcgpbjaaGreatDoor

namespace Go.Proofs.YticoiaibcgpbjaaGreatDoor
open Go.RowKit

/-! ### cells in a row -/
def Cells (w : World) (b off : Nat) (vs : List Value) : Prop := ∀ j, j < vs.length → w.cell? ⟨b, off + j, none⟩ = vs[j]? ∧ w.frozen? ⟨b, off + j, none⟩ = false

section
variable {w w' : World} {b off : Nat} {vs : List Value}
theorem Cells.get (h : Cells w b off vs) {j : Nat} (hj : j < vs.length) : w.cell? ⟨b, off + j, none⟩ = some vs[j] := by
  rw [(h j hj).1]; exact List.getElem?_eq_getElem hj
theorem Cells.free (h : Cells w b off vs) {j : Nat} (hj : j < vs.length) : w.frozen? ⟨b, off + j, none⟩ = false := (h j hj).2
theorem Cells.keep (h : Cells w b off vs) (hk : w'.heap[b]? = w.heap[b]?) : Cells w' b off vs := fun j hj =>
  ⟨(World.cell?_of_block (w := w) (w' := w') (a := ⟨b, off + j, none⟩) hk).trans (h j hj).1, (World.frozen?_of_block (w := w) (w' := w') (a := ⟨b, off + j, none⟩) hk).trans (h j hj).2⟩
theorem frozen?_setCell (w : World) (p q : Addr) (u : Value) : (w.setCell p u).frozen? q = w.frozen? q := by
  simp only [World.frozen?, World.setCell, Array.getElem?_modify]
  by_cases h : p.block = q.block
  · rw [if_pos h]
    cases hh : w.heap[q.block]? with
    | none => simp
    | some o => cases o <;> simp
  · rw [if_neg h]
theorem Cells.set (h : Cells w b off vs) {p : Nat} {j : Nat} (hp : p = off + j) (hj : j < vs.length) (u : Value) : Cells (w.setCell ⟨b, p, none⟩ u) b off (vs.set j u) := by
  subst hp
  intro i hi
  rw [List.length_set] at hi
  refine ⟨?_, (frozen?_setCell _ _ _ _).trans (h i hi).2⟩
  by_cases he : i = j
  · subst he
    rw [List.getElem?_set_self hj]
    have hc := (h i hi).1
    rw [List.getElem?_eq_getElem hi] at hc
    simp only [World.cell?] at hc ⊢
    simp only [World.setCell, Array.getElem?_modify]
    cases hh : w.heap[b]? with
    | none => rw [hh] at hc; cases hc
    | some o =>
      rw [hh] at hc
      cases o with
      | cells c e f =>
        simp at hc
        simp only [Option.map_some, if_true]
        simp
        have : off + i < c.size := by
          rcases Nat.lt_or_ge (off + i) c.size with h | h
          · exact h
          · rw [Array.getElem?_eq_none h] at hc; cases hc
        simp [this]
      | _ => simp at hc
  · rw [List.getElem?_set_ne (fun e => he e.symm), World.cell?_setCell_other _ _ _ _ (by simp <;> omega)]
    exact (h i hi).1
end

theorem Cells.put {w : World} {b off : Nat} {pre l : List Value} (h : Cells w b off (pre ++ l)) {m j p : Nat} (hm : pre.length = m) (hp : p = off + (m + j)) (hj : j < l.length) (u : Value) : Cells (w.setCell ⟨b, p, none⟩ u) b off (pre ++ l.set j u) := by
  have := h.set (j := m + j) hp (by rw [List.length_append]; omega) u
  rwa [List.set_append_right _ _ (by omega), hm, Nat.add_sub_cancel_left] at this
theorem Cells.at_mid {w : World} {b off : Nat} {pre l : List Value} (h : Cells w b off (pre ++ l)) {m j p : Nat} {u : Value} (hm : pre.length = m) (hp : p = off + (m + j)) (hj : j < l.length) (hu : l[j]? = some u) : w.cell? ⟨b, p, none⟩ = some u := by
  subst hp
  rw [(h (m + j) (by rw [List.length_append]; omega)).1, List.getElem?_append_right (by omega), hm, Nat.add_sub_cancel_left, hu]
theorem Cells.free_mid {w : World} {b off : Nat} {pre l : List Value} (h : Cells w b off (pre ++ l)) {m j p : Nat} (hm : pre.length = m) (hp : p = off + (m + j)) (hj : j < l.length) : w.frozen? ⟨b, p, none⟩ = false := by
  subst hp
  exact (h (m + j) (by rw [List.length_append]; omega)).2
theorem marks_step {α : Type} {E : Flat α} {w : World} {b off k : Nat} {f : Nat → α} {xs : List α} {pre post us : List Value} (hp : ((List.range k).map f).flatMap E.enc = pre) (hr : (xs.drop (k + 1)).flatMap E.enc = post) (hu : E.enc (f k) = us) (h : Cells w b off (pre ++ (us ++ post))) :
    Cells w b off (((List.range (k + 1)).map f).flatMap E.enc ++ (xs.drop (k + 1)).flatMap E.enc) := by
  rw [List.range_succ, List.map_append, List.flatMap_append, hp, hr]
  simp only [List.map_cons, List.map_nil, List.flatMap_cons, List.flatMap_nil, List.append_nil, hu, List.append_assoc]
  exact h

/-- A slice of flat data, its cells in one row. -/
theorem Sl.cells {α : Type} {E : Flat α} {w : World} {A : Option Addr} {len cap : Nat} {xs : List α} {fp : List Nat} (h : Sl E.cod w (.slice A len cap) xs fp) (hne : 0 < xs.length) :
    ∃ b off, A = some ⟨b, off, none⟩ ∧ fp = [b] ∧ b < w.heap.size ∧ Cells w b off (xs.flatMap E.enc) := by
  obtain ⟨A', cap', hv, hl, hc, hr⟩ := h
  injection hv with hA hn hcap
  subst hA
  rcases hr with ⟨h1, _⟩ | ⟨b, off, F, hA, hb, hfp, hi⟩
  · subst h1; simp at hne
  · have hF : (List.range xs.length).flatMap F = [] := by
      rw [List.flatMap_eq_nil_iff]
      intro i hi'
      obtain ⟨cs, _, _, _, _, h5⟩ := hi i (by simpa using hi')
      exact h5
    refine ⟨b, off, hA, by rw [hfp, hF], hb, fun j hj => ?_⟩
    rw [flat_len E.enc E.n _ (fun x _ => E.len x)] at hj
    have hpos := E.pos
    have h1 : j / E.n < xs.length := Nat.div_lt_of_lt_mul (by rw [Nat.mul_comm]; exact hj)
    have h2 : j % E.n < E.n := Nat.mod_lt _ hpos
    have h3 : j / E.n * E.n + j % E.n = j := by rw [Nat.mul_comm]; exact Nat.div_add_mod j E.n
    obtain ⟨cs, hc1, hc2, hc3, hok, _⟩ := hi _ h1
    have e1 := hc1 (j % E.n) h2
    have e2 := hc2 (j % E.n) h2
    have hcn : E.cod.n = E.n := rfl
    rw [hcn, Nat.add_assoc, h3] at e1 e2
    refine ⟨?_, e2⟩
    rw [e1, hc3, ← flat_get E.enc E.n xs (fun x _ => E.len x) _ h1 _ h2, h3]

theorem Sl.of_cells {α : Type} {E : Flat α} {w : World} {xs : List α} {b off cap : Nat} (hc : xs.length ≤ cap) (hm : cap ≤ 9223372036854775807) (hb : b < w.heap.size) (h : Cells w b off (xs.flatMap E.enc)) (hok : ∀ x ∈ xs, E.ok x) :
    0 < xs.length → Sl E.cod w (.slice (some ⟨b, off, none⟩) xs.length cap) xs [b] := by
  intro hne
  refine ⟨_, cap, rfl, hc, by unfold maxLen; exact hm, .inr ⟨b, off, fun _ => [], rfl, hb, by simp, fun i hi => ⟨E.enc xs[i], fun j hj => ?_, fun j hj => ?_, rfl, hok _ (List.getElem_mem hi), rfl⟩⟩⟩
  all_goals
    have hj' : j < E.n := hj
    have hlt : i * E.n + j < (xs.flatMap E.enc).length := by
      rw [flat_len E.enc E.n _ (fun x _ => E.len x)]
      have : (i + 1) * E.n ≤ xs.length * E.n := Nat.mul_le_mul_right _ hi
      rw [Nat.succ_mul] at this
      omega
    have := h _ hlt
    rw [show E.cod.n = E.n from rfl, Nat.add_assoc]
  · rw [this.1, flat_get E.enc E.n xs (fun x _ => E.len x) _ hi _ hj']
  · exact this.2

theorem Sl.atk {α : Type} {E : Flat α} {w : World} {b off len cap : Nat} {xs : List α} {fp : List Nat} (h : Sl E.cod w (.slice (some ⟨b, off, none⟩) len cap) xs fp) {k : Nat} (hk : k < xs.length) {j : Nat} (hj : j < E.n) :
    w.cell? ⟨b, off + k * E.n + j, none⟩ = (E.enc xs[k])[j]? := by
  obtain ⟨b', off', hA, _, _, hc, _⟩ := h.at_ hk
  injection hA with hA
  injection hA with h1 h2 _
  subst h1 h2
  exact hc j hj

/-- Of what was there only the blocks of fp may have turned. -/
structure Only (fp : List Nat) (w w' : World) : Prop where
  os : w'.os = w.os
  tape : w'.tape = w.tape
  output : w'.output = w.output
  size : w.heap.size ≤ w'.heap.size
  block : ∀ k, k < w.heap.size → k ∉ fp → w'.heap[k]? = w.heap[k]?
theorem Only.below {fp : List Nat} {w w' : World} {B : Nat} (h : Only fp w w') (hB : B ≤ w.heap.size) (hf : ∀ b ∈ fp, B ≤ b) : Below B w w' :=
  ⟨h.os, h.tape, h.output, h.size, fun k hk => h.block k (by omega) (fun hm => by have := hf k hm; omega)⟩
theorem Only.of_below {fp : List Nat} {w w' : World} (h : Below w.heap.size w w') : Only fp w w' := ⟨h.os, h.tape, h.output, h.size, fun k hk _ => h.block k hk⟩
theorem Only.trans {fp : List Nat} {a b c : World} (h : Only fp a b) (k : Only fp b c) : Only fp a c :=
  ⟨k.os.trans h.os, k.tape.trans h.tape, k.output.trans h.output, Nat.le_trans h.size k.size, fun i hi hn => (k.block i (Nat.lt_of_lt_of_le hi h.size) hn).trans (h.block i hi hn)⟩
theorem Only.set {w w' : World} {g : Nat} (h : Only [g] w w') (o : Nat) (u : Value) : Only [g] w (w'.setCell ⟨g, o, none⟩ u) :=
  ⟨h.os, h.tape, h.output, by simpa [World.setCell] using h.size, fun i hi hn => (Below.heap_setCell w' ⟨g, o, none⟩ u i (by simpa using hn)).trans (h.block i hi hn)⟩
theorem Only.refl (fp : List Nat) (w : World) : Only fp w w := .of_below (Below.refl _ _)
theorem Sl.only {α : Type} {E : Cod α} {w w' : World} {v : Value} {xs : List α} {fp fp' : List Nat} (h : Sl E w v xs fp) (hb : Only fp' w w') (hd : ∀ b ∈ fp, b ∉ fp') : Sl E w' v xs fp :=
  h.keep (fun b hm => hb.block b (h.lt b hm) (hd b hm)) hb.size

/-- What a marking helper leaves. -/
def MarkR {α : Type} (E : Cod α) (fp : List Nat) (w : World) (r : Int) (v : Value) (ys : List α) (e : Ending) (w' : World) : Prop := e = .returned (.int .i64 r) ∧ Sl E w' v ys fp ∧ Only fp w w'

/-! ### the mark's text -/
def mtStep (k : Int) (s : ByteArray) : ByteArray := ⟨#[UInt8.ofNat (48 + k % 10).toNat]⟩ ++ s
def mtLoop : Nat → Int → ByteArray → ByteArray
  | 0, _, s => s
  | f + 1, k, s => if 0 < k then mtLoop f (k / 10) (mtStep k s) else s
def mt (k : Int) : ByteArray := if k ≤ 0 then ⟨#[109, 48]⟩ else ⟨#[109]⟩ ++ mtLoop k.toNat k ⟨#[]⟩

theorem mtStep_size (k : Int) (s : ByteArray) : (mtStep k s).size = s.size + 1 := by
  unfold mtStep; rw [ByteArray.size_append]; show 1 + s.size = _; omega
theorem mtLoop_step {f : Nat} {k : Int} {s : ByteArray} (h : 0 < k) : mtLoop (f + 1) k s = mtLoop f (k / 10) (mtStep k s) := by rw [mtLoop, if_pos h]

theorem mtLoop_size : ∀ (f : Nat) (k : Int) (s : ByteArray), (mtLoop f k s).size ≤ s.size + f
  | 0, _, _ => by simp [mtLoop]
  | f + 1, k, s => by
    unfold mtLoop
    split
    · have := mtLoop_size f (k / 10) (mtStep k s); rw [mtStep_size] at this; omega
    · omega
theorem mt_ok (k : Int) (hk : k ≤ 1000000000000) : fStr.ok (mt k) := by
  show (mt k).size ≤ _
  unfold mt
  split
  · show 2 ≤ _; omega
  · rw [ByteArray.size_append]
    have := mtLoop_size k.toNat k ⟨#[]⟩
    have h1 : (ByteArray.mk #[109]).size = 1 := rfl
    have h2 : (ByteArray.mk #[]).size = 0 := rfl
    omega

set_option maxRecDepth 100000 in
set_option maxHeartbeats 400000 in
theorem markText_any (k : Int) (w : World) (hk : k ≤ 1000000000000) :
    Calls Tryz.prog 12 #[.int .i64 k] w fun e w' => e = .returned (.string (mt k)) ∧ Below w.heap.size w w' := by
  by_cases h0 : k ≤ 0
  · have hm : mt k = ⟨#[109, 48]⟩ := by unfold mt; rw [if_pos h0]
    rw [hm]
    go_enter Tryz.func12, Tryz.ntmps12
    go_wp2
    go_ret
    exact ⟨rfl, Below.refl _ _⟩
  · have hcv : ∀ (n : Int) (W : World), (convert 39 9 (.slice (some ⟨W.heap.size, 0, none⟩) 1 1)).run Tryz.prog (W.alloc (.cells #[.int .u8 n] 5)) = .ok (.string ⟨#[UInt8.ofNat n.toNat]⟩) (W.alloc (.cells #[.int .u8 n] 5)) := fun n W =>
      run_convert_bytes_arg _ _ _ Tryz.underlying39 Tryz.underlying5 W.heap.size 0 1 1 [n] rfl (fun i hi => by (obtain rfl : i = 0 := by omega); simp) _ Tryz.underlying9
    go_enter Tryz.func12, Tryz.ntmps12
    go_wp2
    go_loopw [0, 3] (fun n s wr => ∃ (j : Int) (t : ByteArray) (f : Nat), n = .int .i64 j ∧ s = .string t ∧ 0 ≤ j ∧ j ≤ f ∧ t.size + f ≤ k ∧ Hid (mtLoop f j t = mtLoop k.toNat k ⟨#[]⟩) ∧ Below w.heap.size w wr) (fun n _ _ => (intOf n).toNat)
    case atStart => exact ⟨k, _, k.toNat, rfl, rfl, by omega, by omega, by show ((0 : Nat) : Int) + _ ≤ _; omega, rfl, Below.refl _ _⟩
    case round =>
      obtain ⟨j, t, f, rfl, rfl, hj0, hjf, hsz, HE, hb⟩ := hrel
      have hbs := hb.size
      by_cases hj : 0 < j
      · have hj10 : 0 ≤ j % 10 := by omega
        have hj11 : j % 10 ≤ 9 := by omega
        have hjd : 0 ≤ j / 10 := by omega
        have hjd2 : j / 10 < j := by omega
        obtain ⟨g, rfl⟩ : ∃ g, f = g + 1 := ⟨f - 1, by omega⟩
        go_wp2
        go_roundw
        case rel => exact ⟨j / 10, mtStep j t, g, rfl, rfl, by omega, by omega, by rw [mtStep_size]; omega, HE.out ▸ (mtLoop_step hj).symm, (by repeat (first | exact Below.refl _ _ | assumption | refine Below.alloc ?_ (by first | omega | (simp <;> omega)) _ | refine Below.setCell ?_ (by first | (show _ ≤ _; omega) | (simp <;> omega)) _ | refine Below.drew ?_ | refine below_drewN ?_ _))⟩
        case measure => simp [intOf]; omega
      · have hf : mtLoop f j t = t := by cases f with | zero => rfl | succ f => simp [mtLoop, hj]
        have hm : mt k = ⟨#[109]⟩ ++ t := by unfold mt; rw [if_neg (by omega), ← HE.out, hf]
        have HM := Lib.hid hm
        clear hm hf
        go_wp2
        go_ret
        exact ⟨ret_str HM.out.symm, hb⟩
end Go.Proofs.YticoiaibcgpbjaaGreatDoor

namespace Go.Proofs.YticoiaibcgpbjaaGreatDoor
open Go.RowKit

/-- A row that has just been laid. -/
theorem Sl.lit2 {α : Type} {E : Flat α} (w : World) (xs : List α) (T : TypeId) (cs : Array Value) (hcs : cs = (xs.flatMap E.enc).toArray) (hok : ∀ x ∈ xs, E.ok x) (hne : 0 < xs.length) (hm : xs.length ≤ 9223372036854775807) :
    Sl E.cod (w.alloc (.cells cs T)) (.slice (some ⟨w.heap.size, 0, none⟩) xs.length xs.length) xs [w.heap.size] := by
  subst hcs
  refine Sl.of_cells (Nat.le_refl _) hm (by simp) (fun j hj => ⟨?_, ?_⟩) hok hne
  · rw [World.cell?_alloc_at _ _ _ _ rfl]; simp
  · rw [World.frozen?_alloc_at _ _ _ _ rfl]
/-- v is a row of the call's own that holds L. -/
def Own {α : Type} (E : Flat α) (w : World) (base : Nat) (e : TypeId) (v : Value) (L : List α) : Prop := w.ownsRow base e E.n v L.length (L.flatMap E.enc)
section
variable {α : Type} {E : Flat α} {w w' : World} {base : Nat} {e : TypeId} {v : Value} {L : List α}
theorem Own.nil (E : Flat α) (w : World) (base : Nat) (e : TypeId) : Own E w base e (.slice none 0 0) [] := World.ownsRow_nil w base e E.n
theorem Own.lit0 (E : Flat α) (w : World) (e : TypeId) : Own E (w.alloc (.cells #[] e)) w.heap.size e (.slice (some ⟨w.heap.size, 0, none⟩) 0 0) [] :=
  World.ownsRow_lit (e := e) (size := E.n) w #[] 0 (Nat.le_refl w.heap.size) (by decide) (by simp)
theorem Own.lit0m (E : Flat α) {w : World} {base : Nat} (hb : base ≤ w.heap.size) {e : TypeId} : Own E (w.alloc (.cells #[] e)) base e (.slice (some ⟨w.heap.size, 0, none⟩) 0 0) [] :=
  World.ownsRow_lit (e := e) (size := E.n) w #[] 0 hb (by decide) (by simp)
theorem Own.below (h : Own E w base e v L) (hb : Below w.heap.size w w') : Own E w' base e v L := by
  obtain ⟨h1, h2⟩ := h
  refine ⟨h1, ?_⟩
  rcases h2 with h2 | ⟨g, cap, cur, hv, hg, hh, r⟩
  · exact .inl h2
  · have hgl : g < w.heap.size := by
      rcases Nat.lt_or_ge g w.heap.size with hlt | hge
      · exact hlt
      · rw [Array.getElem?_eq_none hge] at hh; cases hh
    exact .inr ⟨g, cap, cur, hv, hg, by rw [hb.block _ hgl]; exact hh, r⟩
theorem Own.drewN (h : Own E w base e v L) (n : Nat) : Own E (w.drewN n) base e v L := h
theorem Own.form (h : Own E w base e v L) : ∃ A cap, v = .slice A L.length cap := by
  obtain ⟨h1, h2⟩ := h
  rcases h2 with ⟨hv, hz⟩ | ⟨g, cap, cur, hv, _⟩
  · exact ⟨none, 0, by rw [hv, hz]⟩
  · exact ⟨_, cap, hv⟩
/-- What it reads as, for the caller. -/
theorem Own.new (h : Own E w' w.heap.size e v L) (hb : Below w.heap.size w w') (hok : ∀ x ∈ L, E.ok x) : New E.cod w v L w' :=
  ⟨Sl.of_own (n := L.length) rfl h hok, hb⟩
/-- One more. -/
theorem Own.push (x : α) {n : Nat} (hn : n = L.length + 1) (h : w.ownsRow base e E.n v n (L.flatMap E.enc ++ E.enc x)) : Own E w base e v (L ++ [x]) := by
  subst hn
  show w.ownsRow base e E.n v (L ++ [x]).length ((L ++ [x]).flatMap E.enc)
  rw [List.flatMap_append, List.length_append]
  simpa using h
end
/-- The same where the walk writes the address of the new block in its own way. -/
theorem wpList_append_oneA {P : Program} {w : World} {ops : Array Oper} {rest : List Oper} {o : Oper} {a : Act} {Q : Exit → Act → World → Prop} (ad : Nat) (had : ad = w.heap.size) (hgd : o.guard = none) (s x : Operand) (t : TypeId)
    (ho : o.op = .call { callee := .builtin .append, args := #[s, x], argTypes := #[t, t] })
    (base : Nat) (e : TypeId) (i : TypeInfo) (z : Value) (size bytes : Nat) (ht : P.underlying t = some (.slice e)) (hi : P.info? e = some i) (hz : i.zero = some z)
    (hsize : i.size = size) (hby : i.bytes = bytes) (hzs : z.cells.size = size) (hsz : 0 < size)
    (v : Value) (n : Nat) (xs : List Value) (hs : a.eval s = v) (hown : w.ownsRow base e size v n xs) (us : List Value) (hul : us.length = size) (h1 : ∀ u ∈ us, u.oneCell' = true)
    (hx : a.eval x = .slice (some ⟨ad, 0, none⟩) 1 1) (hn : n ≤ 1000000000) (hb : bytes ≤ 1000) (hbase : base ≤ w.heap.size)
    (h : ∀ v' w', w'.ownsRow base e size v' (n + 1) (xs ++ us) → Below base w w' → w.grownBy w' v.ownBlock → w.heap.size < w'.heap.size → wpList P ops Q rest (a.put o.dst v') w') : wpList P ops Q (o :: rest) a (w.alloc (.cells us.toArray e)) := by
  subst had
  exact wpList_append_one hgd s x t ho base e i z size bytes ht hi hz hsize hby hzs hsz v n xs hs hown us hul h1 hx hn hb hbase h
/-- Two results: a new slice and a code. -/
def NewR2 {α : Type} (E : Cod α) (w : World) (xs : List α) (c : Int) (e : Ending) (w' : World) : Prop := ∃ v, e = .returned (.tuple #[v, .int .i64 c]) ∧ New E w v xs w'
theorem New.nil {α : Type} {E : Cod α} {w w' : World} (h : Below w.heap.size w w') : New E w (.slice none 0 0) ([] : List α) w' :=
  ⟨⟨[], ⟨none, 0, rfl, by simp, by simp [maxLen], .inl ⟨rfl, rfl⟩⟩, by simp, by simp⟩, h⟩
theorem New.later {α : Type} {E : Cod α} {w w0 w' : World} {v : Value} {xs : List α} (h : New E w0 v xs w') (hb : Below w.heap.size w w0) : New E w v xs w' := by
  obtain ⟨⟨fp, h1, h2, h3⟩, h4⟩ := h
  exact ⟨⟨fp, h1, fun b hb' => Nat.le_trans hb.size (h2 b hb'), h3⟩, hb.trans (h4.mono hb.size)⟩
/-- What has been kept of the first k. -/
def keptL {α β : Type} (p : α → Bool) (f : α → β) (xs : List α) (k : Nat) : List β := ((xs.take k).filter p).map f
theorem keptL_zero {α β : Type} (p : α → Bool) (f : α → β) (xs : List α) : keptL p f xs 0 = [] := rfl
theorem keptL_yes {α β : Type} {p : α → Bool} {f : α → β} {xs : List α} {k : Nat} (hk : k < xs.length) (h : p xs[k] = true) : keptL p f xs (k + 1) = keptL p f xs k ++ [f xs[k]] := by
  unfold keptL
  rw [List.take_succ_eq_append_getElem hk, List.filter_append, List.map_append]
  simp [h]
theorem keptL_no {α β : Type} {p : α → Bool} {f : α → β} {xs : List α} {k : Nat} (hk : k < xs.length) (h : p xs[k] = false) : keptL p f xs (k + 1) = keptL p f xs k := by
  unfold keptL
  rw [List.take_succ_eq_append_getElem hk, List.filter_append, List.map_append]
  simp [h]
theorem keptL_full {α β : Type} {p : α → Bool} {f : α → β} {xs : List α} {k : Nat} (hk : xs.length ≤ k) : keptL p f xs k = (xs.filter p).map f := by
  unfold keptL; rw [List.take_of_length_le hk]
theorem keptL_len {α β : Type} {p : α → Bool} {f : α → β} {xs : List α} {k : Nat} : (keptL p f xs k).length ≤ k := by
  unfold keptL; rw [List.length_map]
  exact Nat.le_trans (List.length_filter_le _ _) (List.length_take_le _ _)
end Go.Proofs.YticoiaibcgpbjaaGreatDoor

namespace Go.Proofs.YticoiaibcgpbjaaGreatDoor
open Go.RowKit
set_option linter.unusedVariables false

/-- What a region may leave behind that only adds above base, X kept. -/
structure KeptW (base : Nat) (w : World) (X : World → Prop) where
  v : World
  below : Below base w v
  x : X v
/-- append of one element, as an operation alone. -/
theorem wp_append_at1 {P : Program} (w : World) {o : Oper} {a : Act} {K : Act → World → Prop} {Q : Exit → Act → World → Prop}
    (s x : Operand) (t : TypeId) (ho : o.op = .call { callee := .builtin .append, args := #[s, x], argTypes := #[t, t] })
    (base : Nat) (e : TypeId) (i : TypeInfo) (z : Value) (size bytes : Nat) (ht : P.underlying t = some (.slice e)) (hi : P.info? e = some i) (hz : i.zero = some z)
    (hsize : i.size = size) (hby : i.bytes = bytes) (hzs : z.cells.size = size) (hsz : 0 < size)
    (v : Value) (n : Nat) (xs : List Value) (hs : a.eval s = v) (hown : w.ownsRow base e size v n xs) (us : List Value) (hul : us.length = size) (h1 : ∀ u ∈ us, u.oneCell' = true)
    (ad : Nat) (hx : a.eval x = .slice (some ⟨ad, 0, none⟩) 1 1) (hc : ∀ j u, us[j]? = some u → w.cell? ⟨ad, j, none⟩ = some u) (hn : n ≤ 1000000000) (hb : bytes ≤ 1000) (hbase : base ≤ w.heap.size)
    (h : ∀ v' w', w'.ownsRow base e size v' (n + 1) (xs ++ us) → Below base w w' → w.grownBy w' v.ownBlock → K (a.put o.dst v') w') : o.wp P a w K Q := by
  have hbytes : (n + 1) * bytes ≤ 140737488355328 := by
    have : (n + 1) * bytes ≤ 1000000001 * 1000 := Nat.mul_le_mul (by omega) hb
    omega
  obtain ⟨v', w', hr, h2, h3, h4, h5⟩ := run_append_own_at (P := P) w base t o.type e i z size bytes ht hi hz hsize hby hzs hsz v n xs hown ⟨ad, 0, none⟩ 1 1 us (by omega) (fun j u hj => by
    have e0 : (⟨ad, 0, none⟩ : Addr).add j = ⟨ad, j, none⟩ := by unfold Addr.add; by_cases h0 : j = 0 <;> simp [h0]
    rw [e0]; exact hc j u hj) h1 (by unfold maxLen; omega) hbytes hbase
  have hbw : Below base w w' := (Below.refl base w).grown h3 hbase (fun k hk => (hown.lt k hk).1)
  unfold Oper.wp execOp
  simp only [ho, resolve, invoke, builtin, Sem.run_bind, Sem.run_pure, Result.andThen_ok, List.map_toArray, List.map_cons, List.map_nil, hs, hx, hr]
  exact h v' w' h2 hbw h3
/-- append of one element, as an operation alone, with the block that it went to. -/
theorem wp_append_at2 {P : Program} (w : World) {o : Oper} {a : Act} {K : Act → World → Prop} {Q : Exit → Act → World → Prop}
    (s x : Operand) (t : TypeId) (ho : o.op = .call { callee := .builtin .append, args := #[s, x], argTypes := #[t, t] })
    (base : Nat) (e : TypeId) (i : TypeInfo) (z : Value) (size bytes : Nat) (ht : P.underlying t = some (.slice e)) (hi : P.info? e = some i) (hz : i.zero = some z)
    (hsize : i.size = size) (hby : i.bytes = bytes) (hzs : z.cells.size = size) (hsz : 0 < size)
    (v : Value) (n : Nat) (xs : List Value) (hs : a.eval s = v) (hown : w.ownsRow base e size v n xs) (us : List Value) (hul : us.length = size) (h1 : ∀ u ∈ us, u.oneCell' = true)
    (ad : Nat) (hx : a.eval x = .slice (some ⟨ad, 0, none⟩) 1 1) (hc : ∀ j u, us[j]? = some u → w.cell? ⟨ad, j, none⟩ = some u) (hn : n ≤ 1000000000) (hb : bytes ≤ 1000) (hbase : base ≤ w.heap.size)
    (h : ∀ v' w', w'.ownsRow base e size v' (n + 1) (xs ++ us) → Below base w w' → w.grownBy w' v.ownBlock → (v'.ownBlock = v.ownBlock ∨ v'.ownBlock = some w.heap.size) → K (a.put o.dst v') w') : o.wp P a w K Q := by
  have hbytes : (n + 1) * bytes ≤ 140737488355328 := by
    have : (n + 1) * bytes ≤ 1000000001 * 1000 := Nat.mul_le_mul (by omega) hb
    omega
  obtain ⟨v', w', hr, h2, h3, h4, h5⟩ := run_append_own_at (P := P) w base t o.type e i z size bytes ht hi hz hsize hby hzs hsz v n xs hown ⟨ad, 0, none⟩ 1 1 us (by omega) (fun j u hj => by
    have e0 : (⟨ad, 0, none⟩ : Addr).add j = ⟨ad, j, none⟩ := by unfold Addr.add; by_cases h0 : j = 0 <;> simp [h0]
    rw [e0]; exact hc j u hj) h1 (by unfold maxLen; omega) hbytes hbase
  have hbw : Below base w w' := (Below.refl base w).grown h3 hbase (fun k hk => (hown.lt k hk).1)
  unfold Oper.wp execOp
  simp only [ho, resolve, invoke, builtin, Sem.run_bind, Sem.run_pure, Result.andThen_ok, List.map_toArray, List.map_cons, List.map_nil, hs, hx, hr]
  exact h v' w' h2 hbw h3 h5

theorem run_append_none {P : Program} {w : World} (base : Nat) (t ty e : TypeId) (i : TypeInfo) (size c : Nat) (ht : P.underlying t = some (.slice e)) (hi : P.info? e = some i)
    (v : Value) (n : Nat) (xs : List Value) (hown : w.ownsRow base e size v n xs) :
    (Builtin.append_ #[t, t] ty #[v, .slice none 0 c]).run P w = .ok v w := by
  rcases hown.2 with ⟨rfl, rfl⟩ | ⟨g, cap, cur, rfl, _, _, hnc, _⟩
  · simp [Builtin.append_, run_underlying ht, sizeOf, typeInfo, hi, Builtin.lenOf, Builtin.firstCells]
  · simp [Builtin.append_, run_underlying ht, sizeOf, typeInfo, hi, Builtin.lenOf, Builtin.firstCells, hnc, storeCells]

/-- What may be copied out of a slice value: the list M. -/
def Src {α : Type} (E : Flat α) (w : World) (v : Value) (M : List α) : Prop :=
  ∃ A c, v = .slice A M.length c ∧ (A = none → M = []) ∧ ∀ ad, A = some ad → ∀ (j : Nat) u, (M.flatMap E.enc)[j]? = some u → w.cell? (ad.add j) = some u

theorem addr_add (b off j : Nat) : (⟨b, off, none⟩ : Addr).add j = ⟨b, off + j, none⟩ := by
  unfold Addr.add; by_cases h0 : j = 0 <;> simp [h0]
section
variable {α : Type} {E : Flat α} {w w' : World} {A : Option Addr} {len cap : Nat} {xs : List α} {fp : List Nat}
theorem Sl.src (h : Sl E.cod w (.slice A len cap) xs fp) : Src E w (.slice A len cap) xs := by
  obtain ⟨A', cap', hv, _, _, _⟩ := id h
  injection hv with hA hl hc
  subst hl
  refine ⟨A, cap, rfl, fun hn => ?_, fun ad had j u hu => ?_⟩
  · rcases Nat.eq_zero_or_pos xs.length with h0 | h0
    · exact List.eq_nil_of_length_eq_zero h0
    · obtain ⟨b, off, hA', _⟩ := h.cells h0
      rw [hn] at hA'; cases hA'
  · rcases Nat.eq_zero_or_pos xs.length with h0 | h0
    · rw [List.eq_nil_of_length_eq_zero h0] at hu; simp at hu
    · obtain ⟨b, off, hA', _, _, hc⟩ := h.cells h0
      rw [had] at hA'
      injection hA' with e
      subst e
      have hj : j < (xs.flatMap E.enc).length := by
        rcases Nat.lt_or_ge j (xs.flatMap E.enc).length with h1 | h1
        · exact h1
        · rw [List.getElem?_eq_none h1] at hu; cases hu
      rw [addr_add, (hc j hj).1, hu]
theorem Sl.src_take (h : Sl E.cod w (.slice A len cap) xs fp) {k : Nat} (hk : k ≤ xs.length) {c : Nat} : Src E w (.slice A k c) (xs.take k) := by
  obtain ⟨A', c', hv, h1, h2⟩ := h.src
  injection hv with hA hl hc
  subst hA
  have hlk : (xs.take k).length = k := by simp; omega
  refine ⟨A, c, by rw [hlk], fun hn => by rw [h1 hn]; simp, fun ad had j u hu => h2 ad had j u ?_⟩
  have e : xs.flatMap E.enc = (xs.take k).flatMap E.enc ++ (xs.drop k).flatMap E.enc := by rw [← List.flatMap_append, List.take_append_drop]
  rw [e, List.getElem?_append_left]
  · exact hu
  · rcases Nat.lt_or_ge j ((xs.take k).flatMap E.enc).length with h3 | h3
    · exact h3
    · rw [List.getElem?_eq_none h3] at hu; cases hu
theorem Sl.src_drop {b off : Nat} (h : Sl E.cod w (.slice (some ⟨b, off, none⟩) len cap) xs fp) {k : Nat} (hk : k ≤ xs.length) {c : Nat} : Src E w (.slice (some ⟨b, off + k * E.n, none⟩) (xs.length - k) c) (xs.drop k) := by
  obtain ⟨A', c', hv, h1, h2⟩ := h.src
  injection hv with hA hl hc
  subst hA
  refine ⟨some ⟨b, off + k * E.n, none⟩, c, by simp, fun hn => (by cases hn), fun ad had j u hu => ?_⟩
  obtain rfl : (⟨b, off + k * E.n, none⟩ : Addr) = ad := Option.some.inj had
  have hlt : ((xs.take k).flatMap E.enc).length = k * E.n := by
    rw [flat_len E.enc E.n _ (fun x _ => E.len x)]; simp; rw [Nat.min_eq_left hk]
  have e : xs.flatMap E.enc = (xs.take k).flatMap E.enc ++ (xs.drop k).flatMap E.enc := by rw [← List.flatMap_append, List.take_append_drop]
  have := h2 _ rfl (k * E.n + j) u (by rw [e, List.getElem?_append_right (by omega), hlt]; simpa using hu)
  rw [addr_add] at this ⊢
  rw [← this]; congr 2; omega
theorem Src.empty {A : Option Addr} {c : Nat} : Src E w (.slice A 0 c) ([] : List α) := ⟨A, c, rfl, fun _ => rfl, fun _ _ j u hu => by simp at hu⟩
theorem Src.below {v : Value} (h : Src E w v xs) (hb : ∀ a, (∃ u, w.cell? a = some u) → w'.cell? a = w.cell? a) : Src E w' v xs := by
  obtain ⟨A, c, h1, h2, h3⟩ := h
  exact ⟨A, c, h1, h2, fun ad had j u hu => (hb _ ⟨u, h3 ad had j u hu⟩).trans (h3 ad had j u hu)⟩
theorem Src.belowB {v : Value} (h : Src E w v xs) (hb : Below w.heap.size w w') : Src E w' v xs :=
  h.below fun a ⟨u, hu⟩ => hb.cell (block_lt_of_cell hu)
end

theorem grown_below {base : Nat} {w w' : World} {v : Value} {e : TypeId} {size n : Nat} {xs : List Value} (hown : w.ownsRow base e size v n xs) (hg : w.grownBy w' v.ownBlock) (hb : base ≤ w.heap.size) : Below base w w' :=
  (Below.refl base w).grown hg hb (fun k hk => (hown.lt k hk).1)

/-- append(own, other...) -/
theorem wpList_append_src {α : Type} {E : Flat α} {P : Program} {w : World} {ops : Array Oper} {rest : List Oper} {o : Oper} {a : Act} {Q : Exit → Act → World → Prop} (hgd : o.guard = none) (s x : Operand) (t : TypeId)
    (ho : o.op = .call { callee := .builtin .append, args := #[s, x], argTypes := #[t, t] })
    (base : Nat) (e : TypeId) (i : TypeInfo) (z : Value) (bytes : Nat) (ht : P.underlying t = some (.slice e)) (hi : P.info? e = some i) (hz : i.zero = some z)
    (hsize : i.size = E.n) (hby : i.bytes = bytes) (hzs : z.cells.size = E.n)
    (v : Value) (L : List α) (hs : a.eval s = v) (hown : Own E w base e v L) (v2 : Value) (M : List α) (hx : a.eval x = v2) (hM : Src E w v2 M)
    (hn : L.length + M.length ≤ 1000000000) (hb : bytes ≤ 1000) (hbase : base ≤ w.heap.size)
    (h : ∀ v' w', Own E w' base e v' (L ++ M) → Below base w w' → wpList P ops Q rest (a.put o.dst v') w') : wpList P ops Q (o :: rest) a w := by
  obtain ⟨A, c, rfl, hnone, hnews⟩ := hM
  have hone : ∀ u ∈ M.flatMap E.enc, u.oneCell' = true := fun u hu => by
    obtain ⟨y, _, hy⟩ := List.mem_flatMap.1 hu
    exact E.one y u hy
  cases A with
  | none =>
    have hm := hnone rfl
    subst hm
    refine wpList_plain hgd fun K hK => ?_
    have hrun := run_append_none (P := P) (w := w) base t o.type e i E.n c ht hi v L.length _ hown
    unfold Oper.wp
    simp [execOp, ho, resolve, invoke, builtin, hs, hx, hrun, Result.andThen]
    refine hK _ _ (h v w ?_ (Below.refl _ _))
    rw [List.append_nil]; exact hown
  | some ad =>
    refine wpList_append_own w hgd s x t ho base e i z E.n bytes ht hi hz hsize hby hzs E.pos v L.length _ hs hown ad M.length c (M.flatMap E.enc) hx (flat_len E.enc E.n M (fun x _ => E.len x)) (hnews ad rfl) hone (by unfold maxLen; omega) ?_ hbase ?_
    · have : (L.length + M.length) * bytes ≤ 1000000000 * 1000 := Nat.mul_le_mul hn hb
      omega
    · intro v' w' h2 h3 _
      refine h v' w' ?_ (grown_below hown h3 hbase)
      show w'.ownsRow base e E.n v' (L ++ M).length ((L ++ M).flatMap E.enc)
      rw [List.flatMap_append, List.length_append]
      exact h2

/-- append within the room of an own row, at a single operation. -/
theorem wp_append_fits_ {P : Program} (w : World) {o : Oper} {a : Act} {K : Act → World → Prop} {Q : Exit → Act → World → Prop}
    (s x : Operand) (t : TypeId) (hop : o.op = Op.call { callee := Callee.builtin Builtin.append, args := #[s, x], argTypes := #[t, t] })
    (base : Nat) (e : TypeId) (i : TypeInfo) (size : Nat) (h1 : P.underlying t = some (.slice e)) (h2 : P.info? e = some i) (h4 : i.size = size)
    (g k cap : Nat) (xs : List Value) (hs : a.eval s = .slice (some ⟨g, 0, none⟩) k cap) (hown : w.ownsRow base e size (.slice (some ⟨g, 0, none⟩) k cap) k xs) (ad : Addr) (m c : Nat) (news : List Value) (hx : a.eval x = .slice (some ad) m c) (hn : news.length = m * size)
    (hc : ∀ j u, news[j]? = some u → w.cell? (ad.add j) = some u) (h1c : ∀ u ∈ news, u.oneCell' = true) (b1 : k + m ≤ cap)
    (hK : ∀ w', w'.ownsRow base e size (.slice (some ⟨g, 0, none⟩) (k + m) cap) (k + m) (xs ++ news) → w.grownBy w' (some g) → K (a.put o.dst (.slice (some ⟨g, 0, none⟩) (k + m) cap)) w') :
    o.wp P a w K Q := by
  obtain ⟨w', hrun, r1, r2⟩ := run_append_fits (P := P) w base t o.type e i size h1 h2 h4 g k cap xs hown ad m c news hn hc h1c b1
  unfold Oper.wp
  simp [execOp, hop, resolve, invoke, builtin, hs, hx, hrun, Result.andThen]
  exact hK w' r1 r2
theorem own_beyond {w : World} {base : Nat} {e : TypeId} {size g n cap : Nat} {xs : List Value} (h : w.ownsRow base e size (.slice (some ⟨g, 0, none⟩) n cap) n xs) {p : Nat} (hp : n * size ≤ p) (u : Value) :
    (w.setCell ⟨g, p, none⟩ u).ownsRow base e size (.slice (some ⟨g, 0, none⟩) n cap) n xs := by
  obtain ⟨h1, h2⟩ := h
  refine ⟨h1, ?_⟩
  rcases h2 with ⟨hv, _⟩ | ⟨g', cap', cur, hv, hg, hh, hnc, hcm, hsz, hxs⟩
  · cases hv
  · injection hv with hv1 _ hv2
    injection hv1 with hv1
    injection hv1 with hv1 _ _
    subst hv1 hv2
    refine .inr ⟨g, cap, cur.setIfInBounds p u, rfl, hg, ?_, hnc, hcm, by simpa using hsz, ?_⟩
    · have hl : g < w.heap.size := by
        rcases Nat.lt_or_ge g w.heap.size with hlt | hge
        · exact hlt
        · rw [Array.getElem?_eq_none hge] at hh; cases hh
      simp only [World.setCell]
      rw [Array.getElem?_modify, if_pos rfl, hh]
      rfl
    · rw [Array.toList_setIfInBounds, List.take_set_of_le hp]; exact hxs
theorem own_cell {w : World} {base : Nat} {e : TypeId} {size g n cap : Nat} {xs : List Value} (h : w.ownsRow base e size (.slice (some ⟨g, 0, none⟩) n cap) n xs) {p : Nat} (hp : p < cap * size) :
    (∃ u, w.cell? ⟨g, p, none⟩ = some u) ∧ w.frozen? ⟨g, p, none⟩ = false := by
  obtain ⟨h1, h2⟩ := h
  rcases h2 with ⟨hv, _⟩ | ⟨g', cap', cur, hv, hg, hh, hnc, hcm, hsz, hxs⟩
  · cases hv
  · injection hv with hv1 _ hv2
    injection hv1 with hv1
    injection hv1 with hv1 _ _
    subst hv1 hv2
    refine ⟨⟨cur[p]'(by omega), ?_⟩, ?_⟩
    · simp [World.cell?, hh, hsz, hp]
    · simp [World.frozen?, hh]
theorem own_prefix {w : World} {base : Nat} {e : TypeId} {size g n k cap : Nat} {xs ys : List Value} (h : w.ownsRow base e size (.slice (some ⟨g, 0, none⟩) n cap) n xs) (hk : k ≤ n) (hy : ys.length = k * size) (hp : ys <+: xs) :
    w.ownsRow base e size (.slice (some ⟨g, 0, none⟩) k cap) k ys := by
  obtain ⟨h1, h2⟩ := h
  refine ⟨hy, ?_⟩
  rcases h2 with ⟨hv, _⟩ | ⟨g', cap', cur, hv, hg, hh, hnc, hcm, hsz, hxs⟩
  · cases hv
  · injection hv with hv1 _ hv2
    injection hv1 with hv1
    injection hv1 with hv1 _ _
    subst hv1 hv2
    refine .inr ⟨g, cap, cur, rfl, hg, hh, by omega, hcm, hsz, ?_⟩
    have hle : k * size ≤ n * size := Nat.mul_le_mul_right _ hk
    rw [List.prefix_iff_eq_take] at hp
    rw [hp, ← hxs, List.take_take, hy, Nat.min_eq_left hle]
theorem own_tail {α : Type} {E : Flat α} {w : World} {base : Nat} {e : TypeId} {g n cap : Nat} {xs : List α} (h : w.ownsRow base e E.n (.slice (some ⟨g, 0, none⟩) n cap) n (xs.flatMap E.enc)) {k : Nat} (hk : k ≤ xs.length) :
    ∀ (j : Nat) u, ((xs.drop k).flatMap E.enc)[j]? = some u → w.cell? ⟨g, k * E.n + j, none⟩ = some u := by
  intro j u hu
  have hlt : ((xs.take k).flatMap E.enc).length = k * E.n := by
    rw [flat_len E.enc E.n _ (fun x _ => E.len x)]; simp; rw [Nat.min_eq_left hk]
  have e2 : xs.flatMap E.enc = (xs.take k).flatMap E.enc ++ (xs.drop k).flatMap E.enc := by rw [← List.flatMap_append, List.take_append_drop]
  have h3 : (xs.flatMap E.enc)[k * E.n + j]? = some u := by rw [e2, List.getElem?_append_right (by omega), hlt]; simpa using hu
  have h4 : k * E.n + j < n * E.n := by
    have := h.1
    rw [← this]
    rcases Nat.lt_or_ge (k * E.n + j) (xs.flatMap E.enc).length with h5 | h5
    · exact h5
    · rw [List.getElem?_eq_none h5] at h3; cases h3
  rw [h.cellAt (k * E.n + j) h4]; exact h3
end Go.Proofs.YticoiaibcgpbjaaGreatDoor

namespace Go.Proofs.YticoiaibcgpbjaaGreatDoor
open Go.RowKit

/-! ### every index below n is in order -/
def allIdx (f : Nat → Bool) (n : Nat) : Bool := (List.range n).all f
theorem allIdx_zero {f : Nat → Bool} : allIdx f 0 = true := rfl
theorem allIdx_step {f : Nat → Bool} {k : Nat} (h : allIdx f k = true) (h1 : f k = true) : allIdx f (k + 1) = true := by
  unfold allIdx at *; rw [List.range_succ, List.all_append, h]; simp [h1]
theorem allIdx_true {f : Nat → Bool} {n : Nat} : allIdx f n = true ↔ ∀ i, i < n → f i = true := by
  unfold allIdx; rw [List.all_eq_true]; simp
theorem allIdx_bad {f : Nat → Bool} {k n : Nat} (h : k < n) (h1 : f k = false) : allIdx f n = false := by
  cases hh : allIdx f n with
  | false => rfl
  | true => rw [allIdx_true.1 hh k h] at h1; cases h1
theorem allIdx_full {f : Nat → Bool} {k n : Nat} (h : n ≤ k) (hk : k ≤ n) (h0 : allIdx f k = true) : allIdx f n = true := by
  have : k = n := by omega
  rw [← this]; exact h0
theorem allIdx_congr {f g : Nat → Bool} {n : Nat} (h : ∀ i, i < n → f i = g i) : allIdx f n = allIdx g n := by
  cases hh : allIdx g n with
  | true => rw [allIdx_true] at *; intro i hi; rw [h i hi]; exact hh i hi
  | false =>
    cases h2 : allIdx f n with
    | false => rfl
    | true =>
      have : allIdx g n = true := by rw [allIdx_true] at *; intro i hi; rw [← h i hi]; exact h2 i hi
      rw [this] at hh; cases hh
theorem all_eq_allIdx {α : Type} (p : α → Bool) (xs : List α) (d : α) : xs.all p = allIdx (fun i => p (xs.getD i d)) xs.length := by
  cases hh : allIdx (fun i => p (xs.getD i d)) xs.length with
  | true =>
    rw [allIdx_true] at hh
    rw [List.all_eq_true]
    intro x hx
    obtain ⟨i, hi, rfl⟩ := List.getElem_of_mem hx
    have := hh i hi
    simpa [List.getD_eq_getElem?_getD, hi] using this
  | false =>
    cases h2 : xs.all p with
    | false => rfl
    | true =>
      rw [List.all_eq_true] at h2
      have : allIdx (fun i => p (xs.getD i d)) xs.length = true := by
        rw [allIdx_true]; intro i hi
        have := h2 xs[i] (List.getElem_mem hi)
        simpa [List.getD_eq_getElem?_getD, hi] using this
      rw [this] at hh; cases hh
theorem getD_of_lt {α : Type} {xs : List α} {i : Nat} {d : α} (h : i < xs.length) : xs.getD i d = xs[i] := by
  simp [List.getD_eq_getElem?_getD, h]

/-! ### the order of strings -/
def ltS (a b : ByteArray) : Bool := Op.bytesLess a.toList b.toList
theorem ltS_eq (a b : ByteArray) : ltS a b = decide (a.data.toList < b.data.toList) := by
  unfold ltS; rw [bytesLess_eq, ByteArray.toList_eq, ByteArray.toList_eq]
theorem ltS_irrefl (a : ByteArray) : ltS a a = false := by
  rw [ltS_eq]; simp [List.lt_irrefl]
theorem ltS_trans {a b c : ByteArray} (h1 : ltS a b = true) (h2 : ltS b c = true) : ltS a c = true := by
  rw [ltS_eq, decide_eq_true_eq] at *; exact List.lt_trans h1 h2
theorem ltS_asymm {a b : ByteArray} (h : ltS a b = true) : ltS b a = false := by
  cases hh : ltS b a with
  | false => rfl
  | true => have := ltS_trans h hh; rw [ltS_irrefl] at this; cases this
theorem data_inj {a b : ByteArray} (h : a.data.toList = b.data.toList) : a = b := ByteArray.ext (Array.toList_inj.mp h)
theorem ltS_tri {a b : ByteArray} (h1 : ltS a b = false) (h2 : ltS b a = false) : a = b := by
  rw [ltS_eq, decide_eq_false_iff_not] at *
  exact data_inj (List.le_antisymm h2 h1)
theorem eqS_true {a b : ByteArray} : (a.toList == b.toList) = true ↔ a = b := by
  rw [beq_iff_eq]; exact ⟨bytes_toList_inj, fun h => by rw [h]⟩
theorem eqS_eq (a b : ByteArray) : (a.toList == b.toList) = decide (a = b) := by
  by_cases h : a = b
  · subst h; simp
  · rw [bytes_beq_false h]; simp [h]
theorem leS_eq (a b : ByteArray) : (Op.bytesLess a.toList b.toList || a.toList == b.toList) = !(ltS b a) := by
  cases h : ltS b a with
  | true =>
    have h1 : ltS a b = false := ltS_asymm h
    have h2 : ¬ a = b := fun e => by subst e; rw [ltS_irrefl] at h; cases h
    have : Op.bytesLess a.toList b.toList = false := h1
    rw [this, bytes_beq_false h2]; rfl
  | false =>
    cases h1 : ltS a b with
    | true => have : Op.bytesLess a.toList b.toList = true := h1; rw [this]; rfl
    | false =>
      have := ltS_tri h1 h
      subst this
      simp
end Go.Proofs.YticoiaibcgpbjaaGreatDoor

namespace Go.Proofs.YticoiaibcgpbjaaGreatDoor
open Go.RowKit
set_option linter.unusedVariables false

theorem run_copy_rowN {P : Program} (w : World) (dT sT ty elem : TypeId) (N g o dLen dCap : Nat) (a : Addr) (sLen sCap : Nat) (cur : Array Value) (t : TypeId) (cs : List Value)
    (hu : P.underlying dT = some (.slice elem)) (hs : (P.info? elem).map (·.size) = some N)
    (hg : w.heap[g]? = some (.cells cur t (0, 0))) (m : Nat) (hm : m = Nat.min sLen dLen) (hn : cs.length = m * N)
    (hsrc : ∀ j v, cs[j]? = some v → w.cell? (a.add j) = some v) (hfit : o + cs.length ≤ cur.size) (h1 : ∀ v ∈ cs, v.oneCell' = true) :
    (Builtin.copy_ #[dT, sT] ty #[.slice (some ⟨g, o, none⟩) dLen dCap, .slice (some a) sLen sCap]).run P w =
      .ok (goInt m) (w.setRow g (cur.toList.take o ++ cs ++ cur.toList.drop (o + cs.length)).toArray) := by
  have hl := run_loadCells_list (P := P) w a cs hsrc
  have hst := run_storeCells_at P g o t cs 0 cur w hg (by simpa using hfit) h1
  cases hq : P.info? elem with
  | none => simp [hq] at hs
  | some i =>
    have hi : i.size = N := by simpa [hq] using hs
    subst hm
    simp [Builtin.copy_, run_underlying hu, Builtin.lenOf, Builtin.firstCells, sizeOf, typeInfo, hq, hi, ← hn, hl, hst]

/-- copy at a single operation: the row behind it is a splice. -/
theorem wp_copy_at {P : Program} {w : World} {o : Oper} {a : Act} {K : Act → World → Prop} {Q : Exit → Act → World → Prop} (d s : Operand) (dT sT : TypeId)
    (ho : o.op = .call { callee := .builtin .copy, args := #[d, s], argTypes := #[dT, sT] }) (elem : TypeId) (hu : P.underlying dT = some (.slice elem)) (N : Nat) (hsz : (P.info? elem).map (·.size) = some N)
    (g off dLen dCap : Nat) (ad : Addr) (sLen sCap : Nat) (hd : a.eval d = .slice (some ⟨g, off, none⟩) dLen dCap) (hs : a.eval s = .slice (some ad) sLen sCap)
    (cur : List Value) (t : TypeId) (hg : w.heap[g]? = some (.cells cur.toArray t (0, 0))) (cs : List Value) (m : Nat) (hm : m = Nat.min sLen dLen) (hn : cs.length = m * N)
    (hsrc : ∀ j v, cs[j]? = some v → w.cell? (ad.add j) = some v) (hfit : off + cs.length ≤ cur.length) (h1 : ∀ v ∈ cs, v.oneCell' = true)
    (h : ∀ w', w'.heap[g]? = some (.cells (splice cur off cs).toArray t (0, 0)) → (∀ k, k ≠ g → w'.heap[k]? = w.heap[k]?) → Below g w w' → K (a.put o.dst (goInt m)) w') : o.wp P a w K Q := by
  have hrun := run_copy_rowN (P := P) w dT sT o.type elem N g off dLen dCap ad sLen sCap cur.toArray t cs hu hsz hg m hm hn hsrc (by simpa using hfit) h1
  unfold Oper.wp
  simp [execOp, ho, resolve, invoke, builtin, hd, hs, hrun, Result.andThen]
  refine h _ ?_ (fun k hk => setRow_other w g k _ hk) (below_setRow (Below.refl _ _) (Nat.le_refl _) _)
  simpa [splice] using setRow_heap w g _ _ t _ hg
theorem wpList_copy_at {P : Program} {w : World} {ops : Array Oper} {rest : List Oper} {o : Oper} {a : Act} {Q : Exit → Act → World → Prop} (hgd : o.guard = none) (d s : Operand) (dT sT : TypeId)
    (ho : o.op = .call { callee := .builtin .copy, args := #[d, s], argTypes := #[dT, sT] }) (elem : TypeId) (hu : P.underlying dT = some (.slice elem)) (N : Nat) (hsz : (P.info? elem).map (·.size) = some N)
    (g off dLen dCap : Nat) (ad : Addr) (sLen sCap : Nat) (hd : a.eval d = .slice (some ⟨g, off, none⟩) dLen dCap) (hs : a.eval s = .slice (some ad) sLen sCap)
    (cur : List Value) (t : TypeId) (hg : w.heap[g]? = some (.cells cur.toArray t (0, 0))) (cs : List Value) (m : Nat) (hm : m = Nat.min sLen dLen) (hn : cs.length = m * N)
    (hsrc : ∀ j v, cs[j]? = some v → w.cell? (ad.add j) = some v) (hfit : off + cs.length ≤ cur.length) (h1 : ∀ v ∈ cs, v.oneCell' = true)
    (h : ∀ w', w'.heap[g]? = some (.cells (splice cur off cs).toArray t (0, 0)) → (∀ k, k ≠ g → w'.heap[k]? = w.heap[k]?) → Below g w w' → wpList P ops Q rest (a.put o.dst (goInt m)) w') : wpList P ops Q (o :: rest) a w :=
  wpList_plain hgd fun _ hK => wp_copy_at d s dT sT ho elem hu N hsz g off dLen dCap ad sLen sCap hd hs cur t hg cs m hm hn hsrc hfit h1 fun w' a1 a2 a3 => hK _ _ (h w' a1 a2 a3)

/-- A row of the call's own, as its block stands. -/
theorem own_row {w : World} {base : Nat} {e : TypeId} {size g n cap : Nat} {xs : List Value} (h : w.ownsRow base e size (.slice (some ⟨g, 0, none⟩) n cap) n xs) :
    ∃ cur : List Value, w.heap[g]? = some (.cells cur.toArray e (0, 0)) ∧ cur.length = cap * size ∧ cur.take (n * size) = xs ∧ n ≤ cap ∧ cap ≤ maxLen ∧ base ≤ g := by
  obtain ⟨h1, h2⟩ := h
  rcases h2 with ⟨hv, _⟩ | ⟨g', cap', cur, hv, hg, hh, hnc, hcm, hsz, hxs⟩
  · cases hv
  · injection hv with hv1 _ hv2
    injection hv1 with hv1
    injection hv1 with hv1 _ _
    subst hv1 hv2
    exact ⟨cur.toList, by simpa using hh, by simpa using hsz, hxs, hnc, hcm, hg⟩
theorem own_of_row {w : World} {base : Nat} {e : TypeId} {size g n cap : Nat} {xs cur : List Value} (hh : w.heap[g]? = some (.cells cur.toArray e (0, 0))) (hb : base ≤ g) (hnc : n ≤ cap) (hcm : cap ≤ maxLen) (hsz : cur.length = cap * size) (hxs : cur.take (n * size) = xs) :
    w.ownsRow base e size (.slice (some ⟨g, 0, none⟩) n cap) n xs := by
  refine ⟨?_, .inr ⟨g, cap, cur.toArray, rfl, hb, hh, hnc, hcm, by simpa using hsz, by simpa using hxs⟩⟩
  rw [← hxs, List.length_take, hsz, Nat.min_eq_left (Nat.mul_le_mul_right _ hnc)]
theorem row_cell {w : World} {g : Nat} {e : TypeId} {cur : List Value} (hh : w.heap[g]? = some (.cells cur.toArray e (0, 0))) (j : Nat) : w.cell? ⟨g, j, none⟩ = cur[j]? := by
  simp [World.cell?, hh]
/-- Put in within the room: what stands behind is moved first. -/
theorem splice_shift {cur A t B : List Value} {p q r : Nat} (hc : cur.take (p + q) = A ++ B) (hA : A.length = p) (hB : B.length = q) (ht : t.length = r) (hl : p + r + q ≤ cur.length) :
    (splice (splice cur (p + r) B) p t).take (p + r + q) = A ++ (t ++ B) := by
  have hpA : cur.take p = A := by
    have := congrArg (List.take p) hc
    rw [List.take_take, Nat.min_eq_left (by omega), List.take_append_of_le_length (by omega), ← hA, List.take_length] at this
    rw [hA] at this; exact this
  have e1 : splice cur (p + r) B = cur.take (p + r) ++ (B ++ cur.drop (p + r + q)) := by rw [splice, hB]
  have hl1 : (cur.take (p + r)).length = p + r := by rw [List.length_take]; omega
  have e2 : (cur.take (p + r) ++ (B ++ cur.drop (p + r + q))).take p = A := by
    rw [List.take_append_of_le_length (by omega), List.take_take, Nat.min_eq_left (by omega), hpA]
  have e3 : (cur.take (p + r) ++ (B ++ cur.drop (p + r + q))).drop (p + r) = B ++ cur.drop (p + r + q) := by
    rw [List.drop_append_of_le_length (by omega), List.drop_of_length_le (by omega), List.nil_append]
  rw [e1, splice, ht, e2, e3, ← List.append_assoc, ← List.append_assoc, List.take_append_of_le_length (by simp; omega), List.take_of_length_le (by simp; omega), List.append_assoc]
/-- Put in into a new row: the element, then what stands behind. -/
theorem splice_fill {cur A t B : List Value} {p q r : Nat} (hc : cur.take p = A) (hA : A.length = p) (hB : B.length = q) (ht : t.length = r) (hl : p + r + q ≤ cur.length) :
    (splice (splice cur p t) (p + r) B).take (p + r + q) = A ++ (t ++ B) := by
  have e1 : splice cur p t = A ++ (t ++ cur.drop (p + r)) := by rw [splice, ht, hc]
  have e2 : (A ++ (t ++ cur.drop (p + r))).take (p + r) = A ++ t := by
    rw [← List.append_assoc, List.take_append_of_le_length (by simp; omega), List.take_of_length_le (by simp; omega)]
  rw [e1, splice, e2, ← List.append_assoc, List.take_append_of_le_length (by simp; omega), List.take_of_length_le (by simp; omega), List.append_assoc]
end Go.Proofs.YticoiaibcgpbjaaGreatDoor

namespace Go.Proofs.YticoiaibcgpbjaaGreatDoor
open Go.RowKit
set_option linter.unusedVariables false

def totString (x : ByteArray) : Nat := x.size
def totStringS (xs : List ByteArray) : Nat := xs.length + (xs.map totString).sum



set_option maxRecDepth 100000 in
set_option maxHeartbeats 400000 in
theorem eqStringS_any (v v' : Value) (xs : List ByteArray) (fp fp' : List Nat) (w : World) (hx : Sl fStr.cod w v xs fp) (hy : Sl fStr.cod w v' xs fp') :
    Calls Tryz.prog 6 #[v, v'] w fun e w' => YesR w e w' := by
  obtain ⟨A, cap, rfl, hlen, hcap⟩ := hx.form
  obtain ⟨A', cap', rfl, hlen', hcap'⟩ := hy.form
  go_enter Tryz.func6, Tryz.ntmps6
  go_wp2
  go_loopw [5] (fun i wr => ∃ k : Nat, k ≤ xs.length ∧ i = .int .i64 k ∧ ∃ n, wr = w.drewN n) (fun i _ => xs.length - (intOf i).toNat)
  case atStart => exact ⟨0, Nat.zero_le _, rfl, 0, rfl⟩
  case round =>
    obtain ⟨k, hk, rfl, n, rfl⟩ := hrel
    by_cases hlt : k < xs.length
    · obtain ⟨b, off, rfl, _, hok, hc, _⟩ := hx.cell1 rfl hlt rfl
      obtain ⟨b', off', rfl, _, hok', hc', _⟩ := hy.cell1 rfl hlt rfl
      go_wp2
      go_quiet (fail)
      go_wp2
      go_roundw
      case rel => exact ⟨k + 1, by omega, by go_num, _, rfl⟩
      case measure => simp [intOf]; omega
    · go_wp2
      go_ret
      exact ⟨rfl, below_drewN (Below.refl _ _) _⟩

def mkString (k : Int) : ByteArray := mt (k)
def marksString (k : Int) (n : Nat) : List ByteArray := (List.range n).map fun (i : Nat) => mkString (k + 1 * (i : Int))

theorem marksString_get (k0 : Int) (n i : Nat) (h : i < (marksString k0 n).length) : (marksString k0 n)[i] = mkString (k0 + 1 * (i : Int)) := by
  simp [marksString]
theorem marksString_len (k0 : Int) (n : Nat) : (marksString k0 n).length = n := by simp [marksString]

set_option maxRecDepth 100000 in
set_option maxHeartbeats 2000000 in
theorem markStringS_any (v : Value) (xs : List ByteArray) (fp : List Nat) (k0 : Int) (w : World) (hx : Sl fStr.cod w v xs fp) (h0 : 0 ≤ k0) (h1 : k0 + 1 * (xs.length : Int) ≤ 1000000000000) :
    Calls Tryz.prog 7 #[v, .int .i64 k0] w fun e w' => MarkR fStr.cod fp w (k0 + 1 * (xs.length : Int)) v (marksString k0 xs.length) e w' := by
  obtain ⟨A, cap, rfl, hlen, hcap⟩ := hx.form
  by_cases hne : xs.length = 0
  · have : xs = [] := List.eq_nil_of_length_eq_zero hne
    subst this
    go_enter Tryz.func7, Tryz.ntmps7
    go_wp2
    go_loop [1, 5] (fun n i => i = .int .i64 0 ∧ n = .int .i64 k0) (fun _ _ => 0)
    case atStart => exact ⟨rfl, rfl⟩
    case round =>
      obtain ⟨rfl, rfl⟩ := hrel
      go_wp2
      go_ret
      exact ⟨ret_int (by simp), hx, .refl _ _⟩
  · obtain ⟨b, off, rfl, rfl, hbs, hcs0⟩ := hx.cells (by omega)
    go_enter Tryz.func7, Tryz.ntmps7
    go_wp2
    go_loopw [1, 5] (fun n i wr => ∃ k : Nat, k ≤ xs.length ∧ i = .int .i64 k ∧ ∃ q : Int, n = .int .i64 q ∧ 0 ≤ q ∧ Hid (q = k0 + 1 * (k : Int)) ∧ Cells wr b off (((List.range k).map fun (i : Nat) => mkString (k0 + 1 * (i : Int))).flatMap fStr.enc ++ (xs.drop k).flatMap fStr.enc) ∧ Only [b] w wr) (fun _ i _ => xs.length - (intOf i).toNat)
    case atStart => exact ⟨0, Nat.zero_le _, rfl, k0, rfl, h0, by show _ = _; simp, by simpa using hcs0, .refl _ _⟩
    case round =>
      obtain ⟨k, hk, rfl, q, rfl, hq0, HQ, hcs, ho⟩ := hrel
      by_cases hlt : k < xs.length
      · have hq1 : q + 1 ≤ 1000000000000 := by have := HQ.out; omega
        have HC : Cells wr b off (((List.range k).map fun (i : Nat) => mkString (k0 + 1 * (i : Int))).flatMap fStr.enc ++ ((.string xs[k] : Value) :: (xs.drop (k + 1)).flatMap fStr.enc)) := by
          have := hcs
          rw [List.drop_eq_getElem_cons hlt, List.flatMap_cons] at this
          exact this
        generalize HP : ((List.range k).map fun (i : Nat) => mkString (k0 + 1 * (i : Int))).flatMap fStr.enc = pre at *
        have HL : pre.length = k * 1 := by rw [← HP, flat_len fStr.enc 1 _ (fun _ _ => rfl)]; simp
        generalize HR : (xs.drop (k + 1)).flatMap fStr.enc = post at *
        have HPH := Lib.hid HP
        clear HP hcs
        have HRH := Lib.hid HR
        clear HR
        have HLH := Lib.hid HL
        clear HL
        go_wp2_with fail
        refine (markText_any _ _ (by omega)).mono ?_
        rintro e w0 ⟨rfl, hbm⟩
        have HD0 := HC.keep (hbm.block b (by have := ho.size; simp at this ⊢; omega))
        have hoo := ho.trans (.of_below hbm)
        clear ho hbm HC
        have ho := hoo
        clear hoo
        have hu0 := HD0.at_mid (m := k * 1) (j := 0) (p := off + k) HLH.out (by omega) (by simp) rfl
        have hz0 := HD0.free_mid (m := k * 1) (j := 0) (p := off + k) HLH.out (by omega) (by simp)
        go_wp2
        have HC0 := HD0.put (m := k * 1) (j := 0) (p := off + k) HLH.out (by omega) (by simp) (.string (mt (q)))
        have ho_ := ho.set (off + k) (.string (mt (q)))
        clear hu0 hz0 ho
        have ho := ho_
        clear ho_
        clear HD0
        go_roundw
        case rel => exact ⟨k + 1, by omega, by go_num, q + 1, by go_num, by omega, by have := HQ.out; show _ = _; omega, marks_step (f := fun (i : Nat) => mkString (k0 + 1 * (i : Int))) HPH.out HRH.out (by rw [← HQ.out] <;> rfl) HC0, ho⟩
        case measure => simp [intOf]; omega
      · have hk' : k = xs.length := by omega
        subst hk'
        rw [List.drop_length, List.flatMap_nil, List.append_nil] at hcs
        go_wp2
        go_ret
        have hsz := ho.size
        have hm := Sl.of_cells (E := fStr) (cap := cap) (xs := marksString k0 xs.length) (by rw [marksString_len]; exact hlen) hcap (by omega) hcs (by intro x hx; simp [marksString] at hx; obtain ⟨i, hi, rfl⟩ := hx; exact mt_ok _ (by omega)) (by rw [marksString_len]; omega)
        rw [marksString_len] at hm
        exact ⟨ret_int HQ.out, hm, ho⟩

set_option maxRecDepth 100000 in
set_option maxHeartbeats 2000000 in
theorem heldStringS_any (v : Value) (n0 : Nat) (fp : List Nat) (k0 : Int) (w : World) (hx0 : Sl fStr.cod w v (marksString k0 n0) fp) (h0 : 0 ≤ k0) (h1 : k0 + 1 * (n0 : Int) ≤ 1000000000000) :
    Calls Tryz.prog 8 #[v, .int .i64 k0] w fun e w' => e = .returned (.int .i64 (k0 + 1 * (n0 : Int))) ∧ Below w.heap.size w w' := by
  have hn0 : (marksString k0 n0).length = n0 := marksString_len _ _
  obtain ⟨xs, hxs⟩ : ∃ xs, xs = marksString k0 n0 := ⟨_, rfl⟩
  rw [← hxs] at hx0 hn0
  have hx := hx0
  clear hx0
  rw [← hn0] at h1
  have HN := Lib.hid hn0
  clear hn0
  have HXS := Lib.hid hxs
  clear hxs
  obtain ⟨A, cap, rfl, hlen, hcap⟩ := hx.form
  go_enter Tryz.func8, Tryz.ntmps8
  go_wp2
  go_loopw [1, 5] (fun n i wr => ∃ k : Nat, k ≤ xs.length ∧ i = .int .i64 k ∧ ∃ q : Int, n = .int .i64 q ∧ 0 ≤ q ∧ Hid (q = k0 + 1 * (k : Int)) ∧ Below w.heap.size w wr) (fun _ i _ => xs.length - (intOf i).toNat)
  case atStart => exact ⟨0, Nat.zero_le _, rfl, k0, rfl, h0, by show _ = _; omega, Below.refl _ _⟩
  case round =>
    obtain ⟨k, hk, rfl, q, rfl, hq0, HQ, hb⟩ := hrel
    by_cases hlt : k < xs.length
    · have hq1 : q + 1 ≤ 1000000000000 := by have := HQ.out; omega
      obtain ⟨b, off, rfl, _⟩ := hx.at_ hlt
      have hget : xs[k] = mkString (k0 + 1 * (k : Int)) := by
        have hxs := HXS.out
        subst hxs
        exact marksString_get _ _ _ _
      rw [← HQ.out] at hget
      have HG := Lib.hid hget
      clear hget
      have hc0 : wr.cell? ⟨b, off + k, none⟩ = some (.string (mt (q))) := by
        have h := (hx.below' hb).atk hlt (j := 0) (by decide)
        rw [HG.out, show off + k * fStr.n + 0 = off + k from by (show off + k * 1 + 0 = _); omega] at h
        exact h
      have gc0 := cell_regrown hc0
      clear hc0
      have cq : ∀ d os, Calls Tryz.prog 12 #[.int .i64 (q)] (Go.Sort.grow (redrawn wr d) os) fun e w'' => e = .returned (.string (mt (q))) ∧ ∃ p : Regrown, w'' = Go.Sort.grow (redrawn wr p.d) p.os := fun d os => Calls.regrown_of (markText_any _ _ (by omega))
      go_wp2_with fail
      refine wp_region_quiet_below (by kernel_rfl) (by kernel_rfl) ?_
      repeat (quiet_step (exact cq _ _))
      refine wpQuiet_nil ?_
      intro _ hw'
      obtain ⟨⟨dq, osq⟩, hw''⟩ := hw'
      subst hw''
      have hbq := below_regrown wr dq osq
      clear gc0 cq
      generalize Go.Sort.grow (redrawn wr dq) osq = wq0 at *
      have hbb := hb.trans (hbq.mono hb.size)
      clear hb hbq
      have hb := hbb
      clear hbb
      go_wp2
      go_roundw
      case rel => exact ⟨k + 1, by omega, by go_num, q + 1, by go_num, by omega, by have := HQ.out; show _ = _; omega, hb⟩
      case measure => simp [intOf]; omega
    · have hk' : k = xs.length := by omega
      go_wp2
      go_ret
      exact ⟨ret_int (by rw [HQ.out, hk', HN.out]), hb⟩

end Go.Proofs.YticoiaibcgpbjaaGreatDoor

namespace Go.Proofs.YticoiaibcgpbjaaGreatDoor
open Go.RowKit
set_option linter.unusedVariables false

/-! ### lists of strings in order -/
def Srt (L : List ByteArray) : Prop := L.Pairwise (fun a b => ltS b a = false)
def srtF (L : List ByteArray) : List ByteArray := L.mergeSort (fun a b => !ltS b a)
theorem leS_trans {a b c : ByteArray} (h1 : ltS b a = false) (h2 : ltS c b = false) : ltS c a = false := by
  cases h : ltS c a with
  | false => rfl
  | true =>
    cases h3 : ltS b c with
    | true => have := ltS_trans h3 h; rw [this] at h1; cases h1
    | false =>
      have := ltS_tri h3 h2
      subst this
      rw [h] at h1; cases h1
theorem leS_total (a b : ByteArray) : (!ltS b a || !ltS a b) = true := by
  cases h : ltS b a with
  | false => rfl
  | true => rw [ltS_asymm h]; rfl
theorem srtF_perm (L : List ByteArray) : (srtF L).Perm L := List.mergeSort_perm _ _
theorem srtF_srt (L : List ByteArray) : Srt (srtF L) := by
  have h := List.pairwise_mergeSort (le := fun a b => !ltS b a) (fun a b c h1 h2 => by simp at *; exact leS_trans h1 h2) leS_total L
  exact h.imp (fun h => by simpa using h)
theorem srt_unique {a b : List ByteArray} (ha : Srt a) (hb : Srt b) (h : a.Perm b) : a = b :=
  List.Perm.eq_of_pairwise (fun x y _ _ h1 h2 => ltS_tri h2 h1) ha hb h
theorem srtF_of {a L : List ByteArray} (ha : Srt a) (h : a.Perm L) : a = srtF L := srt_unique ha (srtF_srt L) (h.trans (srtF_perm L).symm)
theorem srtF_len (L : List ByteArray) : (srtF L).length = L.length := (srtF_perm L).length_eq
/-- x put in behind the first k of A. -/
theorem srt_insert {A : List ByteArray} {x : ByteArray} {k : Nat} (hA : Srt A) (h1 : ∀ y ∈ A.take k, ltS x y = false) (h2 : ∀ y ∈ A.drop k, ltS y x = false) : Srt (A.take k ++ x :: A.drop k) := by
  unfold Srt at *
  rw [List.pairwise_append, List.pairwise_cons]
  refine ⟨hA.take, ⟨h2, hA.drop⟩, ?_⟩
  intro a ha b hb
  rcases List.mem_cons.1 hb with rfl | hb
  · exact h1 a ha
  · rw [← List.take_append_drop k A, List.pairwise_append] at hA
    exact hA.2.2 a ha b hb
theorem srt_below {A : List ByteArray} {x : ByteArray} {k : Nat} (hA : Srt A) (hk : k < A.length) (h : ltS x A[k] = false) : ∀ y ∈ A.take (k + 1), ltS x y = false := by
  intro y hy
  obtain ⟨m, hm, rfl⟩ := List.getElem_of_mem hy
  simp at hm
  rw [List.getElem_take]
  rcases Nat.lt_or_ge m k with h2 | h2
  · exact leS_trans (List.pairwise_iff_getElem.1 hA m k (by omega) hk h2) h
  · obtain rfl : m = k := by omega
    exact h
theorem srt_take1 : ∀ L : List ByteArray, Srt (L.take 1)
  | [] => List.Pairwise.nil
  | x :: L => by simp [Srt]
theorem gtS_cases (a b : ByteArray) : (ltS b a = false ∧ Op.bytesLess a.toList b.toList = true) ∨ (ltS b a = false ∧ Op.bytesLess a.toList b.toList = false ∧ (a.toList == b.toList) = true) ∨ (ltS b a = true ∧ Op.bytesLess a.toList b.toList = false ∧ (a.toList == b.toList) = false) := by
  cases h : ltS b a with
  | true =>
    refine .inr (.inr ⟨rfl, ltS_asymm h, bytes_beq_false (fun e => ?_)⟩)
    subst e; rw [ltS_irrefl] at h; cases h
  | false =>
    cases h1 : ltS a b with
    | true => exact .inl ⟨rfl, h1⟩
    | false => exact .inr (.inl ⟨rfl, h1, eqS_true.2 (ltS_tri h1 h)⟩)
/-- The rows of the insertion: x at place k of A, R behind. -/
def insL (A : List ByteArray) (x : ByteArray) (R : List ByteArray) (k : Nat) : List ByteArray := A.take k ++ x :: (A.drop k ++ R)
theorem insL_len {A R : List ByteArray} {x : ByteArray} {k : Nat} (hk : k ≤ A.length) : (insL A x R k).length = A.length + 1 + R.length := by
  unfold insL; simp; omega
theorem insL_at {A R : List ByteArray} {x : ByteArray} {k : Nat} (hk : k ≤ A.length) : (insL A x R k)[k]? = some x := by
  unfold insL; rw [List.getElem?_append_right (by simp; omega)]; simp [Nat.min_eq_left hk]
theorem insL_before {A R : List ByteArray} {x : ByteArray} {k : Nat} (hk : k + 1 ≤ A.length) : (insL A x R (k + 1))[k]? = some A[k] := by
  unfold insL; rw [List.getElem?_append_left (by simp; omega)]; simp
theorem insL_swap {A R : List ByteArray} {x : ByteArray} {k : Nat} (hk : k + 1 ≤ A.length) : ((insL A x R (k + 1)).set (k + 1) A[k]).set k x = insL A x R k := by
  apply List.ext_getElem?
  intro j
  have hl : (A.take (k + 1)).length = k + 1 := by simp; omega
  have hl2 : (A.take k).length = k := by simp; omega
  have hd : A.drop k = A[k] :: A.drop (k + 1) := List.drop_eq_getElem_cons (by omega)
  unfold insL
  rw [List.getElem?_set, List.getElem?_set]
  simp only [List.length_set, List.length_append, hl, List.length_cons, List.length_drop]
  by_cases h1 : k = j
  · subst h1
    rw [if_pos rfl, if_pos (by omega), List.getElem?_append_right (by omega), hl2]
    simp
  · rw [if_neg h1]
    by_cases h2 : k + 1 = j
    · subst h2
      rw [if_pos rfl, if_pos (by omega), List.getElem?_append_right (by omega), hl2, hd]
      generalize A[k] = a
      generalize A.drop (k + 1) = D
      simp
    · rw [if_neg h2]
      rcases Nat.lt_or_ge j k with h3 | h3
      · rw [List.getElem?_append_left (by omega), List.getElem?_append_left (by omega), List.getElem?_take, List.getElem?_take, if_pos (by omega), if_pos h3]
      · rw [List.getElem?_append_right (by omega), List.getElem?_append_right (by omega), hl, hl2, hd]
        obtain ⟨d, rfl⟩ : ∃ d, j = k + 2 + d := ⟨j - k - 2, by omega⟩
        rw [show k + 2 + d - (k + 1) = d + 1 by omega, show k + 2 + d - k = d + 1 + 1 by omega]
        generalize A[k] = a
        generalize A.drop (k + 1) = D
        simp
theorem insL_perm {A R : List ByteArray} {x : ByteArray} {k : Nat} : (insL A x R k).Perm (A ++ x :: R) := by
  unfold insL
  have h1 : (A.take k ++ x :: (A.drop k ++ R)).Perm (x :: (A.take k ++ (A.drop k ++ R))) := List.perm_middle
  have h2 : (A ++ x :: R).Perm (x :: (A ++ R)) := List.perm_middle
  rw [← List.append_assoc, List.take_append_drop] at h1
  exact h1.trans h2.symm
theorem insL_app {A R : List ByteArray} {x : ByteArray} {k : Nat} : insL A x [] k ++ R = insL A x R k := by unfold insL; simp
theorem insL_full {A R : List ByteArray} {x : ByteArray} : insL A x R A.length = A ++ x :: R := by unfold insL; simp

/-! ### a place of a row of the call's own -/
theorem flat1_set {α : Type} {E : Flat α} (h1 : E.n = 1) : ∀ (L : List α) (k : Nat) (y : α) (u : Value), E.enc y = [u] → (L.flatMap E.enc).set k u = (L.set k y).flatMap E.enc
  | [], k, y, u, hu => by simp
  | x :: L, 0, y, u, hu => by
    have hl := E.len x
    rw [h1] at hl
    obtain ⟨a, ha⟩ := List.length_eq_one_iff.1 hl
    simp [ha, hu]
  | x :: L, k + 1, y, u, hu => by
    have hl := E.len x
    rw [h1] at hl
    obtain ⟨a, ha⟩ := List.length_eq_one_iff.1 hl
    have ih := flat1_set h1 L k y u hu
    simp [ha, ih]
theorem Own.set1 {α : Type} {E : Flat α} (h1 : E.n = 1) {w : World} {base : Nat} {e : TypeId} {g n cap : Nat} {L : List α} (h : Own E w base e (.slice (some ⟨g, 0, none⟩) n cap) L) (k : Nat) (y : α) (u : Value) (hu : E.enc y = [u]) :
    Own E (w.setCell ⟨g, k, none⟩ u) base e (.slice (some ⟨g, 0, none⟩) n cap) (L.set k y) := by
  have hn : n = L.length := by
    rcases h.2 with ⟨hv, _⟩ | ⟨g', cap', cur, hv, _⟩
    · cases hv
    · injection hv
  have h' : w.ownsRow base e E.n (.slice (some ⟨g, 0, none⟩) L.length cap) L.length (L.flatMap E.enc) := by rw [hn] at h; exact h
  have h2 := (h'.stored k u).1
  rw [flat1_set h1 L k y u hu] at h2
  show World.ownsRow _ base e E.n _ (L.set k y).length _
  rw [List.length_set, hn]
  exact h2
theorem Own.cellS {w : World} {base : Nat} {e : TypeId} {g n cap : Nat} {L : List ByteArray} (h : Own fStr w base e (.slice (some ⟨g, 0, none⟩) n cap) L) {k : Nat} {x : ByteArray} (hx : L[k]? = some x) : w.cell? ⟨g, k, none⟩ = some (.string x) := by
  have hn : n = L.length := by
    rcases h.2 with ⟨hv, _⟩ | ⟨g', cap', cur, hv, _⟩
    · cases hv
    · injection hv
  have h' : w.ownsRow base e 1 (.slice (some ⟨g, 0, none⟩) L.length cap) L.length (L.flatMap fStr.enc) := by rw [hn] at h; exact h
  have hk : k < L.length := by
    rcases Nat.lt_or_ge k L.length with h | h
    · exact h
    · rw [List.getElem?_eq_none h] at hx; cases hx
  rw [h'.cellAt k (by omega)]
  have := flat_get fStr.enc 1 L (fun x _ => fStr.len x) k hk 0 (by omega)
  simp only [Nat.mul_one, Nat.add_zero] at this
  rw [this]
  have e1 : L[k] = x := by rw [List.getElem?_eq_getElem hk] at hx; exact Option.some.inj hx
  rw [e1]; rfl
theorem Own.frozenS {α : Type} {E : Flat α} {w : World} {base : Nat} {e : TypeId} {g n cap : Nat} {L : List α} (h : Own E w base e (.slice (some ⟨g, 0, none⟩) n cap) L) (k : Nat) : w.frozen? ⟨g, k, none⟩ = false := by
  have hn : n = L.length := by
    rcases h.2 with ⟨hv, _⟩ | ⟨g', cap', cur, hv, _⟩
    · cases hv
    · injection hv
  have h' : w.ownsRow base e E.n (.slice (some ⟨g, 0, none⟩) L.length cap) L.length (L.flatMap E.enc) := by rw [hn] at h; exact h
  exact h'.frozenAt k
/-- The end of a call that hands back a row of its own. -/
def OwnRS {α : Type} (E : Flat α) (T : TypeId) (w : World) (xs : List α) (e : Ending) (w' : World) : Prop := ∃ v, e = .returned v ∧ Own E w' w.heap.size T v xs ∧ Below w.heap.size w w'
theorem infoStr3 : (Tryz.prog.info? 9).map (fun i => (i.zero, i.size, i.bytes)) = some (some (.string ⟨#[]⟩), 1, 16) := by kernel_rfl

end Go.Proofs.YticoiaibcgpbjaaGreatDoor

namespace Go.Proofs.YticoiaibcgpbjaaGreatDoor
open Go.RowKit


def okByte (lo hi : Int) (c : UInt8) : Bool := decide (lo ≤ (c.toNat : Int)) && decide ((c.toNat : Int) ≤ hi)
def bwAll (l : List UInt8) (lo hi : Int) : Bool := l.all (okByte lo hi)
theorem take_snoc (s : ByteArray) (k : Nat) (h : k < s.size) : s.data.toList.take (k + 1) = s.data.toList.take k ++ [s[k]] := by
  rw [List.take_succ_eq_append_getElem (by simpa using h)]; rfl
theorem bwAll_step {s : ByteArray} {k : Nat} {lo hi : Int} (h : k < s.size) (h0 : bwAll (s.data.toList.take k) lo hi = true) (h1 : lo ≤ (s[k].toNat : Int)) (h2 : (s[k].toNat : Int) ≤ hi) : bwAll (s.data.toList.take (k + 1)) lo hi = true := by
  rw [take_snoc s k h]; unfold bwAll at *; rw [List.all_append, h0]; simp [okByte, h1, h2]
theorem bwAll_bad {s : ByteArray} {k : Nat} {lo hi : Int} (h : k < s.size) (h1 : (s[k].toNat : Int) < lo ∨ hi < (s[k].toNat : Int)) : bwAll s.data.toList lo hi = false := by
  unfold bwAll
  rw [List.all_eq_false]
  refine ⟨s[k], ?_, ?_⟩
  · exact Array.mem_toList_iff.2 (Array.getElem_mem _)
  · simp [okByte]; omega
theorem bwAll_full {s : ByteArray} {k : Nat} {lo hi : Int} (h : s.size ≤ k) (h0 : bwAll (s.data.toList.take k) lo hi = true) : bwAll s.data.toList lo hi = true := by
  rwa [List.take_of_length_le (by simpa using h)] at h0

set_option maxHeartbeats 400000 in
theorem bytesWithin_any (s : ByteArray) (lo hi : Int) (w : World) (hs : s.size ≤ 9223372036854775807) :
    Calls Tryz.prog 290 #[.string s, .int .u8 lo, .int .u8 hi] w fun e w' => e = .returned (.bool (bwAll s.data.toList lo hi)) ∧ w = w' := by
  go_enter Tryz.func290, Tryz.ntmps290
  go_wp2
  go_loop [10] (fun i => ∃ k : Nat, k ≤ s.size ∧ i = .int .i64 k ∧ bwAll (s.data.toList.take k) lo hi = true) (fun i => s.size - (intOf i).toNat)
  case atStart => exact ⟨0, Nat.zero_le _, rfl, rfl⟩
  case round =>
    obtain ⟨k, hk, rfl, h0⟩ := hrel
    have H0 := Lib.hid h0
    clear h0
    by_cases hlt : k < s.size
    · go_wp2
      all_goals first
        | (go_ret; exact ⟨ret_bool (bwAll_bad hlt (by omega)).symm, rfl⟩)
        | (go_round
           case rel => exact ⟨k + 1, by omega, by go_num, bwAll_step hlt H0.out (by omega) (by omega)⟩
           case measure => simp [intOf]; omega)
    · go_wp2
      go_ret
      exact ⟨ret_bool (bwAll_full (by omega) H0.out).symm, rfl⟩

def lineB (s : ByteArray) : Bool := bwAll s.data.toList 32 126 && decide (s.size ≤ 100)

set_option maxHeartbeats 400000 in
theorem lineValid_any (s : ByteArray) (w : World) (hs : s.size ≤ 9223372036854775807) :
    Calls Tryz.prog 378 #[.string s] w fun e w' => e = .returned (.bool (lineB s)) ∧ w = w' := by
  unfold lineB
  by_cases h : s.size ≤ 100
  all_goals
    go_enter Tryz.func378, Tryz.ntmps378
    go_wp2_with (go_at_call 290; refine (bytesWithin_any _ _ _ _ hs).mono ?_; rintro e w' ⟨rfl, rfl⟩)
    go_ret
    exact ⟨ret_bool (by simp [h]), rfl⟩

def linesB (l : List ByteArray) : Bool := l.all lineB && decide (l.length ≤ 200)
theorem linesAll_step {l : List ByteArray} {k : Nat} (h : k < l.length) (h0 : (l.take k).all lineB = true) (h1 : lineB l[k] = true) : (l.take (k + 1)).all lineB = true := by
  rw [List.take_succ_eq_append_getElem h, List.all_append, h0]; simp [h1]
theorem linesAll_bad {l : List ByteArray} {k : Nat} (h : k < l.length) (h1 : lineB l[k] = false) : l.all lineB = false := by
  rw [List.all_eq_false]; exact ⟨l[k], List.getElem_mem h, by simp [h1]⟩
theorem linesAll_full {l : List ByteArray} {k : Nat} (h : l.length ≤ k) (h0 : (l.take k).all lineB = true) : l.all lineB = true := by
  rwa [List.take_of_length_le h] at h0

set_option maxRecDepth 100000 in
set_option maxHeartbeats 400000 in
theorem implValidReport_any (v : Value) (xs : List ByteArray) (fp : List Nat) (w : World) (hx : Sl fStr.cod w v xs fp) :
    Calls Tryz.prog 342 #[v] w fun e w' => e = .returned (.bool (linesB xs)) ∧ w = w' := by
  unfold linesB
  obtain ⟨A, cap, rfl, hlen, hcap⟩ := hx.form
  by_cases hl : xs.length ≤ 200
  · go_enter Tryz.func342, Tryz.ntmps342
    go_wp2
    go_loop [10] (fun i => ∃ k : Nat, k ≤ xs.length ∧ i = .int .i64 k ∧ (xs.take k).all lineB = true) (fun i => xs.length - (intOf i).toNat)
    case atStart => exact ⟨0, Nat.zero_le _, rfl, rfl⟩
    case round =>
      obtain ⟨k, hk, rfl, h0⟩ := hrel
      have H0 := Lib.hid h0
      clear h0
      by_cases hlt : k < xs.length
      · obtain ⟨b, off, rfl, _, hok, hc, _⟩ := hx.cell1 rfl hlt rfl
        by_cases hb : lineB xs[k] = true
        · go_wp2_with (go_at_call 378; refine (lineValid_any _ _ hok).mono ?_; rintro e w' ⟨rfl, rfl⟩)
          go_round
          case rel => exact ⟨k + 1, by omega, by go_num, linesAll_step hlt H0.out hb⟩
          case measure => simp [intOf]; omega
        · have hb' : lineB xs[k] = false := by simpa using hb
          go_wp2_with (go_at_call 378; refine (lineValid_any _ _ hok).mono ?_; rintro e w' ⟨rfl, rfl⟩)
          go_ret
          exact ⟨ret_bool (by rw [linesAll_bad hlt hb']; rfl), rfl⟩
      · go_wp2
        go_ret
        exact ⟨ret_bool (by rw [linesAll_full (by omega) H0.out] <;> simp [hl]), rfl⟩
  · go_enter Tryz.func342, Tryz.ntmps342
    go_wp2
    go_ret
    exact ⟨ret_bool (by simp <;> omega), rfl⟩

end Go.Proofs.YticoiaibcgpbjaaGreatDoor
