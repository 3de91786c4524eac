
/- Words for data in memory: a value that reads as a datum, with the blocks that the reading meets. No function of the program is named here. -/
import Derived.Test.YtjfaafoldllppaaRows
import Derived.WalkKit
import Derived.WalkSpells
import Derived.WalkLawsBesides
import Derived.Lib.Hide
import Derived.Deep.Draws
import Derived.Deep.QuietTactic
import Derived.BigQuiet
import Derived.Deep.DeepFit
import Derived.Lib.QuietBelow
namespace Go.Proofs.Ytjfaafoldllppaa
open Go.RowKit

theorem ret_bool {a b : Bool} (h : a = b) : Ending.returned (.bool a) = .returned (.bool b) := by rw [h]
theorem ret_str {a b : ByteArray} (h : a = b) : Ending.returned (.string a) = .returned (.string b) := by rw [h]
theorem ret_int {k : IntKind} {a b : Int} (h : a = b) : Ending.returned (.int k a) = .returned (.int k b) := by rw [h]

theorem bytes_toList_inj {a b : ByteArray} (h : a.toList = b.toList) : a = b := by
  rw [ByteArray.toList_eq, ByteArray.toList_eq] at h
  exact ByteArray.ext (Array.toList_inj.mp h)
theorem bytes_beq_false {a b : ByteArray} (h : ¬ a = b) : (a.toList == b.toList) = false := by
  rw [beq_eq_false_iff_ne]
  exact fun e => h (bytes_toList_inj e)

/-- How a datum lies in cells: the cells, the datum, the blocks behind it. -/
structure Cod (α : Type) where
  n : Nat
  rd : World → List Value → α → List Nat → Prop
  pos : 0 < n
  len : ∀ {w cs x fp}, rd w cs x fp → cs.length = n
  lt : ∀ {w cs x fp}, rd w cs x fp → ∀ b ∈ fp, b < w.heap.size
  keep : ∀ {w w' cs x fp}, rd w cs x fp → (∀ b ∈ fp, w'.heap[b]? = w.heap[b]?) → rd w' cs x fp

/-- A datum whose cells are a function of it: no memory behind it. -/
structure Flat (α : Type) where
  n : Nat
  enc : α → List Value
  ok : α → Prop
  pos : 0 < n
  len : ∀ x, (enc x).length = n
  one : ∀ x, ∀ v ∈ enc x, v.oneCell' = true

def Flat.cod {α : Type} (E : Flat α) : Cod α where
  n := E.n
  rd := fun _ cs x fp => cs = E.enc x ∧ E.ok x ∧ fp = []
  pos := E.pos
  len := by rintro w cs x fp ⟨rfl, _, _⟩; exact E.len x
  lt := by rintro w cs x fp ⟨_, _, rfl⟩ b hb; simp at hb
  keep := by rintro w w' cs x fp h _; exact h

def fInt : Flat Int where
  n := 1
  enc := fun x => [.int .i64 x]
  ok := fun x => -9223372036854775808 ≤ x ∧ x ≤ 9223372036854775807
  pos := by omega
  len := fun _ => rfl
  one := by intro x v hv; simp at hv; subst hv; rfl
def fStr : Flat ByteArray where
  n := 1
  enc := fun x => [.string x]
  ok := fun x => x.size ≤ 9223372036854775807
  pos := by omega
  len := fun _ => rfl
  one := by intro x v hv; simp at hv; subst hv; rfl
def fBool : Flat Bool where
  n := 1
  enc := fun x => [.bool x]
  ok := fun _ => True
  pos := by omega
  len := fun _ => rfl
  one := by intro x v hv; simp at hv; subst hv; rfl
def fByte : Flat UInt8 where
  n := 1
  enc := fun x => [.int .u8 x.toNat]
  ok := fun _ => True
  pos := by omega
  len := fun _ => rfl
  one := by intro x v hv; simp at hv; subst hv; rfl

/-- A slice value that reads as a list. -/
def Sl {α : Type} (E : Cod α) (w : World) (v : Value) (xs : List α) (fp : List Nat) : Prop :=
  ∃ A cap, v = .slice A xs.length cap ∧ xs.length ≤ cap ∧ cap ≤ maxLen ∧
    ((xs = [] ∧ fp = []) ∨ ∃ b off F, A = some ⟨b, off, none⟩ ∧ b < w.heap.size ∧ fp = b :: (List.range xs.length).flatMap F ∧
      ∀ i (h : i < xs.length), ∃ cs, (∀ j, j < E.n → w.cell? ⟨b, off + i * E.n + j, none⟩ = cs[j]?) ∧ (∀ j, j < E.n → w.frozen? ⟨b, off + i * E.n + j, none⟩ = false) ∧ E.rd w cs xs[i] (F i))

theorem Sl.keep {α : Type} {E : Cod α} {w w' : World} {v : Value} {xs : List α} {fp : List Nat} (h : Sl E w v xs fp) (hk : ∀ b ∈ fp, w'.heap[b]? = w.heap[b]?) (hs : w.heap.size ≤ w'.heap.size) : Sl E w' v xs fp := by
  obtain ⟨A, cap, hv, hl, hc, hr⟩ := h
  refine ⟨A, cap, hv, hl, hc, ?_⟩
  rcases hr with ⟨h1, h2⟩ | ⟨b, off, F, hA, hb, hfp, hi⟩
  · exact .inl ⟨h1, h2⟩
  · refine .inr ⟨b, off, F, hA, by omega, hfp, fun i hlt => ?_⟩
    obtain ⟨cs, h1, h2, h3⟩ := hi i hlt
    have hbk : w'.heap[b]? = w.heap[b]? := hk b (by rw [hfp]; simp)
    refine ⟨cs, fun j hj => (World.cell?_of_block (w := w) (w' := w') (a := ⟨b, off + i * E.n + j, none⟩) hbk).trans (h1 j hj), fun j hj => (World.frozen?_of_block (w := w) (w' := w') (a := ⟨b, off + i * E.n + j, none⟩) hbk).trans (h2 j hj), E.keep h3 fun c hc => hk c ?_⟩
    rw [hfp]
    exact List.mem_cons_of_mem _ (List.mem_flatMap.2 ⟨i, by simpa using hlt, hc⟩)

theorem Sl.lt {α : Type} {E : Cod α} {w : World} {v : Value} {xs : List α} {fp : List Nat} (h : Sl E w v xs fp) : ∀ b ∈ fp, b < w.heap.size := by
  obtain ⟨A, cap, hv, hl, hc, hr⟩ := h
  intro c hc
  rcases hr with ⟨h1, rfl⟩ | ⟨b, off, F, hA, hb, rfl, hi⟩
  · simp at hc
  · rcases List.mem_cons.1 hc with rfl | hc
    · exact hb
    · obtain ⟨i, hi1, hi2⟩ := List.mem_flatMap.1 hc
      obtain ⟨cs, _, _, h3⟩ := hi i (by simpa using hi1)
      exact E.lt h3 c hi2

theorem Sl.below {α : Type} {E : Cod α} {w w' : World} {v : Value} {xs : List α} {fp : List Nat} {B : Nat} (h : Sl E w v xs fp) (hb : Below B w w') (hB : ∀ b ∈ fp, b < B) : Sl E w' v xs fp :=
  h.keep (fun b hm => hb.block b (hB b hm)) hb.size
theorem Sl.below' {α : Type} {E : Cod α} {w w' : World} {v : Value} {xs : List α} {fp : List Nat} (h : Sl E w v xs fp) (hb : Below w.heap.size w w') : Sl E w' v xs fp := h.below hb h.lt

/-- Slices as data. -/
def Cod.slice {α : Type} (E : Cod α) : Cod (List α) where
  n := 1
  rd := fun w cs xs fp => ∃ v, cs = [v] ∧ Sl E w v xs fp
  pos := by omega
  len := by rintro w cs x fp ⟨v, rfl, _⟩; rfl
  lt := by rintro w cs x fp ⟨v, _, h⟩; exact h.lt
  keep := by
    rintro w w' cs xs fp ⟨v, rfl, h⟩ hk
    refine ⟨v, rfl, ?_⟩
    obtain ⟨A, cap, hv, hl, hc, hr⟩ := h
    refine ⟨A, cap, hv, hl, hc, ?_⟩
    rcases hr with ⟨h1, h2⟩ | ⟨b, off, F, hA, hb, hfp, hi⟩
    · exact .inl ⟨h1, h2⟩
    · have hbk : w'.heap[b]? = w.heap[b]? := hk b (by rw [hfp]; simp)
      have hb' : b < w'.heap.size := by
        rcases Nat.lt_or_ge b w'.heap.size with hlt | hge
        · exact hlt
        · rw [Array.getElem?_eq_none hge, Array.getElem?_eq_getElem hb] at hbk; cases hbk
      refine .inr ⟨b, off, F, hA, hb', hfp, fun i hlt => ?_⟩
      obtain ⟨cs, h1, h2, h3⟩ := hi i hlt
      refine ⟨cs, fun j hj => (World.cell?_of_block (w := w) (w' := w') (a := ⟨b, off + i * E.n + j, none⟩) hbk).trans (h1 j hj), fun j hj => (World.frozen?_of_block (w := w) (w' := w') (a := ⟨b, off + i * E.n + j, none⟩) hbk).trans (h2 j hj), E.keep h3 fun c hc => hk c ?_⟩
      rw [hfp]
      exact List.mem_cons_of_mem _ (List.mem_flatMap.2 ⟨i, by simpa using hlt, hc⟩)

/-- The shape of a slice value, ahead of a walk. -/
theorem Sl.form {α : Type} {E : Cod α} {w : World} {v : Value} {xs : List α} {fp : List Nat} (h : Sl E w v xs fp) :
    ∃ A cap, v = .slice A xs.length cap ∧ xs.length ≤ cap ∧ cap ≤ 9223372036854775807 := by
  obtain ⟨A, cap, hv, hl, hc, _⟩ := h
  exact ⟨A, cap, hv, hl, by unfold maxLen at hc; exact hc⟩

/-- One element of a slice of flat data: its cells. -/
theorem Sl.at_ {α : Type} {E : Flat α} {w : World} {A : Option Addr} {len cap : Nat} {xs : List α} {fp : List Nat} (h : Sl E.cod w (.slice A len cap) xs fp) {k : Nat} (hk : k < xs.length) :
    ∃ b off, A = some ⟨b, off, none⟩ ∧ b ∈ fp ∧ E.ok xs[k] ∧ (∀ j, j < E.n → w.cell? ⟨b, off + k * E.n + j, none⟩ = (E.enc xs[k])[j]?) ∧ (∀ j, j < E.n → w.frozen? ⟨b, off + k * E.n + j, none⟩ = false) := by
  obtain ⟨A', cap', hv, hl, hc, hr⟩ := h
  injection hv with hA hn hcap
  subst hA
  rcases hr with ⟨h1, h2⟩ | ⟨b, off, F, hA, hb, hfp, hi⟩
  · subst h1; simp at hk
  · obtain ⟨cs, h1, h2, h3, h4, h5⟩ := hi k hk
    subst h3
    exact ⟨b, off, hA, by rw [hfp]; simp, h4, h1, h2⟩

theorem Sl.cell1 {α : Type} {E : Flat α} {w : World} {A : Option Addr} {len cap : Nat} {xs : List α} {fp : List Nat} (h : Sl E.cod w (.slice A len cap) xs fp) (h1 : E.n = 1) {k : Nat} (hk : k < xs.length) {u : Value} (hu : E.enc xs[k] = [u]) :
    ∃ b off, A = some ⟨b, off, none⟩ ∧ b ∈ fp ∧ E.ok xs[k] ∧ w.cell? ⟨b, off + k, none⟩ = some u ∧ w.frozen? ⟨b, off + k, none⟩ = false := by
  obtain ⟨b, off, hA, hb, hok, hc, hf⟩ := h.at_ hk
  refine ⟨b, off, hA, hb, hok, ?_, ?_⟩
  · have := hc 0 (by omega); rw [h1, hu] at this; simpa using this
  · have := hf 0 (by omega); rw [h1] at this; simpa using this

theorem flat_get {α : Type} (f : α → List Value) (n : Nat) : ∀ (xs : List α), (∀ x ∈ xs, (f x).length = n) → ∀ (i : Nat) (h : i < xs.length) (j : Nat), j < n → (xs.flatMap f)[i * n + j]? = (f xs[i])[j]?
  | [], _, i, h, _, _ => by simp at h
  | x :: xs, hl, 0, _, j, hj => by
    have hx : (f x).length = n := hl x (by simp)
    rw [List.flatMap_cons, Nat.zero_mul, Nat.zero_add, List.getElem?_append_left (by omega)]
    rfl
  | x :: xs, hl, i + 1, h, j, hj => by
    have hx : (f x).length = n := hl x (by simp)
    rw [List.flatMap_cons, List.getElem?_append_right (by rw [hx, Nat.succ_mul]; omega)]
    have e : (i + 1) * n + j - (f x).length = i * n + j := by rw [hx, Nat.succ_mul]; omega
    rw [e]
    exact flat_get f n xs (fun y hy => hl y (by simp [hy])) i (by simpa using h) j hj

theorem flat_len {α : Type} (f : α → List Value) (n : Nat) : ∀ (xs : List α), (∀ x ∈ xs, (f x).length = n) → (xs.flatMap f).length = xs.length * n
  | [], _ => by simp
  | x :: xs, hl => by
    rw [List.flatMap_cons, List.length_append, flat_len f n xs (fun y hy => hl y (by simp [hy])), hl x (by simp), List.length_cons, Nat.succ_mul]; omega

/-- A row of the call's own, of flat data, as a slice. -/
theorem Sl.of_own {α : Type} {E : Flat α} {w : World} {base : Nat} {e : TypeId} {v : Value} {xs : List α} {n : Nat} (hn : xs.length = n) (h : w.ownsRow base e E.n v n (xs.flatMap E.enc)) (hok : ∀ x ∈ xs, E.ok x) :
    ∃ fp, Sl E.cod w v xs fp ∧ (∀ b ∈ fp, base ≤ b) ∧ fp.Nodup := by
  subst hn
  obtain ⟨h1, h2⟩ := h
  rcases h2 with ⟨hv, hz⟩ | ⟨g, cap, cur, hv, hg, hh, hnc, hcm, hsz, hxs⟩
  · have : xs = [] := List.eq_nil_of_length_eq_zero hz
    subst this
    exact ⟨[], ⟨none, 0, hv, by simp, by simp [maxLen], .inl ⟨rfl, rfl⟩⟩, by simp, by simp⟩
  · rcases Nat.eq_zero_or_pos xs.length with h0 | h0
    · have : xs = [] := List.eq_nil_of_length_eq_zero h0
      subst this
      exact ⟨[], ⟨_, cap, hv, hnc, hcm, .inl ⟨rfl, rfl⟩⟩, by simp, by simp⟩
    · have hgl : g < w.heap.size := by
        rcases Nat.lt_or_ge g w.heap.size with hlt | hge
        · exact hlt
        · rw [Array.getElem?_eq_none hge] at hh; cases hh
      refine ⟨[g], ⟨_, cap, hv, hnc, hcm, .inr ⟨g, 0, fun _ => [], rfl, hgl, by simp, fun i hi => ⟨E.enc xs[i], fun j hj => ?_, fun j hj => ?_, rfl, hok _ (List.getElem_mem hi), rfl⟩⟩⟩, by simpa using hg, by simp⟩
      · have hc : w.cell? ⟨g, 0 + i * E.n + j, none⟩ = cur[i * E.n + j]? := by simp [World.cell?, hh]
        rw [show E.cod.n = E.n from rfl, hc, ← flat_get E.enc E.n xs (fun x _ => E.len x) i hi j hj, ← hxs, List.getElem?_take_of_lt, Array.getElem?_toList]
        have : (i + 1) * E.n ≤ xs.length * E.n := Nat.mul_le_mul_right _ hi
        have hj' : j < E.n := hj
        rw [Nat.succ_mul] at this
        omega
      · simp [World.frozen?, hh]

/-! ### A row of the call's own that is filled place by place -/

theorem run_make_rowN {P : Program} (t e : TypeId) (i : TypeInfo) (z : Value) (ht : P.underlying t = some (.slice e)) (hi : P.info? e = some i) (hz : i.zero = some z)
    (kl kc : IntKind) (n c : Nat) (hnc : n ≤ c) (hbytes : i.bytes * c ≤ 281474976710656) (h63 : c ≤ 9223372036854775807) (w : World) :
    (Instr.makeSlice t (.int kl (n : Int)) (.int kc (c : Int))).run P w = .ok (.slice (some ⟨w.heap.size, 0, none⟩) n c) (w.alloc (.cells (madeCells z.cells (c * i.size)) e)) := by
  have hb : (i.bytes : Int) * (c : Int) ≤ 281474976710656 := by
    have h : ((i.bytes * c : Nat) : Int) ≤ 281474976710656 := by omega
    rwa [Int.natCast_mul] at h
  have hr := run_make (P := P) w t e i z ht hi hz kl kc n c (by omega) (by omega) hb (by omega)
  simp only [Int.toNat_natCast] at hr
  exact hr

/-- Row g of n places of type e, of which the first ones hold ys. -/
def Fill (w : World) (base g : Nat) (e : TypeId) (size n : Nat) (ys : List Value) : Prop :=
  ∃ zs : List Value, w.ownsRow base e size (.slice (some ⟨g, 0, none⟩) n n) n (ys ++ zs)

theorem Fill.start (w : World) (e : TypeId) (size n : Nat) (z : Array Value) (hn : n ≤ 9223372036854775807) : Fill (w.alloc (.cells (madeCells z (n * size)) e)) w.heap.size w.heap.size e size n [] :=
  ⟨_, World.ownsRow_lit w _ n (Nat.le_refl _) (by unfold maxLen; exact hn) (size_madeCells _ _)⟩

theorem Fill.start1 (w : World) (e : TypeId) (n : Nat) (z : Array Value) (hn : n ≤ 9223372036854775807) : Fill (w.alloc (.cells (madeCells z n) e)) w.heap.size w.heap.size e 1 n [] := by
  have := Fill.start w e 1 n z hn
  rwa [Nat.mul_one] at this

section
variable {w w' : World} {base g : Nat} {e : TypeId} {size n : Nat} {ys : List Value}
theorem Fill.len (h : Fill w base g e size n ys) : ys.length ≤ n * size := by
  obtain ⟨zs, h⟩ := h
  have := h.1
  simp at this
  omega
theorem Fill.lt (h : Fill w base g e size n ys) : g < w.heap.size := by
  obtain ⟨zs, h⟩ := h
  exact (h.lt g rfl).2
theorem Fill.cell (h : Fill w base g e size n ys) {j : Nat} (hj : j < n * size) : ∃ u, w.cell? ⟨g, j, none⟩ = some u := by
  obtain ⟨zs, h⟩ := h
  refine ⟨_, (h.cellAt j hj).trans (List.getElem?_eq_getElem (by rw [h.1]; exact hj))⟩
theorem Fill.frozen (h : Fill w base g e size n ys) (j : Nat) : w.frozen? ⟨g, j, none⟩ = false := by
  obtain ⟨zs, h⟩ := h
  exact h.frozenAt j
/-- The next place gets its value. -/
theorem Fill.put (h : Fill w base g e size n ys) (hj : ys.length < n * size) (u : Value) : Fill (w.setCell ⟨g, ys.length, none⟩ u) base g e size n (ys ++ [u]) := by
  obtain ⟨zs, h⟩ := h
  have hl := h.1
  rw [List.length_append] at hl
  match zs, hl with
  | z :: zs, _ =>
    refine ⟨zs, ?_⟩
    have := (h.stored ys.length u).1
    rw [List.set_append_right _ _ (Nat.le_refl _), Nat.sub_self, List.set_cons_zero] at this
    rw [List.append_assoc]
    exact this
  | [], hl => simp at hl; omega
theorem Fill.kept {row : Option Nat} (h : Fill w base g e size n ys) (hg : w.grownBy w' row) (hr : row ≠ some g) : Fill w' base g e size n ys := by
  obtain ⟨zs, h⟩ := h
  exact ⟨zs, h.kept hg (.inr (by simp [Value.ownBlock]; exact fun h => hr h.symm))⟩
theorem Fill.below {B : Nat} (h : Fill w base g e size n ys) (hb : Below B w w') (hB : g < B) : Fill w' base g e size n ys := by
  obtain ⟨zs, h⟩ := h
  obtain ⟨h1, h2⟩ := h
  refine ⟨zs, h1, ?_⟩
  rcases h2 with h2 | ⟨g', cap, cur, hv, hg, hh, r⟩
  · exact .inl h2
  · have : g' = g := by injection hv with h _ _; injection h with h; injection h with h _ _; exact h.symm
    subst this
    exact .inr ⟨g', cap, cur, hv, hg, by rw [hb.block _ hB]; exact hh, r⟩
theorem Fill.done (h : Fill w base g e size n ys) (hy : ys.length = n * size) : w.ownsRow base e size (.slice (some ⟨g, 0, none⟩) n n) n ys := by
  obtain ⟨zs, h⟩ := h
  have hl := h.1
  rw [List.length_append, hy] at hl
  have : zs = [] := List.eq_nil_of_length_eq_zero (by omega)
  subst this
  rwa [List.append_nil] at h
end

theorem flat_take_step {α : Type} {E : Flat α} {xs : List α} {k : Nat} (hk : k < xs.length) : (xs.take (k + 1)).flatMap E.enc = (xs.take k).flatMap E.enc ++ E.enc xs[k] := by
  rw [List.take_succ_eq_append_getElem hk, List.flatMap_append]; simp
theorem flat_take_len {α : Type} {E : Flat α} {xs : List α} {k : Nat} (hk : k ≤ xs.length) : ((xs.take k).flatMap E.enc).length = k * E.n := by
  rw [flat_len E.enc E.n _ (fun x _ => E.len x), List.length_take, Nat.min_eq_left hk]
/-- A round that fills one place of one cell. -/
theorem fill_step {α : Type} {E : Flat α} {w : World} {base g : Nat} {e : TypeId} {xs : List α} {k : Nat} {u : Value} (h1 : E.n = 1) (hf : Fill w base g e 1 xs.length ((xs.take k).flatMap E.enc)) (hk : k < xs.length) (hu : E.enc xs[k] = [u]) :
    Fill (w.setCell ⟨g, k, none⟩ u) base g e 1 xs.length ((xs.take (k + 1)).flatMap E.enc) := by
  have hl : ((xs.take k).flatMap E.enc).length = k := by rw [flat_take_len (by omega), h1]; omega
  have := hf.put (by rw [hl]; omega) u
  rw [hl] at this
  rw [flat_take_step hk, hu]
  exact this
theorem Sl.oks {α : Type} {E : Flat α} {w : World} {v : Value} {xs : List α} {fp : List Nat} (h : Sl E.cod w v xs fp) : ∀ x ∈ xs, E.ok x := by
  intro x hx
  obtain ⟨A, cap, rfl, _, _⟩ := h.form
  obtain ⟨k, hk, rfl⟩ := List.getElem_of_mem hx
  obtain ⟨_, _, _, _, hok, _⟩ := h.at_ hk
  exact hok

theorem below_drewN {B : Nat} {a w : World} (h : Below B a w) (n : Nat) : Below B a (w.drewN n) := ⟨h.os, h.tape, h.output, h.size, h.block⟩
theorem Sl.drewN {α : Type} {E : Cod α} {w : World} {v : Value} {xs : List α} {fp : List Nat} (h : Sl E w v xs fp) (n : Nat) : Sl E (w.drewN n) v xs fp := h.below' (below_drewN (Below.refl _ _) n)
/-- The end of a call that says true and turns nothing that was there. -/
def YesR (w : World) (e : Ending) (w' : World) : Prop := e = .returned (.bool true) ∧ Below w.heap.size w w'

theorem sum_take_step_ {α : Type} (f : α → Nat) (xs : List α) (k : Nat) (h : k < xs.length) : ((xs.take (k + 1)).map f).sum = ((xs.take k).map f).sum + f xs[k] := by
  rw [List.take_succ_eq_append_getElem h, List.map_append, List.sum_append]; simp
theorem Fill.put_at {w : World} {base g : Nat} {e : TypeId} {size n : Nat} {ys : List Value} (h : Fill w base g e size n ys) {p : Nat} (hp : p = ys.length) (hj : p < n * size) (u : Value) : Fill (w.setCell ⟨g, p, none⟩ u) base g e size n (ys ++ [u]) := by
  subst hp; exact h.put hj u

theorem quiet_left {P : Program} {f : FuncId} {args : Array Value} {w : World} {n : Nat} {v : Value}
    (h : Calls P f args (w.drewN n) fun e w' => e = .returned v ∧ w.drewN n = w') : Calls P f args (w.drewN n) fun e w'' => e = .returned v ∧ ∃ m, w'' = w.drewN m :=
  h.mono fun _ _ ⟨he, hm⟩ => ⟨he, n, hm.symm⟩

/-- What a size check leaves: it has failed, or the rest is what is left. -/
def szPost (left : Int) (tot : Nat) (r : Int) : Prop := r = -1 ∨ (0 ≤ r ∧ r + tot = left)
def SzR (left : Int) (tot : Nat) (w : World) (e : Ending) (w' : World) : Prop := ∃ r : Int, e = .returned (.int .i64 r) ∧ szPost left tot r ∧ Below w.heap.size w w'
theorem SzR.no {left : Int} {tot : Nat} {w w' : World} (h : Below w.heap.size w w') : SzR left tot w (.returned (.int .i64 (-1))) w' := ⟨-1, rfl, .inl rfl, h⟩
theorem SzR.yes {left r : Int} {tot : Nat} {w w' : World} (h0 : 0 ≤ r) (h1 : r + tot = left) (h : Below w.heap.size w w') : SzR left tot w (.returned (.int .i64 r)) w' := ⟨r, rfl, .inr ⟨h0, h1⟩, h⟩

/-- A value that the call has made: it reads as the datum, through new blocks, none of them twice. -/
structure New {α : Type} (E : Cod α) (w : World) (v : Value) (xs : List α) (w' : World) : Prop where
  rd : ∃ fp, Sl E w' v xs fp ∧ (∀ b ∈ fp, w.heap.size ≤ b) ∧ fp.Nodup
  below : Below w.heap.size w w'
def NewR {α : Type} (E : Cod α) (w : World) (xs : List α) (e : Ending) (w' : World) : Prop := ∃ v, e = .returned v ∧ New E w v xs w'

/-! ### append of one element that has just been laid in a block of its own -/
theorem wpList_append_one {P : Program} {w : World} {ops : Array Oper} {rest : List Oper} {o : Oper} {a : Act} {Q : Exit → Act → World → Prop} (hgd : o.guard = none) (s x : Operand) (t : TypeId)
    (ho : o.op = .call { callee := .builtin .append, args := #[s, x], argTypes := #[t, t] })
    (base : Nat) (e : TypeId) (i : TypeInfo) (z : Value) (size bytes : Nat) (ht : P.underlying t = some (.slice e)) (hi : P.info? e = some i) (hz : i.zero = some z)
    (hsize : i.size = size) (hby : i.bytes = bytes) (hzs : z.cells.size = size) (hsz : 0 < size)
    (v : Value) (n : Nat) (xs : List Value) (hs : a.eval s = v) (hown : w.ownsRow base e size v n xs) (us : List Value) (hul : us.length = size) (h1 : ∀ u ∈ us, u.oneCell' = true)
    (hx : a.eval x = .slice (some ⟨w.heap.size, 0, none⟩) 1 1) (hn : n ≤ 1000000000) (hb : bytes ≤ 1000) (hbase : base ≤ w.heap.size)
    (h : ∀ v' w', w'.ownsRow base e size v' (n + 1) (xs ++ us) → Below base w w' → w.grownBy w' v.ownBlock → w.heap.size < w'.heap.size → wpList P ops Q rest (a.put o.dst v') w') : wpList P ops Q (o :: rest) a (w.alloc (.cells us.toArray e)) := by
  refine wpList_append_own _ hgd s x t ho base e i z size bytes ht hi hz hsize hby hzs hsz v n xs hs (hown.alloc _) ⟨w.heap.size, 0, none⟩ 1 1 us hx (by omega) ?_ h1 (by unfold maxLen; omega) ?_ (by simp; omega) ?_
  · intro j u hj
    have : (⟨w.heap.size, 0, none⟩ : Addr).add j = ⟨w.heap.size, j, none⟩ := by unfold Addr.add; by_cases h0 : j = 0 <;> simp [h0]
    rw [this, World.cell?_alloc_at _ _ _ _ rfl]
    simpa using hj
  · have : (n + 1) * bytes ≤ 1000000001 * 1000 := Nat.mul_le_mul (by omega) hb
    omega
  · intro v' w' h2 h3 _
    have h4 := h3.size
    simp at h4
    refine h v' w' h2 ?_ ⟨h3.os, h3.tape, h3.output, by omega, fun k hk hne => (h3.block k (by simp; omega) hne).trans (Below.heap_alloc w _ k hk)⟩ (by omega)
    exact ((Below.refl _ _).alloc hbase _).grown h3 (by simp; omega) (fun k hk => by
      have := (hown.alloc (.cells us.toArray e)).lt k hk
      exact this.1)

end Go.Proofs.Ytjfaafoldllppaa
