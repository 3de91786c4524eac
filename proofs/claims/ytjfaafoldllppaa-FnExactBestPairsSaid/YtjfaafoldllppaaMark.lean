
/- Marks: the given helpers that write marks into what a call has returned, and look whether they still stand. -/
import Derived.Test.YtjfaafoldllppaaBase
namespace Go.Proofs.Ytjfaafoldllppaa
open Go.RowKit

/-! ### cells in a row -/
def Cells (w : World) (b off : Nat) (vs : List Value) : Prop := ∀ j, j < vs.length → w.cell? ⟨b, off + j, none⟩ = vs[j]? ∧ w.frozen? ⟨b, off + j, none⟩ = false

section
variable {w w' : World} {b off : Nat} {vs : List Value}
theorem Cells.get (h : Cells w b off vs) {j : Nat} (hj : j < vs.length) : w.cell? ⟨b, off + j, none⟩ = some vs[j] := by
  rw [(h j hj).1]; exact List.getElem?_eq_getElem hj
theorem Cells.free (h : Cells w b off vs) {j : Nat} (hj : j < vs.length) : w.frozen? ⟨b, off + j, none⟩ = false := (h j hj).2
theorem Cells.keep (h : Cells w b off vs) (hk : w'.heap[b]? = w.heap[b]?) : Cells w' b off vs := fun j hj =>
  ⟨(World.cell?_of_block (w := w) (w' := w') (a := ⟨b, off + j, none⟩) hk).trans (h j hj).1, (World.frozen?_of_block (w := w) (w' := w') (a := ⟨b, off + j, none⟩) hk).trans (h j hj).2⟩
theorem frozen?_setCell (w : World) (p q : Addr) (u : Value) : (w.setCell p u).frozen? q = w.frozen? q := by
  simp only [World.frozen?, World.setCell, Array.getElem?_modify]
  by_cases h : p.block = q.block
  · rw [if_pos h]
    cases hh : w.heap[q.block]? with
    | none => simp
    | some o => cases o <;> simp
  · rw [if_neg h]
theorem Cells.set (h : Cells w b off vs) {p : Nat} {j : Nat} (hp : p = off + j) (hj : j < vs.length) (u : Value) : Cells (w.setCell ⟨b, p, none⟩ u) b off (vs.set j u) := by
  subst hp
  intro i hi
  rw [List.length_set] at hi
  refine ⟨?_, (frozen?_setCell _ _ _ _).trans (h i hi).2⟩
  by_cases he : i = j
  · subst he
    rw [List.getElem?_set_self hj]
    have hc := (h i hi).1
    rw [List.getElem?_eq_getElem hi] at hc
    simp only [World.cell?] at hc ⊢
    simp only [World.setCell, Array.getElem?_modify]
    cases hh : w.heap[b]? with
    | none => rw [hh] at hc; cases hc
    | some o =>
      rw [hh] at hc
      cases o with
      | cells c e f =>
        simp at hc
        simp only [Option.map_some, if_true]
        simp
        have : off + i < c.size := by
          rcases Nat.lt_or_ge (off + i) c.size with h | h
          · exact h
          · rw [Array.getElem?_eq_none h] at hc; cases hc
        simp [this]
      | _ => simp at hc
  · rw [List.getElem?_set_ne (fun e => he e.symm), World.cell?_setCell_other _ _ _ _ (by simp <;> omega)]
    exact (h i hi).1
end

theorem Cells.put {w : World} {b off : Nat} {pre l : List Value} (h : Cells w b off (pre ++ l)) {m j p : Nat} (hm : pre.length = m) (hp : p = off + (m + j)) (hj : j < l.length) (u : Value) : Cells (w.setCell ⟨b, p, none⟩ u) b off (pre ++ l.set j u) := by
  have := h.set (j := m + j) hp (by rw [List.length_append]; omega) u
  rwa [List.set_append_right _ _ (by omega), hm, Nat.add_sub_cancel_left] at this
theorem Cells.at_mid {w : World} {b off : Nat} {pre l : List Value} (h : Cells w b off (pre ++ l)) {m j p : Nat} {u : Value} (hm : pre.length = m) (hp : p = off + (m + j)) (hj : j < l.length) (hu : l[j]? = some u) : w.cell? ⟨b, p, none⟩ = some u := by
  subst hp
  rw [(h (m + j) (by rw [List.length_append]; omega)).1, List.getElem?_append_right (by omega), hm, Nat.add_sub_cancel_left, hu]
theorem Cells.free_mid {w : World} {b off : Nat} {pre l : List Value} (h : Cells w b off (pre ++ l)) {m j p : Nat} (hm : pre.length = m) (hp : p = off + (m + j)) (hj : j < l.length) : w.frozen? ⟨b, p, none⟩ = false := by
  subst hp
  exact (h (m + j) (by rw [List.length_append]; omega)).2
theorem marks_step {α : Type} {E : Flat α} {w : World} {b off k : Nat} {f : Nat → α} {xs : List α} {pre post us : List Value} (hp : ((List.range k).map f).flatMap E.enc = pre) (hr : (xs.drop (k + 1)).flatMap E.enc = post) (hu : E.enc (f k) = us) (h : Cells w b off (pre ++ (us ++ post))) :
    Cells w b off (((List.range (k + 1)).map f).flatMap E.enc ++ (xs.drop (k + 1)).flatMap E.enc) := by
  rw [List.range_succ, List.map_append, List.flatMap_append, hp, hr]
  simp only [List.map_cons, List.map_nil, List.flatMap_cons, List.flatMap_nil, List.append_nil, hu, List.append_assoc]
  exact h

/-- A slice of flat data, its cells in one row. -/
theorem Sl.cells {α : Type} {E : Flat α} {w : World} {A : Option Addr} {len cap : Nat} {xs : List α} {fp : List Nat} (h : Sl E.cod w (.slice A len cap) xs fp) (hne : 0 < xs.length) :
    ∃ b off, A = some ⟨b, off, none⟩ ∧ fp = [b] ∧ b < w.heap.size ∧ Cells w b off (xs.flatMap E.enc) := by
  obtain ⟨A', cap', hv, hl, hc, hr⟩ := h
  injection hv with hA hn hcap
  subst hA
  rcases hr with ⟨h1, _⟩ | ⟨b, off, F, hA, hb, hfp, hi⟩
  · subst h1; simp at hne
  · have hF : (List.range xs.length).flatMap F = [] := by
      rw [List.flatMap_eq_nil_iff]
      intro i hi'
      obtain ⟨cs, _, _, _, _, h5⟩ := hi i (by simpa using hi')
      exact h5
    refine ⟨b, off, hA, by rw [hfp, hF], hb, fun j hj => ?_⟩
    rw [flat_len E.enc E.n _ (fun x _ => E.len x)] at hj
    have hpos := E.pos
    have h1 : j / E.n < xs.length := Nat.div_lt_of_lt_mul (by rw [Nat.mul_comm]; exact hj)
    have h2 : j % E.n < E.n := Nat.mod_lt _ hpos
    have h3 : j / E.n * E.n + j % E.n = j := by rw [Nat.mul_comm]; exact Nat.div_add_mod j E.n
    obtain ⟨cs, hc1, hc2, hc3, hok, _⟩ := hi _ h1
    have e1 := hc1 (j % E.n) h2
    have e2 := hc2 (j % E.n) h2
    have hcn : E.cod.n = E.n := rfl
    rw [hcn, Nat.add_assoc, h3] at e1 e2
    refine ⟨?_, e2⟩
    rw [e1, hc3, ← flat_get E.enc E.n xs (fun x _ => E.len x) _ h1 _ h2, h3]

theorem Sl.of_cells {α : Type} {E : Flat α} {w : World} {xs : List α} {b off cap : Nat} (hc : xs.length ≤ cap) (hm : cap ≤ 9223372036854775807) (hb : b < w.heap.size) (h : Cells w b off (xs.flatMap E.enc)) (hok : ∀ x ∈ xs, E.ok x) :
    0 < xs.length → Sl E.cod w (.slice (some ⟨b, off, none⟩) xs.length cap) xs [b] := by
  intro hne
  refine ⟨_, cap, rfl, hc, by unfold maxLen; exact hm, .inr ⟨b, off, fun _ => [], rfl, hb, by simp, fun i hi => ⟨E.enc xs[i], fun j hj => ?_, fun j hj => ?_, rfl, hok _ (List.getElem_mem hi), rfl⟩⟩⟩
  all_goals
    have hj' : j < E.n := hj
    have hlt : i * E.n + j < (xs.flatMap E.enc).length := by
      rw [flat_len E.enc E.n _ (fun x _ => E.len x)]
      have : (i + 1) * E.n ≤ xs.length * E.n := Nat.mul_le_mul_right _ hi
      rw [Nat.succ_mul] at this
      omega
    have := h _ hlt
    rw [show E.cod.n = E.n from rfl, Nat.add_assoc]
  · rw [this.1, flat_get E.enc E.n xs (fun x _ => E.len x) _ hi _ hj']
  · exact this.2

theorem Sl.atk {α : Type} {E : Flat α} {w : World} {b off len cap : Nat} {xs : List α} {fp : List Nat} (h : Sl E.cod w (.slice (some ⟨b, off, none⟩) len cap) xs fp) {k : Nat} (hk : k < xs.length) {j : Nat} (hj : j < E.n) :
    w.cell? ⟨b, off + k * E.n + j, none⟩ = (E.enc xs[k])[j]? := by
  obtain ⟨b', off', hA, _, _, hc, _⟩ := h.at_ hk
  injection hA with hA
  injection hA with h1 h2 _
  subst h1 h2
  exact hc j hj

/-- Of what was there only the blocks of fp may have turned. -/
structure Only (fp : List Nat) (w w' : World) : Prop where
  os : w'.os = w.os
  tape : w'.tape = w.tape
  output : w'.output = w.output
  size : w.heap.size ≤ w'.heap.size
  block : ∀ k, k < w.heap.size → k ∉ fp → w'.heap[k]? = w.heap[k]?
theorem Only.below {fp : List Nat} {w w' : World} {B : Nat} (h : Only fp w w') (hB : B ≤ w.heap.size) (hf : ∀ b ∈ fp, B ≤ b) : Below B w w' :=
  ⟨h.os, h.tape, h.output, h.size, fun k hk => h.block k (by omega) (fun hm => by have := hf k hm; omega)⟩
theorem Only.of_below {fp : List Nat} {w w' : World} (h : Below w.heap.size w w') : Only fp w w' := ⟨h.os, h.tape, h.output, h.size, fun k hk _ => h.block k hk⟩
theorem Only.trans {fp : List Nat} {a b c : World} (h : Only fp a b) (k : Only fp b c) : Only fp a c :=
  ⟨k.os.trans h.os, k.tape.trans h.tape, k.output.trans h.output, Nat.le_trans h.size k.size, fun i hi hn => (k.block i (Nat.lt_of_lt_of_le hi h.size) hn).trans (h.block i hi hn)⟩
theorem Only.set {w w' : World} {g : Nat} (h : Only [g] w w') (o : Nat) (u : Value) : Only [g] w (w'.setCell ⟨g, o, none⟩ u) :=
  ⟨h.os, h.tape, h.output, by simpa [World.setCell] using h.size, fun i hi hn => (Below.heap_setCell w' ⟨g, o, none⟩ u i (by simpa using hn)).trans (h.block i hi hn)⟩
theorem Only.refl (fp : List Nat) (w : World) : Only fp w w := .of_below (Below.refl _ _)
theorem Sl.only {α : Type} {E : Cod α} {w w' : World} {v : Value} {xs : List α} {fp fp' : List Nat} (h : Sl E w v xs fp) (hb : Only fp' w w') (hd : ∀ b ∈ fp, b ∉ fp') : Sl E w' v xs fp :=
  h.keep (fun b hm => hb.block b (h.lt b hm) (hd b hm)) hb.size

/-- What a marking helper leaves. -/
def MarkR {α : Type} (E : Cod α) (fp : List Nat) (w : World) (r : Int) (v : Value) (ys : List α) (e : Ending) (w' : World) : Prop := e = .returned (.int .i64 r) ∧ Sl E w' v ys fp ∧ Only fp w w'

/-! ### the mark's text -/
def mtStep (k : Int) (s : ByteArray) : ByteArray := ⟨#[UInt8.ofNat (48 + k % 10).toNat]⟩ ++ s
def mtLoop : Nat → Int → ByteArray → ByteArray
  | 0, _, s => s
  | f + 1, k, s => if 0 < k then mtLoop f (k / 10) (mtStep k s) else s
def mt (k : Int) : ByteArray := if k ≤ 0 then ⟨#[109, 48]⟩ else ⟨#[109]⟩ ++ mtLoop k.toNat k ⟨#[]⟩

theorem mtStep_size (k : Int) (s : ByteArray) : (mtStep k s).size = s.size + 1 := by
  unfold mtStep; rw [ByteArray.size_append]; show 1 + s.size = _; omega
theorem mtLoop_step {f : Nat} {k : Int} {s : ByteArray} (h : 0 < k) : mtLoop (f + 1) k s = mtLoop f (k / 10) (mtStep k s) := by rw [mtLoop, if_pos h]

theorem mtLoop_size : ∀ (f : Nat) (k : Int) (s : ByteArray), (mtLoop f k s).size ≤ s.size + f
  | 0, _, _ => by simp [mtLoop]
  | f + 1, k, s => by
    unfold mtLoop
    split
    · have := mtLoop_size f (k / 10) (mtStep k s); rw [mtStep_size] at this; omega
    · omega
theorem mt_ok (k : Int) (hk : k ≤ 1000000000000) : fStr.ok (mt k) := by
  show (mt k).size ≤ _
  unfold mt
  split
  · show 2 ≤ _; omega
  · rw [ByteArray.size_append]
    have := mtLoop_size k.toNat k ⟨#[]⟩
    have h1 : (ByteArray.mk #[109]).size = 1 := rfl
    have h2 : (ByteArray.mk #[]).size = 0 := rfl
    omega

set_option maxRecDepth 100000 in
set_option maxHeartbeats 400000 in
theorem markText_any (k : Int) (w : World) (hk : k ≤ 1000000000000) :
    Calls Try.prog 36 #[.int .i64 k] w fun e w' => e = .returned (.string (mt k)) ∧ Below w.heap.size w w' := by
  by_cases h0 : k ≤ 0
  · have hm : mt k = ⟨#[109, 48]⟩ := by unfold mt; rw [if_pos h0]
    rw [hm]
    go_enter Try.func36, Try.ntmps36
    go_wp2
    go_ret
    exact ⟨rfl, Below.refl _ _⟩
  · have hcv : ∀ (n : Int) (W : World), (convert 34 9 (.slice (some ⟨W.heap.size, 0, none⟩) 1 1)).run Try.prog (W.alloc (.cells #[.int .u8 n] 5)) = .ok (.string ⟨#[UInt8.ofNat n.toNat]⟩) (W.alloc (.cells #[.int .u8 n] 5)) := fun n W =>
      run_convert_bytes_arg _ _ _ Try.underlying34 Try.underlying5 W.heap.size 0 1 1 [n] rfl (fun i hi => by (obtain rfl : i = 0 := by omega); simp) _ Try.underlying9
    go_enter Try.func36, Try.ntmps36
    go_wp2
    go_loopw [0, 3] (fun n s wr => ∃ (j : Int) (t : ByteArray) (f : Nat), n = .int .i64 j ∧ s = .string t ∧ 0 ≤ j ∧ j ≤ f ∧ t.size + f ≤ k ∧ Hid (mtLoop f j t = mtLoop k.toNat k ⟨#[]⟩) ∧ Below w.heap.size w wr) (fun n _ _ => (intOf n).toNat)
    case atStart => exact ⟨k, _, k.toNat, rfl, rfl, by omega, by omega, by show ((0 : Nat) : Int) + _ ≤ _; omega, rfl, Below.refl _ _⟩
    case round =>
      obtain ⟨j, t, f, rfl, rfl, hj0, hjf, hsz, HE, hb⟩ := hrel
      have hbs := hb.size
      by_cases hj : 0 < j
      · have hj10 : 0 ≤ j % 10 := by omega
        have hj11 : j % 10 ≤ 9 := by omega
        have hjd : 0 ≤ j / 10 := by omega
        have hjd2 : j / 10 < j := by omega
        obtain ⟨g, rfl⟩ : ∃ g, f = g + 1 := ⟨f - 1, by omega⟩
        go_wp2
        go_roundw
        case rel => exact ⟨j / 10, mtStep j t, g, rfl, rfl, by omega, by omega, by rw [mtStep_size]; omega, HE.out ▸ (mtLoop_step hj).symm, (by repeat (first | exact Below.refl _ _ | assumption | refine Below.alloc ?_ (by first | omega | (simp <;> omega)) _ | refine Below.setCell ?_ (by first | (show _ ≤ _; omega) | (simp <;> omega)) _ | refine Below.drew ?_ | refine below_drewN ?_ _))⟩
        case measure => simp [intOf]; omega
      · have hf : mtLoop f j t = t := by cases f with | zero => rfl | succ f => simp [mtLoop, hj]
        have hm : mt k = ⟨#[109]⟩ ++ t := by unfold mt; rw [if_neg (by omega), ← HE.out, hf]
        have HM := Lib.hid hm
        clear hm hf
        go_wp2
        go_ret
        exact ⟨ret_str HM.out.symm, hb⟩
end Go.Proofs.Ytjfaafoldllppaa
