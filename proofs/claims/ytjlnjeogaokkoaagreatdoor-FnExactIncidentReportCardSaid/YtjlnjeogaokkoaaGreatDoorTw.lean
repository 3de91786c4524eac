/- Contracts on tables as lines. Written by wip/gen/tw.py. -/
import Derived.Test.YtjlnjeogaokkoaaGreatDoorTl
import Derived.Test.YtjlnjeogaokkoaaGreatDoorBl
import Derived.Test.YtjlnjeogaokkoaaGreatDoorBu
import Derived.Test.YtjlnjeogaokkoaaGreatDoorNest
import Derived.Test.YtjlnjeogaokkoaaGreatDoorLt
import Derived.Test.YtjlnjeogaokkoaaGreatDoorShelf
import Derived.Lib.SmallJoins
namespace Go.Proofs.YtjlnjeogaokkoaaGreatDoor
open Go.RowKit
set_option linter.unusedVariables false

theorem infoStrW : (Tryz.prog.info? 9).map (fun i => (i.zero, i.size, i.bytes)) = some (some (.string ⟨#[]⟩), 1, 16) := by kernel_rfl
theorem infoIntW : (Tryz.prog.info? 3).map (fun i => (i.zero, i.size, i.bytes)) = some (some (.int .i64 0), 1, 8) := by kernel_rfl
/-- The row of widths. -/
def Wd (w : World) (B : Nat) (f : Nat → Int) : Prop := w.ownsRow B 3 1 (.slice (some ⟨B, 0, none⟩) 12 12) 12 ((List.range 12).map fun j => Value.int .i64 (f j))
theorem Wd.cell {w : World} {B : Nat} {f : Nat → Int} (h : Wd w B f) {j : Nat} (hj : j < 12) : w.cell? ⟨B, j, none⟩ = some (.int .i64 (f j)) := by
  rw [h.cellAt j (by omega), List.getElem?_map, List.getElem?_range hj]; rfl
theorem Wd.frozen {w : World} {B : Nat} {f : Nat → Int} (h : Wd w B f) (j : Nat) : w.frozen? ⟨B, j, none⟩ = false := h.frozenAt j
theorem Wd.congr {w : World} {B : Nat} {f g : Nat → Int} (h : Wd w B f) (e : ∀ j, f j = g j) : Wd w B g := by
  have : f = g := funext e
  rwa [← this]
theorem Wd.set {w : World} {B : Nat} {f : Nat → Int} (h : Wd w B f) (j : Nat) (v : Int) : Wd (w.setCell ⟨B, j, none⟩ (.int .i64 v)) B (fun i => if i = j then v else f i) := by
  have h1 := (h.stored j (.int .i64 v)).1
  have e : ((List.range 12).map fun j => Value.int .i64 (f j)).set j (.int .i64 v) = (List.range 12).map fun i => Value.int .i64 (if i = j then v else f i) := by
    refine List.ext_getElem? fun i => ?_
    rw [List.getElem?_set, List.getElem?_map, List.getElem?_map]
    by_cases hi : i < 12
    · rw [List.getElem?_range hi]
      by_cases e : j = i
      · subst e; simp [hi]
      · have e2 : ¬ i = j := fun h => e h.symm
        simp [e, e2]
    · have : (List.range 12)[i]? = none := List.getElem?_eq_none (by simpa using hi)
      rw [this]; simp; omega
  rw [e] at h1
  exact h1
theorem Wd.below {w w' : World} {B : Nat} {f : Nat → Int} (h : Wd w B f) (hb : Below w.heap.size w w') : Wd w' B f := by
  obtain ⟨h1, h2⟩ := h
  refine ⟨h1, ?_⟩
  rcases h2 with h2 | ⟨g, cap, cur, hv, hg, hh, r⟩
  · exact .inl h2
  · have hgl : g < w.heap.size := by
      rcases Nat.lt_or_ge g w.heap.size with hlt | hge
      · exact hlt
      · rw [Array.getElem?_eq_none hge] at hh; cases hh
    exact .inr ⟨g, cap, cur, hv, hg, by rw [hb.block _ hgl]; exact hh, r⟩
theorem Wd.lt {w : World} {B : Nat} {f : Nat → Int} (h : Wd w B f) : B < w.heap.size := block_lt_of_cell (h.cell (j := 0) (by omega))
theorem Wd.start (w : World) : Wd (w.alloc (.cells (madeCells #[Value.int .i64 0] 12) 3)) w.heap.size (fun _ => 0) := by
  have := World.ownsRow_lit (e := 3) (size := 1) (base := w.heap.size) w (madeCells #[Value.int .i64 0] 12) 12 (Nat.le_refl _) (by decide) (size_madeCells _ _)
  unfold Wd
  have e : (madeCells #[Value.int .i64 0] 12).toList = (List.range 12).map fun j => Value.int .i64 0 := by
    unfold madeCells
    rw [show Array.range 12 = #[0, 1, 2, 3, 4, 5, 6, 7, 8, 9, 10, 11] from by decide]
    simp [Nat.mod_one, List.range_succ]
  rw [e] at this
  exact this
theorem wdAt_next {rows : List (List ByteArray)} {i k : Nat} (h : i < rows.length) (hk : k < rows[i].length) (j : Nat) :
    (if j = k then max ((wdAt rows i k k : Nat) : Int) ((rows[i][k].size : Nat) : Int) else ((wdAt rows i k j : Nat) : Int)) = ((wdAt rows i (k + 1) j : Nat) : Int) := by
  rw [wdAt_step h, cellA_at hk]
  by_cases e : j = k
  · subst e; rw [if_pos rfl, if_pos rfl]; omega
  · rw [if_neg e, if_neg e]
theorem wdAt_same {rows : List (List ByteArray)} {i k : Nat} (h : i < rows.length) (hk : k < rows[i].length) (hle : rows[i][k].size ≤ wdAt rows i k k) (j : Nat) : wdAt rows i (k + 1) j = wdAt rows i k j := by
  rw [wdAt_step h, cellA_at hk]
  by_cases e : j = k
  · subst e; rw [if_pos rfl]; omega
  · rw [if_neg e]
theorem wdAt_more {rows : List (List ByteArray)} {i k : Nat} (h : i < rows.length) (hk : k < rows[i].length) (hle : wdAt rows i k k < rows[i][k].size) (j : Nat) :
    (if j = k then ((rows[i][k].size : Nat) : Int) else ((wdAt rows i k j : Nat) : Int)) = ((wdAt rows i (k + 1) j : Nat) : Int) := by
  rw [wdAt_step h, cellA_at hk]
  by_cases e : j = k
  · subst e; rw [if_pos rfl, if_pos rfl]; omega
  · rw [if_neg e, if_neg e]
theorem wdN_all {rows : List (List ByteArray)} {k : Nat} (h : rows.length ≤ k) (j : Nat) : wdAt rows k 0 j = wdN rows j := by rw [wdAt_zero, List.take_of_length_le h]
theorem rowsOk_step {rows : List (List ByteArray)} {k : Nat} (h : k < rows.length) (h0 : rowsOk (rows.take k) = true) (h1 : rowOk rows[k] = true) : rowsOk (rows.take (k + 1)) = true := by
  unfold rowsOk at *; rw [List.take_succ_eq_append_getElem h, List.all_append, h0]; simp [h1]
theorem rowsOk_bad {rows : List (List ByteArray)} {k : Nat} (h : k < rows.length) (h1 : rowOk rows[k] = false) : rowsOk rows = false := by
  unfold rowsOk
  rw [Bool.eq_false_iff]
  intro hall
  have := List.all_eq_true.1 hall rows[k] (List.getElem_mem h)
  rw [h1] at this; cases this
theorem cells_step {r : List ByteArray} {j : Nat} (h : j < r.length) (h0 : (r.take j).all cellOk = true) (h1 : cellOk r[j] = true) : (r.take (j + 1)).all cellOk = true := by
  rw [List.take_succ_eq_append_getElem h, List.all_append, h0]; simp [h1]
theorem rowOk_bad {r : List ByteArray} {j : Nat} (h : j < r.length) (h1 : cellOk r[j] = false) : rowOk r = false := by
  unfold rowOk
  rw [Bool.and_eq_false_iff]
  right
  rw [Bool.eq_false_iff]
  intro hall
  have := List.all_eq_true.1 hall r[j] (List.getElem_mem h)
  rw [h1] at this; cases this
theorem rowOk_full {r : List ByteArray} {j : Nat} (h : r.length ≤ j) (h12 : r.length ≤ 12) (h0 : (r.take j).all cellOk = true) : rowOk r = true := by
  rw [List.take_of_length_le h] at h0
  unfold rowOk; rw [h0, decide_eq_true h12]; rfl
theorem rowOk_long {r : List ByteArray} (h : ¬ r.length ≤ 12) : rowOk r = false := by unfold rowOk; rw [decide_eq_false h]; rfl
theorem rowsOk_12 {rows : List (List ByteArray)} (h : rowsOk rows = true) : ∀ r ∈ rows, r.length ≤ 12 := by
  intro r hr
  have := List.all_eq_true.1 h r hr
  unfold rowOk at this
  simp only [Bool.and_eq_true, decide_eq_true_eq] at this
  exact this.1
def tlF (rows : List (List ByteArray)) : List ByteArray := if rowsOk rows then doneF (tabF rows) else []
def tlC (rows : List (List ByteArray)) : Int := if rowsOk rows then doneC (tabF rows) else 2
def spS (n : Nat) : ByteArray := ⟨(spN n).toArray⟩
theorem spS_size (n : Nat) : (spS n).size = n := by show (spN n).toArray.size = n; simp [spN]
theorem repeatL_sp : ∀ n : Nat, Lib.repeatL [32] n = spN n
  | 0 => rfl
  | n + 1 => by unfold spN; rw [List.replicate_succ, show List.replicate n 32 = spN n from rfl, ← repeatL_sp n]; rfl
theorem repeatSp_any (n : Nat) (w : World) (hn : n ≤ 100000000) : Calls Tryz.prog 38 #[.string ⟨#[32]⟩, .int .i64 (n : Int)] w fun e w' => e = .returned (.string (spS n)) ∧ Below w.heap.size w w' := by
  have := Tryz.strings_Repeat ⟨#[32]⟩ n w (by omega) (by show 1 * n ≤ _; omega)
  rw [show (⟨(Lib.repeatL (⟨#[32]⟩ : ByteArray).data.toList n).toArray⟩ : ByteArray) = spS n from by unfold spS; rw [← repeatL_sp n]] at this
  exact this
theorem lineF_size {wd : Nat → Nat} {r : List ByteArray} (h : ∀ j, wd j ≤ 1048576) (h2 : ∀ j, (cellA r j).size ≤ 1048576) (h12 : r.length ≤ 12) : (lineF wd r).size ≤ 100000000 := by
  unfold lineF
  show (List.toArray _).size ≤ _
  rw [List.size_toArray]
  have h3 := trim_len (rawI wd r r.length) 32
  have h4 := rawI_len (wd := wd) (r := r) h h2 r.length
  have h5 : (2 * 1048576 + 2) * r.length ≤ (2 * 1048576 + 2) * 12 := Nat.mul_le_mul_left _ h12
  omega
theorem tab_ok {rows : List (List ByteArray)} (h12 : ∀ r ∈ rows, r.length ≤ 12) (hsz : ∀ r ∈ rows, ∀ c ∈ r, c.size ≤ 1048576) : ∀ x ∈ tabF rows, fStr.ok x := by
  intro x hx
  unfold tabF at hx
  obtain ⟨r, hr, rfl⟩ := List.mem_map.1 hx
  have := lineF_size (wd := wdN rows) (r := r) (fun j => wdN_le hsz j) (fun j => cellA_le (hsz r hr) j) (h12 r hr)
  show (lineF _ _).size ≤ _
  omega

theorem Wd.belowB {w w' : World} {B C : Nat} {f : Nat → Int} (h : Wd w B f) (hb : Below C w w') (hC : B < C) : Wd w' B f := by
  obtain ⟨h1, h2⟩ := h
  refine ⟨h1, ?_⟩
  rcases h2 with h2 | ⟨g, cap, cur, hv, hg, hh, r⟩
  · exact .inl h2
  · have : g = B := by injection hv with h _ _; injection h with h; injection h with h _ _; exact h.symm
    subst this
    exact .inr ⟨g, cap, cur, hv, hg, by rw [hb.block _ hC]; exact hh, r⟩
theorem Own.newB {α : Type} {E : Flat α} {w w' : World} {base : Nat} {e : TypeId} {v : Value} {L : List α} (h : Own E w' base e v L) (hbase : w.heap.size ≤ base) (hb : Below w.heap.size w w') (hok : ∀ x ∈ L, E.ok x) : New E.cod w v L w' := by
  obtain ⟨fp, h1, h2, h3⟩ := Sl.of_own (n := L.length) rfl h hok
  exact ⟨⟨fp, h1, fun b hb => Nat.le_trans hbase (h2 b hb), h3⟩, hb⟩

set_option maxRecDepth 100000 in
set_option maxHeartbeats 8000000 in
theorem implTableLines_any (v : Value) (rows : List (List ByteArray)) (fp : List Nat) (w : World) (hx : Sl fStr.cod.slice w v rows fp) (hlen : rows.length ≤ 1048577) (hsz : ∀ r ∈ rows, ∀ c ∈ r, c.size ≤ 1048576) :
    Calls Tryz.prog 23 #[v] w fun e w' => NewR2 fStr.cod w (tlF rows) (tlC rows) e w' := by
  obtain ⟨A, cap, rfl, hle, hca⟩ := hx.form
  obtain ⟨i0, hi, hz0, hz1, hz2⟩ := info_parts infoStrW
  obtain ⟨j0, hj, hy0, hy1, hy2⟩ := info_parts infoIntW
  have hmk : ∀ W : World, (Instr.makeSlice 54 (.int .i64 12) (.int .i64 12)).run Tryz.prog W = .ok (.slice (some ⟨W.heap.size, 0, none⟩) 12 12) (W.alloc (.cells (madeCells (Value.int .i64 0).cells (12 * j0.size)) 3)) := fun W => run_make_rowN (P := Tryz.prog) 54 3 j0 _ Tryz.underlying54 hj hy0 .i64 .i64 12 12 (Nat.le_refl _) (by rw [hy2]; decide) (by decide) W
  rw [hy1] at hmk
  have hmk' : ∀ W : World, (Instr.makeSlice 54 (.int .i64 12) (.int .i64 12)).run Tryz.prog W = .ok (.slice (some ⟨W.heap.size, 0, none⟩) 12 12) (W.alloc (.cells (madeCells #[Value.int .i64 0] 12) 3)) := hmk
  have hB0 : Below w.heap.size w (w.alloc (.cells (madeCells #[Value.int .i64 0] 12) 3)) := (Below.refl _ _).alloc (Nat.le_refl _) _
  have hW0 := (Wd.start w).congr (g := fun j => ((wdAt rows 0 0 j : Nat) : Int)) (fun j => by rw [wdAt_zero]; rfl)
  clear hmk hj hy0 hy1 hy2
  go_enter Tryz.func23, Tryz.ntmps23
  go_wp2
  go_loopw [18] (fun i wr => ∃ k : Nat, k ≤ rows.length ∧ i = .int .i64 k ∧ Hid (rowsOk (rows.take k) = true) ∧ Wd wr w.heap.size (fun j => ((wdAt rows k 0 j : Nat) : Int)) ∧ Below w.heap.size w wr) (fun i _ => rows.length - (intOf i).toNat)
  case atStart => exact ⟨0, Nat.zero_le _, rfl, rfl, hW0, hB0⟩
  case round =>
    obtain ⟨k, hk, rfl, HOK, hwd, hb⟩ := hrel
    by_cases hlt : k < rows.length
    · obtain ⟨b, off, vk, fk, rfl, hc, hs0, _⟩ := hx.elem hlt
      obtain ⟨A1, cap1, rfl, hle1, hca1⟩ := hs0.form
      have hcb := block_lt_of_cell hc
      have hc0 := (hb.cell (p := ⟨b, off + k, none⟩) hcb).trans hc
      by_cases h12 : rows[k].length ≤ 12
      · go_wp2
        go_loopw [27] (fun i wq => ∃ j : Nat, j ≤ rows[k].length ∧ i = .int .i64 j ∧ Hid ((rows[k].take j).all cellOk = true) ∧ Wd wq w.heap.size (fun i => ((wdAt rows k j i : Nat) : Int)) ∧ Below w.heap.size w wq) (fun i _ => rows[k].length - (intOf i).toNat)
        case atStart => exact ⟨0, Nat.zero_le _, rfl, rfl, hwd, hb⟩
        case round =>
          clear hwd hb hc0
          obtain ⟨j, hj, rfl, HC, hwd, hb⟩ := hrel
          by_cases hlt2 : j < rows[k].length
          · obtain ⟨b1, off1, rfl, _, hok, hcc, _⟩ := (hs0.below' hb).cell1 rfl hlt2 rfl
            have hcs := hsz rows[k] (List.getElem_mem hlt) rows[k][j] (List.getElem_mem hlt2)
            have hcs' : rows[k][j].size ≤ 9223372036854775807 := by omega
            cases hcell : cellOk rows[k][j]
            · have HB := Lib.hid (rowsOk_bad hlt (rowOk_bad hlt2 hcell))
              have HCL : Hid (bwAll rows[k][j].data.toList 33 126 = false) := hcell
              clear hcell
              go_wp2_with fail
              refine (bytesWithin_any _ _ _ _ hcs').mono ?_
              rintro e w' ⟨rfl, rfl⟩
              rw [HCL.out]
              go_wp2
              go_ret2
              exact ⟨_, by rw [tlC, HB.out]; rfl, by rw [tlF, HB.out]; exact New.nil hb⟩
            · have HC2 := Lib.hid (cells_step hlt2 HC.out hcell)
              have HCL : Hid (bwAll rows[k][j].data.toList 33 126 = true) := hcell
              have hwc := hwd.cell (j := j) (by omega)
              have hwz := hwd.frozen j
              have hw2 := (hwd.set j (max ((wdAt rows k j j : Nat) : Int) ((rows[k][j].size : Nat) : Int))).congr (fun i => wdAt_next hlt hlt2 i)
              have hb2 : Below w.heap.size w (wr.setCell ⟨w.heap.size, j, none⟩ (.int .i64 (max ((wdAt rows k j j : Nat) : Int) ((rows[k][j].size : Nat) : Int)))) := hb.setCell (Nat.le_refl _) _
              clear hcell HC
              go_wp2_with fail
              refine (bytesWithin_any _ _ _ _ hcs').mono ?_
              rintro e w' ⟨rfl, rfl⟩
              rw [HCL.out]
              go_wp2
              go_roundw
              case rel => exact ⟨j + 1, by omega, by go_num, HC2, hw2, hb2⟩
              case measure => simp [intOf]; omega
          · have HOK2 := Lib.hid (rowsOk_step hlt HOK.out (rowOk_full (by omega) h12 HC.out))
            have hw2 := hwd.congr (g := fun i => ((wdAt rows (k + 1) 0 i : Nat) : Int)) (fun i => by rw [wdAt_full hlt (by omega), wdAt_zero])
            go_wp2
            go_roundw
            case rel => exact ⟨k + 1, by omega, by go_num, HOK2, hw2, hb⟩
            case measure => simp [intOf]; omega
      · have HB := Lib.hid (rowsOk_bad hlt (rowOk_long h12))
        go_wp2
        go_ret2
        exact ⟨_, by rw [tlC, HB.out]; rfl, by rw [tlF, HB.out]; exact New.nil hb⟩
    · have hall : rowsOk rows = true := by have := HOK.out; rw [List.take_of_length_le (by omega)] at this; exact this
      have HCO := Lib.hid (show tlC rows = doneC (tabF rows) from by rw [tlC, hall]; rfl)
      have HFO := Lib.hid (show tlF rows = doneF (tabF rows) from by rw [tlF, hall]; rfl)
      have h12 := rowsOk_12 hall
      have hTOK := tab_ok h12 hsz
      replace hwd := hwd.congr (g := fun j => ((wdN rows j : Nat) : Int)) (fun j => by rw [wdN_all (by omega)])
      clear HOK hall
      go_wp2
      go_loopw [9, 49] (fun l i wr => ∃ k : Nat, k ≤ rows.length ∧ i = .int .i64 k ∧ Own fStr wr (w.heap.size + 1) 9 l ((rows.take k).map (lineF (wdN rows))) ∧ Wd wr w.heap.size (fun j => ((wdN rows j : Nat) : Int)) ∧ Below w.heap.size w wr) (fun _ i _ => rows.length - (intOf i).toNat)
      case atStart => exact ⟨0, Nat.zero_le _, rfl, Own.nil fStr _ _ _, hwd, hb⟩
      case round =>
        clear hwd hb hk
        obtain ⟨k, hk, rfl, ho, hwd, hb⟩ := hrel
        rename World => wo
        have hbs := hb.size
        have hwl := hwd.lt
        by_cases hlt : k < rows.length
        · obtain ⟨b, off, vk, fk, rfl, hc, hs0, _⟩ := hx.elem hlt
          obtain ⟨A1, cap1, rfl, hle1, hca1⟩ := hs0.form
          have hcb := block_lt_of_cell hc
          have hc0 := (hb.cell (p := ⟨b, off + k, none⟩) hcb).trans hc
          have hr12 := h12 rows[k] (List.getElem_mem hlt)
          have hkl : ((rows.take k).map (lineF (wdN rows))).length = k := by simp; omega
          have HKL := Lib.hid hkl
          have hBa : Below wo.heap.size wo (wo.alloc (.cells #[.pointer none, .slice none 0 0] 63)) := (Below.refl _ _).alloc (Nat.le_refl _) _
          have hI0 := builder_new wo
          clear hkl
          go_wp2
          go_loopw [55] (fun i wr => ∃ j : Nat, j ≤ rows[k].length ∧ i = .int .i64 j ∧ Lib.IsBuilder 63 5 wo.heap.size wo.heap.size (Lib.byteCells (rawI (wdN rows) rows[k] j)) wr ∧ Below wo.heap.size wo wr) (fun i _ => rows[k].length - (intOf i).toNat)
          case atStart => exact ⟨0, Nat.zero_le _, rfl, hI0, hBa⟩
          case round =>
            clear hI0 hBa hc0
            obtain ⟨j, hj, rfl, hI, hbq⟩ := hrel
            have hbqs := hbq.size
            have hbw := hb.trans (hbq.mono hb.size)
            by_cases hlt2 : j < rows[k].length
            · obtain ⟨b1, off1, rfl, _, hok, hcc, _⟩ := (hs0.below' hbw).cell1 rfl hlt2 rfl
              have hcs := hsz rows[k] (List.getElem_mem hlt) rows[k][j] (List.getElem_mem hlt2)
              have hwm : rows[k][j].size ≤ wdN rows j := by have := wdN_mem (List.getElem_mem hlt) j; rw [cellA_at hlt2] at this; exact this
              have hwB := wdN_le hsz j
              have hwc := (hwd.below hbq).cell (j := j) (by omega)
              obtain ⟨n, hn⟩ : ∃ n : Nat, n = wdN rows j - rows[k][j].size + 2 := ⟨_, rfl⟩
              have ew : ((wdN rows j : Nat) : Int) - ((rows[k][j].size : Nat) : Int) + 2 = (n : Int) := by omega
              have hnb : n ≤ 100000000 := by omega
              have hrl := rawI_len (wd := wdN rows) (r := rows[k]) (fun j => wdN_le hsz j) (fun i => cellA_le (hsz rows[k] (List.getElem_mem hlt)) i) j
              have hrl2 : (rawI (wdN rows) rows[k] j).length ≤ 30000000 := by
                have : (2 * 1048576 + 2) * j ≤ (2 * 1048576 + 2) * 12 := Nat.mul_le_mul_left _ (by omega)
                omega
              have HST : Hid (Lib.byteCells (rawI (wdN rows) rows[k] j) ++ Lib.strCells (rows[k][j] ++ spS n) = Lib.byteCells (rawI (wdN rows) rows[k] (j + 1))) := by
                show _ = _
                rw [rawI_step, Lib.byteCells_append, Lib.strCells_eq]
                congr 2
                unfold pcI
                rw [Go.Joins.data_append, cellA_at hlt2, hn]
                show _ ++ (spS _).data.toList = _
                congr 1
              have hsp := spS_size n
              have hcat : (rows[k][j] ++ spS n).size ≤ 200000000 := by rw [ByteArray.size_append, hsp]; omega
              have hsp2 : (spS n).size ≤ 100000000 := by omega
              clear hn hrl hsp
              go_wp2_with fail
              refine (repeatSp_any n _ hnb).mono ?_
              rintro e w2 ⟨rfl, hb2⟩
              have hI2 := isB_below hI hb2
              have hb2q := hbq.trans (hb2.mono hbq.size)
              have hs2 := hb2q.size
              generalize spS n = sp at *
              go_wp2_with fail
              refine (writeString_any wo.heap.size wo.heap.size _ _ _ hI2 (by rw [Lib.byteCells_length]; omega) hs2).mono ?_
              rintro e w3 ⟨rfl, hI3, hb3⟩
              rw [HST.out] at hI3
              go_wp2
              go_roundw
              case rel => exact ⟨j + 1, by omega, by go_num, hI3, hb2q.trans hb3⟩
              case measure => simp [intOf]; omega
            · have hje : j = rows[k].length := by omega
              subst hje
              go_wp2_with fail
              refine (Tryz.Builder_String_any wo.heap.size wo.heap.size _ _ hI hbqs).mono ?_
              rintro e w2 ⟨rfl, hb2⟩
              have hb2q := hbq.trans hb2
              have hrl := rawI_len (wd := wdN rows) (r := rows[k]) (fun j => wdN_le hsz j) (fun i => cellA_le (hsz rows[k] (List.getElem_mem hlt)) i) rows[k].length
              have hrl2 : (rawI (wdN rows) rows[k] rows[k].length).length ≤ 30000000 := by
                have : (2 * 1048576 + 2) * rows[k].length ≤ (2 * 1048576 + 2) * 12 := Nat.mul_le_mul_left _ (by omega)
                omega
              have hLF : Hid ((⟨(Lib.trimRightB (rawI (wdN rows) rows[k] rows[k].length) 32).toArray⟩ : ByteArray) = lineF (wdN rows) rows[k]) := rfl
              generalize rawI (wdN rows) rows[k] rows[k].length = raw at *
              go_wp2_with fail
              refine (Tryz.strings_TrimRight_one _ 32 (by decide) _ (by show raw.toArray.size ≤ _; rw [List.size_toArray]; omega)).mono ?_
              rintro e w' ⟨rfl, rfl⟩
              rw [show (⟨raw.toArray⟩ : ByteArray).data.toList = raw from rfl, hLF.out]
              have ho2 := ho.below hb2q
              have hwd2 := hwd.below hb2q
              have hb4 := hb.trans (hb2q.mono hb.size)
              have hs4 := hb4.size
              have hwl4 := hwd2.lt
              have ho3 : w'.ownsRow (w.heap.size + 1) 9 1 u9 k (((rows.take k).map (lineF (wdN rows))).flatMap fStr.enc) := by have := ho2; unfold Own at this; rw [HKL.out] at this; exact this
              clear ho ho2 hI
              go_wp2_with (at_builtin; refine wpList_append_one rfl _ _ 24 rfl (w.heap.size + 1) 9 i0 (.string ⟨#[]⟩) 1 16 Tryz.underlying24 hi hz0 hz1 hz2 rfl (by decide) u9 k _ rfl ho3 [.string (lineF (wdN rows) rows[k])] rfl (by intro u hu; rw [List.mem_singleton] at hu; subst hu; rfl) rfl (by omega) (by decide) (by omega) ?_)
              intro v' u hown hbu _ _
              have hbu' := hb4.trans (hbu.mono (by omega))
              have ho4 : Own fStr u (w.heap.size + 1) 9 v' ((rows.take (k + 1)).map (lineF (wdN rows))) := by rw [List.take_succ_eq_append_getElem hlt, List.map_append]; exact Own.push _ (by rw [HKL.out]) (by rw [← List.map_take] at hown; exact hown)
              have hwd5 := hwd2.belowB hbu (by omega)
              clear hown
              go_wp2
              go_roundw
              case rel => exact ⟨k + 1, by omega, by go_num, ho4, hwd5, hbu'⟩
              case measure => simp [intOf]; omega
        · have ho2 : Own fStr wo (w.heap.size + 1) 9 u9 (tabF rows) := by
            have e : (rows.take k) = rows := List.take_of_length_le (by omega)
            rw [e] at ho; exact ho
          clear ho
          have hn := Own.newB ho2 (by omega) hb hTOK
          obtain ⟨⟨fpn, hsl, hlo, hnd⟩, _⟩ := id hn
          go_wp2_with fail
          refine (reportOrFull_any _ (tabF rows) fpn _ hsl).mono ?_
          rintro e w' ⟨rfl, rfl⟩
          go_wp2
          go_ret2
          exact ⟨_, by rw [HCO.out]; rfl, by rw [HFO.out]; exact hn.done⟩

def szOf : Value → Nat
  | .string s => s.size
  | _ => 0
theorem rawS_zero (wd : Nat → Nat) (r : List ByteArray) : rawS wd r 0 = [] := rfl
def stS (l : List UInt8) : ByteArray := ⟨l.toArray⟩
theorem stS_size (l : List UInt8) : (stS l).size = l.length := by show l.toArray.size = _; simp
theorem stS_app (l : List UInt8) (c : ByteArray) : stS l ++ c = stS (l ++ c.data.toList) := by
  refine data_inj ?_
  rw [Go.Joins.data_append]; simp [stS]
theorem lineS_eq (wd : Nat → Nat) (r : List ByteArray) : lineF wd r = stS (Lib.trimRightB (rawS wd r r.length) 32) := by unfold lineF stS; rw [trim_raw]
/-- What stands before the blanks of cell j. -/
def preC (wd : Nat → Nat) (r : List ByteArray) (j : Nat) : List UInt8 := rawS wd r j ++ (if j = 0 then [] else [32, 32]) ++ (cellA r j).data.toList
theorem preC_full {wd : Nat → Nat} {r : List ByteArray} {j n : Nat} (hn : n = wd j - (cellA r j).size) : preC wd r j ++ spN n = rawS wd r (j + 1) := by
  rw [rawS_step]; unfold preC pcS; subst hn; simp
theorem spN_succ (n : Nat) : spN n ++ [32] = spN (n + 1) := by unfold spN; rw [List.replicate_succ']
set_option maxRecDepth 100000 in
set_option maxHeartbeats 8000000 in
theorem l30Table_any (v : Value) (rows : List (List ByteArray)) (fp : List Nat) (w : World) (hx : Sl fStr.cod.slice w v rows fp) (hlen : rows.length ≤ 1048577) (hsz : ∀ r ∈ rows, ∀ c ∈ r, c.size ≤ 1048576) (h12 : ∀ r ∈ rows, r.length ≤ 12) :
    Calls Tryz.prog 18 #[v] w fun e w' => NewR fStr.cod w (tabF rows) e w' := by
  obtain ⟨A, cap, rfl, hle, hca⟩ := hx.form
  obtain ⟨i0, hi, hz0, hz1, hz2⟩ := info_parts infoStrW
  obtain ⟨j0, hj, hy0, hy1, hy2⟩ := info_parts infoIntW
  have hmk : ∀ W : World, (Instr.makeSlice 54 (.int .i64 12) (.int .i64 12)).run Tryz.prog W = .ok (.slice (some ⟨W.heap.size, 0, none⟩) 12 12) (W.alloc (.cells (madeCells (Value.int .i64 0).cells (12 * j0.size)) 3)) := fun W => run_make_rowN (P := Tryz.prog) 54 3 j0 _ Tryz.underlying54 hj hy0 .i64 .i64 12 12 (Nat.le_refl _) (by rw [hy2]; decide) (by decide) W
  rw [hy1] at hmk
  have hmk' : ∀ W : World, (Instr.makeSlice 54 (.int .i64 12) (.int .i64 12)).run Tryz.prog W = .ok (.slice (some ⟨W.heap.size, 0, none⟩) 12 12) (W.alloc (.cells (madeCells #[Value.int .i64 0] 12) 3)) := hmk
  have hB0 : Below w.heap.size w (w.alloc (.cells (madeCells #[Value.int .i64 0] 12) 3)) := (Below.refl _ _).alloc (Nat.le_refl _) _
  have hW0 := (Wd.start w).congr (g := fun j => ((wdAt rows 0 0 j : Nat) : Int)) (fun j => by rw [wdAt_zero]; rfl)
  have hTOK := tab_ok h12 hsz
  clear hmk hj hy0 hy1 hy2
  go_enter Tryz.func18, Tryz.ntmps18
  go_wp2
  go_loopw [4] (fun i wr => ∃ k : Nat, k ≤ rows.length ∧ i = .int .i64 k ∧ Wd wr w.heap.size (fun j => ((wdAt rows k 0 j : Nat) : Int)) ∧ Below w.heap.size w wr) (fun i _ => rows.length - (intOf i).toNat)
  case atStart => exact ⟨0, Nat.zero_le _, rfl, hW0, hB0⟩
  case round =>
    clear hW0 hB0
    obtain ⟨k, hk, rfl, hwd, hb⟩ := hrel
    by_cases hlt : k < rows.length
    · obtain ⟨b, off, vk, fk, rfl, hc, hs0, _⟩ := hx.elem hlt
      obtain ⟨A1, cap1, rfl, hle1, hca1⟩ := hs0.form
      have hcb := block_lt_of_cell hc
      have hr12 := h12 rows[k] (List.getElem_mem hlt)
      go_wp2
      go_loopw [5] (fun i wq => ∃ j : Nat, j ≤ rows[k].length ∧ i = .int .i64 j ∧ Wd wq w.heap.size (fun i => ((wdAt rows k j i : Nat) : Int)) ∧ Below w.heap.size w wq) (fun i _ => rows[k].length - (intOf i).toNat)
      case atStart => exact ⟨0, Nat.zero_le _, rfl, hwd, hb⟩
      case round =>
        clear hwd hb
        obtain ⟨j, hj, rfl, hwd, hb⟩ := hrel
        have hc0 := (hb.cell (p := ⟨b, off + k, none⟩) hcb).trans hc
        by_cases hlt2 : j < rows[k].length
        · obtain ⟨b1, off1, rfl, _, hok, hcc, _⟩ := (hs0.below' hb).cell1 rfl hlt2 rfl
          have hwc := hwd.cell (j := j) (by omega)
          go_wp2
          have ghc0 := cell_regrown hc0
          have ghcc := cell_regrown hcc
          have ghwc := cell_regrown hwc
          refine wp_region_mix (C := fun w' => ∃ p : Regrown, w' = Go.Sort.grow (redrawn wr p.d) p.os) [true, true, true, true, true, true, true, true, true, true, true, true, true] (by kernel_rfl) (by kernel_rfl) (by kernel_rfl) (fun _ _ d _ _ h => by cases d <;> exact h) (regrown_of_below (Below.drew (Below.refl _ _))) ?_
          have hS0 : Below (wr.heap.size) wr wr.drew := Below.drew (Below.refl _ _)
          refine wpMix_pure (by kernel_rfl) (fun K hK => ?_)
          go_big_quiet_op
          refine hK _ ?_; clear hK K
          refine wpMix_pure (by kernel_rfl) (fun K hK => ?_)
          go_big_quiet_op
          refine hK _ ?_; clear hK K
          refine wpMix_pure (by kernel_rfl) (fun K hK => ?_)
          go_big_quiet_op
          refine hK _ ?_; clear hK K
          refine wpMix_pure (by kernel_rfl) (fun K hK => ?_)
          go_big_quiet_op
          refine hK _ ?_; clear hK K
          refine wpMix_pure (by kernel_rfl) (fun K hK => ?_)
          go_big_quiet_op
          refine hK _ ?_; clear hK K
          refine wpMix_pure (by kernel_rfl) (fun K hK => ?_)
          go_big_quiet_op
          refine hK _ ?_; clear hK K
          refine wpMix_pure (by kernel_rfl) (fun K hK => ?_)
          go_big_quiet_op
          refine hK _ ?_; clear hK K
          refine wpMix_pure (by kernel_rfl) (fun K hK => ?_)
          go_big_quiet_op
          refine hK _ ?_; clear hK K
          refine wpMix_pure (by kernel_rfl) (fun K hK => ?_)
          go_big_quiet_op
          refine hK _ ?_; clear hK K
          refine wpMix_pure (by kernel_rfl) (fun K hK => ?_)
          go_big_quiet_op
          refine hK _ ?_; clear hK K
          refine wpMix_pure (by kernel_rfl) (fun K hK => ?_)
          go_big_quiet_op
          refine hK _ ?_; clear hK K
          refine wpMix_pure (by kernel_rfl) (fun K hK => ?_)
          go_big_quiet_op
          refine hK _ ?_; clear hK K
          refine wpMix_pure (by kernel_rfl) (fun K hK => ?_)
          go_big_quiet_op
          refine hK _ ?_; clear hK K
          refine wpMix_nil ?_
          have hbd : Below w.heap.size w wr.drew := hb.trans (hS0.mono hb.size)
          have hwdd := hwd.below hS0
          have hc0d : wr.drew.cell? ⟨b, off + k, none⟩ = some (.slice (some ⟨b1, off1, none⟩) rows[k].length cap1) := hc0
          have hccd : wr.drew.cell? ⟨b1, off1 + j, none⟩ = some (.string rows[k][j]) := hcc
          have hwcd := hwdd.cell (j := j) (by omega)
          have hwz := hwdd.frozen j
          clear hwd hwc hc0 hcc hb ghc0 ghcc ghwc hS0
          by_cases hbig : wdAt rows k j j < rows[k][j].size
          · have hw2 := (hwdd.set j ((rows[k][j].size : Nat) : Int)).congr (fun i => wdAt_more hlt hlt2 hbig i)
            have hb2 : Below w.heap.size w (wr.drew.setCell ⟨w.heap.size, j, none⟩ (.int .i64 ((rows[k][j].size : Nat) : Int))) := hbd.setCell (Nat.le_refl _) _
            go_wp2
            go_roundw
            case rel => exact ⟨j + 1, by omega, by go_num, hw2, hb2⟩
            case measure => simp [intOf]; omega
          · have hw2 := hwdd.congr (g := fun i => ((wdAt rows k (j + 1) i : Nat) : Int)) (fun i => by rw [wdAt_same hlt hlt2 (by omega)])
            go_wp2
            go_roundw
            case rel => exact ⟨j + 1, by omega, by go_num, hw2, hbd⟩
            case measure => simp [intOf]; omega
        · have hw2 := hwd.congr (g := fun i => ((wdAt rows (k + 1) 0 i : Nat) : Int)) (fun i => by rw [wdAt_full hlt (by omega), wdAt_zero])
          go_wp2
          go_roundw
          case rel => exact ⟨k + 1, by omega, by go_num, hw2, hb⟩
          case measure => simp [intOf]; omega
    · replace hwd := hwd.congr (g := fun j => ((wdN rows j : Nat) : Int)) (fun j => by rw [wdN_all (by omega)])
      have hwl0 := hwd.lt
      go_wp2
      go_loopw [6, 7] (fun l i wr => ∃ k : Nat, k ≤ rows.length ∧ i = .int .i64 k ∧ Own fStr wr (w.heap.size + 1) 9 l ((rows.take k).map (lineF (wdN rows))) ∧ Wd wr w.heap.size (fun j => ((wdN rows j : Nat) : Int)) ∧ Below w.heap.size w wr) (fun _ i _ => rows.length - (intOf i).toNat)
      case atStart => exact ⟨0, Nat.zero_le _, rfl, Own.lit0m fStr (by omega), hwd.below ((Below.refl _ _).alloc (Nat.le_refl _) _), hb.alloc hb.size _⟩
      case round =>
        clear hwd hb hk hwl0
        obtain ⟨k, hk, rfl, ho, hwd, hb⟩ := hrel
        have hbs := hb.size
        have hwl := hwd.lt
        by_cases hlt : k < rows.length
        · obtain ⟨b, off, vk, fk, rfl, hc, hs0, _⟩ := hx.elem hlt
          obtain ⟨A1, cap1, rfl, hle1, hca1⟩ := hs0.form
          have hcb := block_lt_of_cell hc
          have hc0 := (hb.cell (p := ⟨b, off + k, none⟩) hcb).trans hc
          have hr12 := h12 rows[k] (List.getElem_mem hlt)
          have hkl : ((rows.take k).map (lineF (wdN rows))).length = k := by simp; omega
          have HKL := Lib.hid hkl
          have ho3 : wr.ownsRow (w.heap.size + 1) 9 1 u6 k (((rows.take k).map (lineF (wdN rows))).flatMap fStr.enc) := by have := ho; unfold Own at this; rw [hkl] at this; exact this
          have hs1 := hs0.below' hb
          have hraw : ∀ j, j ≤ rows[k].length → (rawS (wdN rows) rows[k] j).length ≤ 30000000 := fun j hj => by
            have h1 := rawS_len (wd := wdN rows) (r := rows[k]) (fun j => wdN_le hsz j) (fun i => cellA_le (hsz rows[k] (List.getElem_mem hlt)) i) j
            have : (2 * 1048576 + 2) * j ≤ (2 * 1048576 + 2) * 12 := Nat.mul_le_mul_left _ (by omega)
            omega
          clear hkl ho
          go_wp2
          go_loop [8, 9] (fun l i => ∃ j : Nat, j ≤ rows[k].length ∧ i = .int .i64 j ∧ l = .string (stS (rawS (wdN rows) rows[k] j))) (fun _ i => rows[k].length - (intOf i).toNat)
          case atStart => exact ⟨0, Nat.zero_le _, rfl, rfl⟩
          case round =>
            obtain ⟨j, hj, rfl, rfl⟩ := hrel
            by_cases hlt2 : j < rows[k].length
            · obtain ⟨b1, off1, rfl, _, hok, hcc, _⟩ := hs1.cell1 rfl hlt2 rfl
              have hcs := hsz rows[k] (List.getElem_mem hlt) rows[k][j] (List.getElem_mem hlt2)
              have hwm : rows[k][j].size ≤ wdN rows j := by have := wdN_mem (List.getElem_mem hlt) j; rw [cellA_at hlt2] at this; exact this
              have hwB := wdN_le hsz j
              have hwc := hwd.cell (j := j) (by omega)
              have hr0 := hraw j hj
              have hr1 := hraw (j + 1) hlt2
              have HPC : Hid (∀ n, n = wdN rows j - rows[k][j].size → preC (wdN rows) rows[k] j ++ spN n = rawS (wdN rows) rows[k] (j + 1)) := fun n hn => preC_full (by rw [cellA_at hlt2]; exact hn)
              have hpl : (preC (wdN rows) rows[k] j).length ≤ 31100000 := by
                unfold preC
                rw [List.length_append, List.length_append, cellA_at hlt2]
                have e1 : rows[k][j].data.toList.length = rows[k][j].size := by simp
                split <;> simp only [List.length_nil, List.length_cons] <;> omega
              have HSP := Lib.hid spN_succ
              obtain ⟨t0, ht0⟩ : ∃ t0, t0 = stS (rawS (wdN rows) rows[k] j) := ⟨_, rfl⟩
              have hts0 : t0.size ≤ 30000000 := by rw [ht0, stS_size]; exact hr0
              rw [← ht0]
              rcases Nat.eq_zero_or_pos j with hj0 | hj0
              · subst hj0
                have hcc' : wr.cell? ⟨b1, off1, none⟩ = some (.string rows[k][0]) := by simpa using hcc
                have HPR : Hid (t0 ++ rows[k][0] = stS (preC (wdN rows) rows[k] 0)) := by
                  show _ = _; rw [ht0, stS_app]; unfold preC; rw [cellA_at hlt2]; simp
                clear ht0
                go_wp2
                go_loop [8, 10] (fun l i => ∃ n : Nat, n ≤ wdN rows 0 - rows[k][0].size ∧ i = .int .i64 ((rows[k][0].size + n : Nat) : Int) ∧ l = .string (stS (preC (wdN rows) rows[k] 0 ++ spN n))) (fun _ i => wdN rows 0 - (intOf i).toNat)
                case atStart => exact ⟨0, Nat.zero_le _, by simp, by rw [HPR.out, show spN 0 = [] from rfl, List.append_nil]⟩
                case round =>
                  obtain ⟨n, hn, rfl, rfl⟩ := hrel
                  by_cases hlt3 : n < wdN rows 0 - rows[k][0].size
                  · have HSS : Hid (stS (preC (wdN rows) rows[k] 0 ++ spN n) ++ ⟨#[32]⟩ = stS (preC (wdN rows) rows[k] 0 ++ spN (n + 1))) := by
                      show _ = _; rw [stS_app, List.append_assoc, show (⟨#[32]⟩ : ByteArray).data.toList = [32] from rfl, HSP.out]
                    obtain ⟨t1, ht1⟩ : ∃ t1, t1 = stS (preC (wdN rows) rows[k] 0 ++ spN n) := ⟨_, rfl⟩
                    have hts2 : t1.size ≤ 40000000 := by rw [ht1, stS_size, List.length_append]; unfold spN; rw [List.length_replicate]; omega
                    rw [← ht1] at HSS ⊢
                    clear ht1
                    go_wp2
                    go_round
                    case rel => exact ⟨n + 1, by omega, by go_num, by rw [HSS.out]⟩
                    case measure => simp [intOf]; omega
                  · obtain rfl : n = wdN rows 0 - rows[k][0].size := by omega
                    rw [HPC.out _ rfl]
                    go_wp2
                    go_round
                    case rel => exact ⟨0 + 1, by omega, by go_num, rfl⟩
                    case measure => simp [intOf]; omega
              · have HPR : Hid (t0 ++ ⟨#[32, 32]⟩ ++ rows[k][j] = stS (preC (wdN rows) rows[k] j)) := by
                  show _ = _; rw [ht0, stS_app, stS_app]; unfold preC; rw [cellA_at hlt2, if_neg (by omega)]
                have hts1 : (t0 ++ ⟨#[32, 32]⟩).size ≤ 30000002 := by rw [ByteArray.size_append]; show _ + 2 ≤ _; omega
                clear ht0
                go_wp2
                go_loop [8, 10] (fun l i => ∃ n : Nat, n ≤ wdN rows j - rows[k][j].size ∧ i = .int .i64 ((rows[k][j].size + n : Nat) : Int) ∧ l = .string (stS (preC (wdN rows) rows[k] j ++ spN n))) (fun _ i => wdN rows j - (intOf i).toNat)
                case atStart => exact ⟨0, Nat.zero_le _, by simp, by rw [HPR.out, show spN 0 = [] from rfl, List.append_nil]⟩
                case round =>
                  obtain ⟨n, hn, rfl, rfl⟩ := hrel
                  by_cases hlt3 : n < wdN rows j - rows[k][j].size
                  · have HSS : Hid (stS (preC (wdN rows) rows[k] j ++ spN n) ++ ⟨#[32]⟩ = stS (preC (wdN rows) rows[k] j ++ spN (n + 1))) := by
                      show _ = _; rw [stS_app, List.append_assoc, show (⟨#[32]⟩ : ByteArray).data.toList = [32] from rfl, HSP.out]
                    obtain ⟨t1, ht1⟩ : ∃ t1, t1 = stS (preC (wdN rows) rows[k] j ++ spN n) := ⟨_, rfl⟩
                    have hts2 : t1.size ≤ 40000000 := by rw [ht1, stS_size, List.length_append]; unfold spN; rw [List.length_replicate]; omega
                    rw [← ht1] at HSS ⊢
                    clear ht1
                    go_wp2
                    go_round
                    case rel => exact ⟨n + 1, by omega, by go_num, by rw [HSS.out]⟩
                    case measure => simp [intOf]; omega
                  · obtain rfl : n = wdN rows j - rows[k][j].size := by omega
                    rw [HPC.out _ rfl]
                    go_wp2
                    go_round
                    case rel => exact ⟨j + 1, by omega, by go_num, rfl⟩
                    case measure => simp [intOf]; omega
            · obtain rfl : j = rows[k].length := by omega
              have HLF : Hid (lineF (wdN rows) rows[k] = stS (Lib.trimRightB (rawS (wdN rows) rows[k] rows[k].length) 32)) := lineS_eq _ _
              have hr0 := hraw _ (Nat.le_refl _)
              clear hraw hs1
              generalize rawS (wdN rows) rows[k] rows[k].length = raw at *
              go_wp2
              go_loop [8] (fun l => ∃ m : Nat, m ≤ raw.length ∧ l = .string (stS (raw.take m)) ∧ Hid (Lib.trimRightB raw 32 = Lib.trimRightB (raw.take m) 32)) (fun l => szOf l)
              case atStart => exact ⟨raw.length, Nat.le_refl _, by rw [List.take_length], by show _ = _; rw [List.take_length]⟩
              case round =>
                obtain ⟨m, hm, rfl, HT⟩ := hrel
                have hts : (stS (raw.take m)).size = m := by rw [stS_size, List.length_take]; omega
                have htd : (stS (raw.take m)).data.toList = raw.take m := rfl
                have HTE : Hid (stS (raw.take m) = stS (raw.take m)) := rfl
                generalize hT : stS (raw.take m) = t at hts htd HTE ⊢
                have HTT := Lib.hid hT
                clear hT
                have HEND : Hid (Lib.trimRightB (raw.take m) 32 = raw.take m → t = lineF (wdN rows) rows[k]) := fun e => by rw [HLF.out, HT.out, e]; exact HTT.out.symm
                rcases Nat.eq_zero_or_pos m with hm0 | hm0
                · have hz : t.size = 0 := by omega
                  have hend := HEND.out (by subst hm0; rfl)
                  have HEN := Lib.hid hend
                  have HTD := Lib.hid htd
                  have e0 : (t.size : Int) = 0 := by omega
                  clear hts hz hend HEND htd
                  go_wp2_with (at_builtin; refine wpList_append_one rfl _ _ 24 rfl (w.heap.size + 1) 9 i0 (.string ⟨#[]⟩) 1 16 Tryz.underlying24 hi hz0 hz1 hz2 rfl (by decide) u6 k _ rfl ho3 [.string t] rfl (by intro u hu; rw [List.mem_singleton] at hu; subst hu; rfl) rfl (by omega) (by decide) (by omega) ?_)
                  intro v' u hown hbu _ _
                  have hbu' := hb.trans (hbu.mono (by omega))
                  rw [HEN.out] at hown
                  have ho4 : Own fStr u (w.heap.size + 1) 9 v' ((rows.take (k + 1)).map (lineF (wdN rows))) := by rw [List.take_succ_eq_append_getElem hlt, List.map_append]; exact Own.push _ (by rw [HKL.out]) (by rw [← List.map_take] at hown; exact hown)
                  have hwd5 := hwd.belowB hbu (by omega)
                  clear hown
                  go_wp2
                  go_roundw
                  case rel => exact ⟨k + 1, by omega, by go_num, ho4, hwd5, hbu'⟩
                  case measure => simp [intOf]; omega
                · obtain ⟨m', rfl⟩ : ∃ m', m = m' + 1 := ⟨m - 1, by omega⟩
                  have hlm : m' < t.size := by omega
                  have es : ((t.size : Nat) : Int) - 1 = ((m' : Nat) : Int) := by omega
                  have hget : raw[m']? = some t[m'] := by
                    have h1 : t.data.toList[m']? = some t[m'] := by
                      rw [List.getElem?_eq_getElem (by simpa using hlm)]
                      simp
                      rfl
                    rw [htd, List.getElem?_take_of_lt (by omega)] at h1
                    exact h1
                  by_cases hbl : t[m'] = 32
                  · have e32 : ((t[m'].toNat : Int) == 32) = true := by rw [hbl]; rfl
                    have HT2 : Hid (Lib.trimRightB raw 32 = Lib.trimRightB (raw.take m') 32) := by show _ = _; rw [HT.out, trim_cut (by rw [hget, hbl])]
                    have HEX : Hid (t.extract 0 m' = stS (raw.take m')) := by
                      show _ = _
                      refine data_inj ?_
                      rw [extract_toList, htd, List.drop_zero, List.take_take]
                      show _ = raw.take m'
                      congr 1; omega
                    have hex : (t.extract 0 m').size = m' := by rw [HEX.out, stS_size, List.length_take]; omega
                    have HTD := Lib.hid htd
                    clear hbl hget htd HEND HTE
                    go_wp2
                    go_round
                    case rel => exact ⟨m', by omega, by rw [HEX.out], HT2⟩
                    case measure => simp [szOf]; omega
                  · have e32 : ((t[m'].toNat : Int) == 32) = false := by
                      rw [beq_eq_false_iff_ne]; intro e
                      exact hbl (UInt8.toNat_inj.1 (by have : (32 : UInt8).toNat = 32 := rfl; omega))
                    have HEN := Lib.hid (HEND.out (trim_stop hget hbl))
                    have HTD := Lib.hid htd
                    clear hbl hget htd HEND HTE
                    go_wp2_with (at_builtin; refine wpList_append_one rfl _ _ 24 rfl (w.heap.size + 1) 9 i0 (.string ⟨#[]⟩) 1 16 Tryz.underlying24 hi hz0 hz1 hz2 rfl (by decide) u6 k _ rfl ho3 [.string t] rfl (by intro u hu; rw [List.mem_singleton] at hu; subst hu; rfl) rfl (by omega) (by decide) (by omega) ?_)
                    intro v' u hown hbu _ _
                    have hbu' := hb.trans (hbu.mono (by omega))
                    rw [HEN.out] at hown
                    have ho4 : Own fStr u (w.heap.size + 1) 9 v' ((rows.take (k + 1)).map (lineF (wdN rows))) := by rw [List.take_succ_eq_append_getElem hlt, List.map_append]; exact Own.push _ (by rw [HKL.out]) (by rw [← List.map_take] at hown; exact hown)
                    have hwd5 := hwd.belowB hbu (by omega)
                    clear hown
                    go_wp2
                    go_roundw
                    case rel => exact ⟨k + 1, by omega, by go_num, ho4, hwd5, hbu'⟩
                    case measure => simp [intOf]; omega
        · have ho2 : Own fStr wr (w.heap.size + 1) 9 u6 (tabF rows) := by
            have e : (rows.take k) = rows := List.take_of_length_le (by omega)
            rw [e] at ho; exact ho
          clear ho
          have hn := Own.newB ho2 (by omega) hb hTOK
          go_wp2
          go_ret
          exact ⟨_, rfl, hn⟩

end Go.Proofs.YtjlnjeogaokkoaaGreatDoor
