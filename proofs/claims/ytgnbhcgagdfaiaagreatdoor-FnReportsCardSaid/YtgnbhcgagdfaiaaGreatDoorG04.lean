/- Parts of the proof: PGroup, Gr, Bl, Bu, Tw, Ip, Jg, TRegion, Ms. -/
import Derived.Test.YtgnbhcgagdfaiaaGreatDoorG03
import Derived.Test.YtgnbhcgagdfaiaaGreatDoorG02
import Derived.Test.YtgnbhcgagdfaiaaGreatDoorG01
import Derived.Lib.Builder
import Derived.Lib.AppendStr
import Derived.Lib.UnsafeStr
import Derived.Lib.MakeNoZero
import Derived.Laws.Externs
import Derived.Lib.SmallJoins
namespace Go.Proofs.YtgnbhcgagdfaiaaGreatDoor
open Go.RowKit
set_option linter.unusedVariables false

/-- A pointer to a Group that lies somewhere. -/
structure PGroup (w : World) (pb po : Nat) (x : DGroup) : Prop where
  c0 : w.cell? ⟨pb, po, none⟩ = some (.string x.id)
  c1 : w.cell? ⟨pb, po + 1, none⟩ = some (.int .i64 x.people)
  c2 : w.cell? ⟨pb, po + 2, none⟩ = some (.int .i64 x.guides)
  c3 : w.cell? ⟨pb, po + 3, none⟩ = some (.int .i64 x.beacons)
  c4 : w.cell? ⟨pb, po + 4, none⟩ = some (.int .i64 x.shovels)
  c5 : w.cell? ⟨pb, po + 5, none⟩ = some (.int .i64 x.probes)
  c6 : w.cell? ⟨pb, po + 6, none⟩ = some (.int .i64 x.skill)
theorem PGroup.below {w w' : World} {pb po : Nat} {x : DGroup} {B : Nat} (h : PGroup w pb po x) (hb : Below B w w') (hB : pb < B) : PGroup w' pb po x :=
  ⟨(hb.cell (p := ⟨pb, _, none⟩) hB).trans h.c0, (hb.cell (p := ⟨pb, _, none⟩) hB).trans h.c1, (hb.cell (p := ⟨pb, _, none⟩) hB).trans h.c2, (hb.cell (p := ⟨pb, _, none⟩) hB).trans h.c3, (hb.cell (p := ⟨pb, _, none⟩) hB).trans h.c4, (hb.cell (p := ⟨pb, _, none⟩) hB).trans h.c5, (hb.cell (p := ⟨pb, _, none⟩) hB).trans h.c6⟩
theorem PGroup.drewN {w : World} {pb po : Nat} {x : DGroup} (h : PGroup w pb po x) (n : Nat) : PGroup (w.drewN n) pb po x :=
  ⟨h.c0, h.c1, h.c2, h.c3, h.c4, h.c5, h.c6⟩
theorem PGroup.lt {w : World} {pb po : Nat} {x : DGroup} (h : PGroup w pb po x) : pb < w.heap.size := block_lt_of_cell h.c0
theorem PGroup.below' {w w' : World} {pb po : Nat} {x : DGroup} (h : PGroup w pb po x) (hb : Below w.heap.size w w') : PGroup w' pb po x := h.below hb h.lt
theorem PGroup.box (w : World) (x : DGroup) (T : TypeId) : PGroup (w.alloc (.cells #[.string x.id, .int .i64 x.people, .int .i64 x.guides, .int .i64 x.beacons, .int .i64 x.shovels, .int .i64 x.probes, .int .i64 x.skill] T)) w.heap.size 0 x := by
  constructor <;> simp
theorem PGroup.elem {w : World} {A : Option Addr} {len cap : Nat} {xs : List DGroup} {fp : List Nat} (h : Sl fGroup.cod w (.slice A len cap) xs fp) {k : Nat} (hk : k < xs.length) :
    ∃ b off, A = some ⟨b, off, none⟩ ∧ b ∈ fp ∧ fGroup.ok xs[k] ∧ PGroup w b (off + k * 7) xs[k] := by
  obtain ⟨b, off, hA, hm, hok, hc, _⟩ := h.at_ hk
  exact ⟨b, off, hA, hm, hok, ⟨hc 0 (by decide), hc 1 (by decide), hc 2 (by decide), hc 3 (by decide), hc 4 (by decide), hc 5 (by decide), hc 6 (by decide)⟩⟩
end Go.Proofs.YtgnbhcgagdfaiaaGreatDoor

namespace Go.Proofs.YtgnbhcgagdfaiaaGreatDoor
open Go.RowKit
set_option linter.unusedVariables false

def groupB (x : DGroup) : Bool := nameB x.id && inB x.people 1 30 && inB x.guides 0 x.people && inB x.beacons 0 30 && inB x.shovels 0 30 && inB x.probes 0 30 && inB x.skill 1 5
def levelB (n : Int) : Bool := inB n 1 5
set_option maxRecDepth 100000 in
set_option maxHeartbeats 400000 in
theorem l17Is_any (a : Int) (w : World) : Calls Tryz.prog 60 #[.int .i64 a] w fun e w' => e = .returned (.bool (levelB a)) ∧ w = w' := by
  go_enter Tryz.func60, Tryz.ntmps60
  go_wp2_with (go_at_call 85; refine (l00InB_any _ _ _ _).mono ?_; rintro e w' ⟨rfl, rfl⟩)
  go_ret
  exact ⟨rfl, rfl⟩
set_option maxRecDepth 100000 in
set_option maxHeartbeats 400000 in
theorem levelOk_any (a : Int) (w : World) : Calls Tryz.prog 66 #[.int .i64 a] w fun e w' => e = .returned (.bool (levelB a)) ∧ w = w' := by
  go_enter Tryz.func66, Tryz.ntmps66
  go_wp2_with (go_at_call 101; refine (withinB_any _ _ _ _).mono ?_; rintro e w' ⟨rfl, rfl⟩)
  go_ret
  exact ⟨rfl, rfl⟩


end Go.Proofs.YtgnbhcgagdfaiaaGreatDoor

namespace Go.Proofs.YtgnbhcgagdfaiaaGreatDoor
open Go.RowKit
set_option linter.unusedVariables false

theorem infoStr1 : (Tryz.prog.info? 9).map (fun i => (i.zero, i.size, i.bytes)) = some (some (.string ⟨#[]⟩), 1, 16) := by kernel_rfl

/-! ### lines that are a report, or an error -/
def doneF (xs : List ByteArray) : List ByteArray := if linesB xs then xs else []
def doneC (xs : List ByteArray) : Int := if linesB xs then 0 else 5
def doneV (b : Bool) (v : Value) : Value := match b with | true => v | false => .slice none 0 0
/-- What is handed on: the very slice, or nothing. -/
def DoneR (v : Value) (xs : List ByteArray) (w : World) (e : Ending) (w' : World) : Prop := e = .returned (.tuple #[doneV (linesB xs) v, .int .i64 (doneC xs)]) ∧ w = w'
set_option maxRecDepth 100000 in
set_option maxHeartbeats 1000000 in
theorem l30Done_any (v : Value) (xs : List ByteArray) (fp : List Nat) (w : World) (hx : Sl fStr.cod w v xs fp) :
    Calls Tryz.prog 32 #[v] w fun e w' => DoneR v xs w e w' := by
  cases h0 : linesB xs
  all_goals
    go_enter Tryz.func32, Tryz.ntmps32
    go_wp2_with (go_at_call 45; refine (l30Ok_any _ _ _ _ hx).mono ?_; rintro e w' ⟨rfl, rfl⟩)
    go_ret2
    exact ⟨by rw [doneC, h0]; rfl, rfl⟩
set_option maxRecDepth 100000 in
set_option maxHeartbeats 1000000 in
theorem reportOrFull_any (v : Value) (xs : List ByteArray) (fp : List Nat) (w : World) (hx : Sl fStr.cod w v xs fp) :
    Calls Tryz.prog 74 #[v] w fun e w' => DoneR v xs w e w' := by
  cases h0 : linesB xs
  all_goals
    go_enter Tryz.func74, Tryz.ntmps74
    go_wp2_with (go_at_call 50; refine (implValidReport_any _ _ _ _ hx).mono ?_; rintro e w' ⟨rfl, rfl⟩)
    go_ret2
    exact ⟨by rw [doneC, h0]; rfl, rfl⟩
theorem New.done {w w' : World} {v : Value} {xs : List ByteArray} (h : New fStr.cod w v xs w') : New fStr.cod w (doneV (linesB xs) v) (doneF xs) w' := by
  unfold doneF
  cases linesB xs
  · exact New.nil h.below
  · exact h

/-! ### bars -/
def mostF (xs : List Int) : Int := xs.foldl (fun a b => max a b) 0
theorem mostF_step {xs : List Int} {k : Nat} (h : k < xs.length) : mostF (xs.take (k + 1)) = max (mostF (xs.take k)) xs[k] := by
  unfold mostF; rw [List.take_succ_eq_append_getElem h, List.foldl_append]; rfl
theorem mostF_le {m : Int} (hm : 0 ≤ m) : ∀ (xs : List Int) (a : Int), a ≤ m → (∀ x ∈ xs, x ≤ m) → xs.foldl (fun a b => max a b) a ≤ m
  | [], a, ha, _ => ha
  | x :: xs, a, ha, h => by
    rw [List.foldl_cons]
    exact mostF_le hm xs _ (Int.max_le.2 ⟨ha, h x (by simp)⟩) (fun y hy => h y (by simp [hy]))
theorem mostF_ge : ∀ (xs : List Int) (a : Int), a ≤ xs.foldl (fun a b => max a b) a
  | [], a => Int.le_refl _
  | x :: xs, a => by rw [List.foldl_cons]; exact Int.le_trans (Int.le_max_left a x) (mostF_ge xs _)
theorem mostF_mem : ∀ (xs : List Int) (a : Int), ∀ x ∈ xs, x ≤ xs.foldl (fun a b => max a b) a
  | [], _, _, h => by simp at h
  | y :: xs, a, x, h => by
    rw [List.foldl_cons]
    rcases List.mem_cons.1 h with rfl | h
    · exact Int.le_trans (Int.le_max_right a x) (mostF_ge xs _)
    · exact mostF_mem xs _ x h
def barN (m width x : Int) : Nat := (x * width / max m 1).toNat
def barS (n : Nat) : ByteArray := ⟨(List.replicate n (35 : UInt8)).toArray⟩
theorem barS_size (n : Nat) : (barS n).size = n := by show (List.replicate n (35 : UInt8)).toArray.size = n; simp
theorem barS_succ (n : Nat) : barS n ++ ⟨#[35]⟩ = barS (n + 1) := by
  apply data_inj
  rw [ByteArray.data_append]
  simp only [barS, List.replicate_succ', Array.toList_append]
def barsF (xs : List Int) (width : Int) : List ByteArray := xs.map (fun x => barS (barN (mostF xs) width x))
theorem barN_le {m width x : Int} (h0 : 0 ≤ x) (h1 : x ≤ m) (hw : 1 ≤ width ∧ width ≤ 100) : 0 ≤ x * width ∧ x * width / max m 1 ≤ 100 ∧ 0 ≤ x * width / max m 1 := by
  have hm : 1 ≤ max m 1 := Int.le_max_right _ _
  have hmm : m ≤ max m 1 := Int.le_max_left _ _
  have p0 : 0 ≤ x * width := Int.mul_nonneg h0 (by omega)
  have p1 : x * width ≤ max m 1 * 100 := Int.mul_le_mul (by omega) hw.2 (by omega) (by omega)
  refine ⟨p0, ?_, Int.ediv_nonneg p0 (by omega)⟩
  have := Int.ediv_le_ediv (c := max m 1) (by omega) p1
  rwa [Int.mul_ediv_cancel_left _ (by omega)] at this
theorem repeatL_bar : ∀ n : Nat, Lib.repeatL [35] n = List.replicate n 35
  | 0 => rfl
  | n + 1 => by rw [List.replicate_succ, ← repeatL_bar n]; rfl
theorem repeat_bar (n : Nat) : (⟨(Lib.repeatL (⟨#[35]⟩ : ByteArray).data.toList n).toArray⟩ : ByteArray) = barS n := by
  unfold barS; rw [← repeatL_bar n]
theorem repeatBar_any (n : Nat) (w : World) (hn : n ≤ 100) : Calls Tryz.prog 72 #[.string ⟨#[35]⟩, .int .i64 (n : Int)] w fun e w' => e = .returned (.string (barS n)) ∧ Below w.heap.size w w' := by
  have := Tryz.strings_Repeat ⟨#[35]⟩ n w (by omega) (by show 1 * n ≤ _; omega)
  rw [repeat_bar] at this
  exact this
theorem barN_zero {width x : Int} (h : x = 0) : barN 0 width x = 0 := by subst h; unfold barN; simp
theorem barN_pos {m width x : Int} (h : 0 < m) (p : 0 ≤ x * width / max m 1) : x * width / m = ((barN m width x : Nat) : Int) := by
  have e : max m 1 = m := Int.max_eq_left (by omega)
  unfold barN
  rw [e] at p ⊢
  exact (Int.toNat_of_nonneg p).symm

end Go.Proofs.YtgnbhcgagdfaiaaGreatDoor

namespace Go.Proofs.YtgnbhcgagdfaiaaGreatDoor
open Go.RowKit

theorem infoBuilder : (Tryz.prog.info? 87).map (·.size) = some 2 := by kernel_rfl
theorem liesBuilder : liesAt Tryz.prog Tryz.prog.depth 87 (2 / Tryz.prog.cellsOf 87) 0 87 1 = true := by kernel_rfl
theorem infoU8 : (Tryz.prog.info? 5).map (fun i => (i.zero, i.size, i.bytes)) = some (some (.int .u8 0), 1, 1) := by kernel_rfl

set_option maxRecDepth 100000 in
set_option maxRecDepth 100000 in
set_option maxHeartbeats 1000000 in
theorem copyCheck_used (b : Nat) (w : World) (h0 : w.cell? ⟨b, 0, none⟩ = some (.pointer (some ⟨b, 0, none⟩))) :
    Calls Tryz.prog 97 #[.pointer (some ⟨b, 0, none⟩)] w fun e w' => e = .returned (.tuple #[]) ∧ w' = w := by
  obtain ⟨j, hj, _⟩ := Option.map_eq_some_iff.1 infoBuilder
  go_enter Tryz.func97, Tryz.ntmps97
  go_wp2
  rw [Lib.run_neq_ptr_same w _ Tryz.underlying85 hj]
  go_wp2
  go_end0
  exact ⟨rfl, rfl⟩

set_option maxRecDepth 100000 in
set_option maxRecDepth 100000 in
set_option maxHeartbeats 1000000 in
theorem copyCheck_fresh (b : Nat) (w : World) (h0 : w.cell? ⟨b, 0, none⟩ = some (.pointer none)) (hsh : w.shape? b = some (87, 2)) (hfz : w.frozen? ⟨b, 0, none⟩ = false) :
    Calls Tryz.prog 97 #[.pointer (some ⟨b, 0, none⟩)] w fun e w' => e = .returned (.tuple #[]) ∧ w' = w.setCell ⟨b, 0, none⟩ (.pointer (some ⟨b, 0, none⟩)) := by
  obtain ⟨j, hj, hjs⟩ := Option.map_eq_some_iff.1 infoBuilder
  go_enter Tryz.func97, Tryz.ntmps97
  go_wp2
  rw [Lib.run_to_unsafe w ⟨b, 0, none⟩ Tryz.underlying85 Tryz.underlying155 hj (by rw [hjs]; decide) hsh (Nat.zero_lt_succ 1)]
  simp only [Result.andThen]
  rw [Oper.upon_value]
  go_wp2
  rw [run_callFunc_extern Tryz.func132 (by kernel_rfl) (by kernel_rfl) (by kernel_rfl) (e := Extern.AbiNoEscape.same) (by kernel_rfl)]
  rw [Lib.run_noEscape]
  simp only [Result.andThen]
  rw [Oper.upon_value]
  go_wp2
  rw [Lib.run_from_unsafe w ⟨b, 0, none⟩ Tryz.underlying155 Tryz.underlying85 hj hsh liesBuilder]
  simp only [Result.andThen]
  rw [Oper.upon_value]
  go_wp2
  go_end0
  exact ⟨rfl, rfl⟩

theorem copyCheck_any (B b : Nat) (bs : List Value) (w : World) (h : Lib.IsBuilder 87 5 B b bs w) :
    Calls Tryz.prog 97 #[.pointer (some ⟨b, 0, none⟩)] w fun e w' => e = .returned (.tuple #[]) ∧ (Lib.BuilderAt 87 5 B b (.pointer (some ⟨b, 0, none⟩)) bs w' ∧ Below B w w') := by
  rcases h with h | h
  · refine (copyCheck_fresh b w h.cell0 h.shape h.frozen0).mono ?_
    rintro e w' ⟨rfl, rfl⟩
    exact ⟨rfl, h.used _, (Below.refl B w).setCell (p := ⟨b, 0, none⟩) h.1 _⟩
  · refine (copyCheck_used b w h.cell0).mono ?_
    rintro e w' ⟨rfl, rfl⟩
    exact ⟨rfl, h, Below.refl B _⟩

set_option maxRecDepth 100000 in
set_option maxRecDepth 100000 in
set_option maxHeartbeats 2000000 in
theorem writeString_any (B b : Nat) (bs : List Value) (s : ByteArray) (w : World) (h : Lib.IsBuilder 87 5 B b bs w) (hlen : bs.length + s.size ≤ 140737488355328) (hBw : B ≤ w.heap.size) :
    Calls Tryz.prog 56 #[.pointer (some ⟨b, 0, none⟩), .string s] w fun e w' => e = .returned (.tuple #[.int .i64 s.size, .nilIface]) ∧ (Lib.IsBuilder 87 5 B b (bs ++ Lib.strCells s) w' ∧ Below B w w') := by
  obtain ⟨i0, hi, hz0, hz1, hz2⟩ := info_parts infoU8
  go_enter Tryz.func56, Tryz.ntmps56
  go_wp2_with (go_at_call 97; refine (copyCheck_any B b bs _ h).mono ?_)
  rintro e w1 ⟨rfl, h1, hb1⟩
  obtain ⟨hB, v, hbk, hown, hne⟩ := h1
  have c0 : w1.cell? ⟨b, 0, none⟩ = some (.pointer (some ⟨b, 0, none⟩)) := by rw [Lib.cell_of_heap hbk]; rfl
  have c1 : w1.cell? ⟨b, 1, none⟩ = some v := by rw [Lib.cell_of_heap hbk]; rfl
  go_wp2_with (at_builtin; refine Lib.wpList_append_own_string _ rfl _ _ 34 9 rfl B 5 i0 Tryz.underlying34 Tryz.underlying9 hi hz0 hz1 hz2 _ _ _ rfl hown s rfl ?c3 ?c4 ?c5 ?_)
  case c3 => unfold maxLen; omega
  case c4 => omega
  case c5 => have := hb1.size; omega
  intro v' w2 hown' hgrow _
  have hlt : b < w1.heap.size := by
    rcases Nat.lt_or_ge b w1.heap.size with h' | h'
    · exact h'
    · simp [Array.getElem?_eq_none h'] at hbk
  have hb2 : w2.heap[b]? = some (.cells #[.pointer (some ⟨b, 0, none⟩), v] 87 (0, 0)) := by
    rw [hgrow.block b hlt (fun e => hne e.symm)]
    exact hbk
  have d0 : w2.cell? ⟨b, 0, none⟩ = some (.pointer (some ⟨b, 0, none⟩)) := by rw [Lib.cell_of_heap hb2]; rfl
  have d1 : w2.cell? ⟨b, 1, none⟩ = some v := by rw [Lib.cell_of_heap hb2]; rfl
  have f1 : w2.frozen? ⟨b, 1, none⟩ = false := Lib.frozen_of_heap hb2 1
  obtain ⟨ao, n', cap, rfl⟩ : ∃ ao n' cap, v' = .slice ao n' cap := by
    rcases hown'.2 with ⟨hv, _⟩ | ⟨g, cap, cur, hv, _⟩
    · exact ⟨_, _, _, hv⟩
    · exact ⟨_, _, _, hv⟩
  go_wp2
  go_ret2
  refine ⟨rfl, .inr ?_, ?_⟩
  · exact Lib.BuilderAt.put (T := 87) (e := 5) hB hb2 (bs' := bs ++ Lib.strCells s) (by simpa [Lib.strCells_length] using hown') (by decide)
  · exact (hb1.grown hgrow (by have := hb1.size; omega) (fun k hk => (hown.lt k hk).1)).setCell (p := ⟨b, 1, none⟩) hB _

/-- 'var b strings.Builder' behind the alloc. -/
theorem builder_new (w : World) : Lib.IsBuilder 87 5 w.heap.size w.heap.size [] (w.alloc (.cells #[.pointer none, .slice none 0 0] 87)) :=
  .inl ⟨Nat.le_refl _, .slice none 0 0, heap_alloc_new w _, World.ownsRow_nil _ _ _ _, by simp [Value.ownBlock]⟩

theorem isB_below {B b : Nat} {bs : List Value} {w w' : World} (h : Lib.IsBuilder 87 5 B b bs w) (hb : Below w.heap.size w w') : Lib.IsBuilder 87 5 B b bs w' := by
  have key : ∀ p, Lib.BuilderAt 87 5 B b p bs w → Lib.BuilderAt 87 5 B b p bs w' := by
    rintro p ⟨hB, v, hbk, hown, hne⟩
    have hlt : b < w.heap.size := by
      rcases Nat.lt_or_ge b w.heap.size with h' | h'
      · exact h'
      · simp [Array.getElem?_eq_none h'] at hbk
    refine ⟨hB, v, by rw [hb.block _ hlt]; exact hbk, ?_, hne⟩
    obtain ⟨h1, h2⟩ := hown
    refine ⟨h1, ?_⟩
    rcases h2 with h2 | ⟨g, cap, cur, hv, hg, hh, r⟩
    · exact .inl h2
    · have hgl : g < w.heap.size := by
        rcases Nat.lt_or_ge g w.heap.size with hlt | hge
        · exact hlt
        · rw [Array.getElem?_eq_none hge] at hh; cases hh
      exact .inr ⟨g, cap, cur, hv, hg, by rw [hb.block _ hgl]; exact hh, r⟩
  rcases h with h | h
  · exact .inl (key _ h)
  · exact .inr (key _ h)
end Go.Proofs.YtgnbhcgagdfaiaaGreatDoor

namespace Go.Proofs.YtgnbhcgagdfaiaaGreatDoor
open Go.RowKit
set_option linter.unusedVariables false

theorem infoStrW : (Tryz.prog.info? 9).map (fun i => (i.zero, i.size, i.bytes)) = some (some (.string ⟨#[]⟩), 1, 16) := by kernel_rfl
theorem infoIntW : (Tryz.prog.info? 3).map (fun i => (i.zero, i.size, i.bytes)) = some (some (.int .i64 0), 1, 8) := by kernel_rfl
/-- The row of widths. -/
def Wd (w : World) (B : Nat) (f : Nat → Int) : Prop := w.ownsRow B 3 1 (.slice (some ⟨B, 0, none⟩) 12 12) 12 ((List.range 12).map fun j => Value.int .i64 (f j))
theorem Wd.cell {w : World} {B : Nat} {f : Nat → Int} (h : Wd w B f) {j : Nat} (hj : j < 12) : w.cell? ⟨B, j, none⟩ = some (.int .i64 (f j)) := by
  rw [h.cellAt j (by omega), List.getElem?_map, List.getElem?_range hj]; rfl
theorem Wd.frozen {w : World} {B : Nat} {f : Nat → Int} (h : Wd w B f) (j : Nat) : w.frozen? ⟨B, j, none⟩ = false := h.frozenAt j
theorem Wd.congr {w : World} {B : Nat} {f g : Nat → Int} (h : Wd w B f) (e : ∀ j, f j = g j) : Wd w B g := by
  have : f = g := funext e
  rwa [← this]
theorem Wd.set {w : World} {B : Nat} {f : Nat → Int} (h : Wd w B f) (j : Nat) (v : Int) : Wd (w.setCell ⟨B, j, none⟩ (.int .i64 v)) B (fun i => if i = j then v else f i) := by
  have h1 := (h.stored j (.int .i64 v)).1
  have e : ((List.range 12).map fun j => Value.int .i64 (f j)).set j (.int .i64 v) = (List.range 12).map fun i => Value.int .i64 (if i = j then v else f i) := by
    refine List.ext_getElem? fun i => ?_
    rw [List.getElem?_set, List.getElem?_map, List.getElem?_map]
    by_cases hi : i < 12
    · rw [List.getElem?_range hi]
      by_cases e : j = i
      · subst e; simp [hi]
      · have e2 : ¬ i = j := fun h => e h.symm
        simp [e, e2]
    · have : (List.range 12)[i]? = none := List.getElem?_eq_none (by simpa using hi)
      rw [this]; simp; omega
  rw [e] at h1
  exact h1
theorem Wd.below {w w' : World} {B : Nat} {f : Nat → Int} (h : Wd w B f) (hb : Below w.heap.size w w') : Wd w' B f := by
  obtain ⟨h1, h2⟩ := h
  refine ⟨h1, ?_⟩
  rcases h2 with h2 | ⟨g, cap, cur, hv, hg, hh, r⟩
  · exact .inl h2
  · have hgl : g < w.heap.size := by
      rcases Nat.lt_or_ge g w.heap.size with hlt | hge
      · exact hlt
      · rw [Array.getElem?_eq_none hge] at hh; cases hh
    exact .inr ⟨g, cap, cur, hv, hg, by rw [hb.block _ hgl]; exact hh, r⟩
theorem Wd.lt {w : World} {B : Nat} {f : Nat → Int} (h : Wd w B f) : B < w.heap.size := block_lt_of_cell (h.cell (j := 0) (by omega))
theorem Wd.start (w : World) : Wd (w.alloc (.cells (madeCells #[Value.int .i64 0] 12) 3)) w.heap.size (fun _ => 0) := by
  have := World.ownsRow_lit (e := 3) (size := 1) (base := w.heap.size) w (madeCells #[Value.int .i64 0] 12) 12 (Nat.le_refl _) (by decide) (size_madeCells _ _)
  unfold Wd
  have e : (madeCells #[Value.int .i64 0] 12).toList = (List.range 12).map fun j => Value.int .i64 0 := by
    unfold madeCells
    rw [show Array.range 12 = #[0, 1, 2, 3, 4, 5, 6, 7, 8, 9, 10, 11] from by decide]
    simp [Nat.mod_one, List.range_succ]
  rw [e] at this
  exact this
theorem wdAt_next {rows : List (List ByteArray)} {i k : Nat} (h : i < rows.length) (hk : k < rows[i].length) (j : Nat) :
    (if j = k then max ((wdAt rows i k k : Nat) : Int) ((rows[i][k].size : Nat) : Int) else ((wdAt rows i k j : Nat) : Int)) = ((wdAt rows i (k + 1) j : Nat) : Int) := by
  rw [wdAt_step h, cellA_at hk]
  by_cases e : j = k
  · subst e; rw [if_pos rfl, if_pos rfl]; omega
  · rw [if_neg e, if_neg e]
theorem wdAt_same {rows : List (List ByteArray)} {i k : Nat} (h : i < rows.length) (hk : k < rows[i].length) (hle : rows[i][k].size ≤ wdAt rows i k k) (j : Nat) : wdAt rows i (k + 1) j = wdAt rows i k j := by
  rw [wdAt_step h, cellA_at hk]
  by_cases e : j = k
  · subst e; rw [if_pos rfl]; omega
  · rw [if_neg e]
theorem wdAt_more {rows : List (List ByteArray)} {i k : Nat} (h : i < rows.length) (hk : k < rows[i].length) (hle : wdAt rows i k k < rows[i][k].size) (j : Nat) :
    (if j = k then ((rows[i][k].size : Nat) : Int) else ((wdAt rows i k j : Nat) : Int)) = ((wdAt rows i (k + 1) j : Nat) : Int) := by
  rw [wdAt_step h, cellA_at hk]
  by_cases e : j = k
  · subst e; rw [if_pos rfl, if_pos rfl]; omega
  · rw [if_neg e, if_neg e]
theorem wdN_all {rows : List (List ByteArray)} {k : Nat} (h : rows.length ≤ k) (j : Nat) : wdAt rows k 0 j = wdN rows j := by rw [wdAt_zero, List.take_of_length_le h]
theorem rowsOk_step {rows : List (List ByteArray)} {k : Nat} (h : k < rows.length) (h0 : rowsOk (rows.take k) = true) (h1 : rowOk rows[k] = true) : rowsOk (rows.take (k + 1)) = true := by
  unfold rowsOk at *; rw [List.take_succ_eq_append_getElem h, List.all_append, h0]; simp [h1]
theorem rowsOk_bad {rows : List (List ByteArray)} {k : Nat} (h : k < rows.length) (h1 : rowOk rows[k] = false) : rowsOk rows = false := by
  unfold rowsOk
  rw [Bool.eq_false_iff]
  intro hall
  have := List.all_eq_true.1 hall rows[k] (List.getElem_mem h)
  rw [h1] at this; cases this
theorem cells_step {r : List ByteArray} {j : Nat} (h : j < r.length) (h0 : (r.take j).all cellOk = true) (h1 : cellOk r[j] = true) : (r.take (j + 1)).all cellOk = true := by
  rw [List.take_succ_eq_append_getElem h, List.all_append, h0]; simp [h1]
theorem rowOk_bad {r : List ByteArray} {j : Nat} (h : j < r.length) (h1 : cellOk r[j] = false) : rowOk r = false := by
  unfold rowOk
  rw [Bool.and_eq_false_iff]
  right
  rw [Bool.eq_false_iff]
  intro hall
  have := List.all_eq_true.1 hall r[j] (List.getElem_mem h)
  rw [h1] at this; cases this
theorem rowOk_full {r : List ByteArray} {j : Nat} (h : r.length ≤ j) (h12 : r.length ≤ 12) (h0 : (r.take j).all cellOk = true) : rowOk r = true := by
  rw [List.take_of_length_le h] at h0
  unfold rowOk; rw [h0, decide_eq_true h12]; rfl
theorem rowOk_long {r : List ByteArray} (h : ¬ r.length ≤ 12) : rowOk r = false := by unfold rowOk; rw [decide_eq_false h]; rfl
theorem rowsOk_12 {rows : List (List ByteArray)} (h : rowsOk rows = true) : ∀ r ∈ rows, r.length ≤ 12 := by
  intro r hr
  have := List.all_eq_true.1 h r hr
  unfold rowOk at this
  simp only [Bool.and_eq_true, decide_eq_true_eq] at this
  exact this.1
def tlF (rows : List (List ByteArray)) : List ByteArray := if rowsOk rows then doneF (tabF rows) else []
def tlC (rows : List (List ByteArray)) : Int := if rowsOk rows then doneC (tabF rows) else 2
def spS (n : Nat) : ByteArray := ⟨(spN n).toArray⟩
theorem spS_size (n : Nat) : (spS n).size = n := by show (spN n).toArray.size = n; simp [spN]
theorem repeatL_sp : ∀ n : Nat, Lib.repeatL [32] n = spN n
  | 0 => rfl
  | n + 1 => by unfold spN; rw [List.replicate_succ, show List.replicate n 32 = spN n from rfl, ← repeatL_sp n]; rfl
theorem repeatSp_any (n : Nat) (w : World) (hn : n ≤ 100000000) : Calls Tryz.prog 72 #[.string ⟨#[32]⟩, .int .i64 (n : Int)] w fun e w' => e = .returned (.string (spS n)) ∧ Below w.heap.size w w' := by
  have := Tryz.strings_Repeat ⟨#[32]⟩ n w (by omega) (by show 1 * n ≤ _; omega)
  rw [show (⟨(Lib.repeatL (⟨#[32]⟩ : ByteArray).data.toList n).toArray⟩ : ByteArray) = spS n from by unfold spS; rw [← repeatL_sp n]] at this
  exact this
theorem lineF_size {wd : Nat → Nat} {r : List ByteArray} (h : ∀ j, wd j ≤ 1048576) (h2 : ∀ j, (cellA r j).size ≤ 1048576) (h12 : r.length ≤ 12) : (lineF wd r).size ≤ 100000000 := by
  unfold lineF
  show (List.toArray _).size ≤ _
  rw [List.size_toArray]
  have h3 := trim_len (rawI wd r r.length) 32
  have h4 := rawI_len (wd := wd) (r := r) h h2 r.length
  have h5 : (2 * 1048576 + 2) * r.length ≤ (2 * 1048576 + 2) * 12 := Nat.mul_le_mul_left _ h12
  omega
theorem tab_ok {rows : List (List ByteArray)} (h12 : ∀ r ∈ rows, r.length ≤ 12) (hsz : ∀ r ∈ rows, ∀ c ∈ r, c.size ≤ 1048576) : ∀ x ∈ tabF rows, fStr.ok x := by
  intro x hx
  unfold tabF at hx
  obtain ⟨r, hr, rfl⟩ := List.mem_map.1 hx
  have := lineF_size (wd := wdN rows) (r := r) (fun j => wdN_le hsz j) (fun j => cellA_le (hsz r hr) j) (h12 r hr)
  show (lineF _ _).size ≤ _
  omega

theorem Wd.belowB {w w' : World} {B C : Nat} {f : Nat → Int} (h : Wd w B f) (hb : Below C w w') (hC : B < C) : Wd w' B f := by
  obtain ⟨h1, h2⟩ := h
  refine ⟨h1, ?_⟩
  rcases h2 with h2 | ⟨g, cap, cur, hv, hg, hh, r⟩
  · exact .inl h2
  · have : g = B := by injection hv with h _ _; injection h with h; injection h with h _ _; exact h.symm
    subst this
    exact .inr ⟨g, cap, cur, hv, hg, by rw [hb.block _ hC]; exact hh, r⟩
theorem Own.newB {α : Type} {E : Flat α} {w w' : World} {base : Nat} {e : TypeId} {v : Value} {L : List α} (h : Own E w' base e v L) (hbase : w.heap.size ≤ base) (hb : Below w.heap.size w w') (hok : ∀ x ∈ L, E.ok x) : New E.cod w v L w' := by
  obtain ⟨fp, h1, h2, h3⟩ := Sl.of_own (n := L.length) rfl h hok
  exact ⟨⟨fp, h1, fun b hb => Nat.le_trans hbase (h2 b hb), h3⟩, hb⟩

set_option maxRecDepth 100000 in
set_option maxHeartbeats 8000000 in
theorem implTableLines_any (v : Value) (rows : List (List ByteArray)) (fp : List Nat) (w : World) (hx : Sl fStr.cod.slice w v rows fp) (hlen : rows.length ≤ 1048577) (hsz : ∀ r ∈ rows, ∀ c ∈ r, c.size ≤ 1048576) :
    Calls Tryz.prog 38 #[v] w fun e w' => NewR2 fStr.cod w (tlF rows) (tlC rows) e w' := by
  obtain ⟨A, cap, rfl, hle, hca⟩ := hx.form
  obtain ⟨i0, hi, hz0, hz1, hz2⟩ := info_parts infoStrW
  obtain ⟨j0, hj, hy0, hy1, hy2⟩ := info_parts infoIntW
  have hmk : ∀ W : World, (Instr.makeSlice 99 (.int .i64 12) (.int .i64 12)).run Tryz.prog W = .ok (.slice (some ⟨W.heap.size, 0, none⟩) 12 12) (W.alloc (.cells (madeCells (Value.int .i64 0).cells (12 * j0.size)) 3)) := fun W => run_make_rowN (P := Tryz.prog) 99 3 j0 _ Tryz.underlying99 hj hy0 .i64 .i64 12 12 (Nat.le_refl _) (by rw [hy2]; decide) (by decide) W
  rw [hy1] at hmk
  have hmk' : ∀ W : World, (Instr.makeSlice 99 (.int .i64 12) (.int .i64 12)).run Tryz.prog W = .ok (.slice (some ⟨W.heap.size, 0, none⟩) 12 12) (W.alloc (.cells (madeCells #[Value.int .i64 0] 12) 3)) := hmk
  have hB0 : Below w.heap.size w (w.alloc (.cells (madeCells #[Value.int .i64 0] 12) 3)) := (Below.refl _ _).alloc (Nat.le_refl _) _
  have hW0 := (Wd.start w).congr (g := fun j => ((wdAt rows 0 0 j : Nat) : Int)) (fun j => by rw [wdAt_zero]; rfl)
  clear hmk hj hy0 hy1 hy2
  go_enter Tryz.func38, Tryz.ntmps38
  go_wp2
  go_loopw [18] (fun i wr => ∃ k : Nat, k ≤ rows.length ∧ i = .int .i64 k ∧ Hid (rowsOk (rows.take k) = true) ∧ Wd wr w.heap.size (fun j => ((wdAt rows k 0 j : Nat) : Int)) ∧ Below w.heap.size w wr) (fun i _ => rows.length - (intOf i).toNat)
  case atStart => exact ⟨0, Nat.zero_le _, rfl, rfl, hW0, hB0⟩
  case round =>
    obtain ⟨k, hk, rfl, HOK, hwd, hb⟩ := hrel
    by_cases hlt : k < rows.length
    · obtain ⟨b, off, vk, fk, rfl, hc, hs0, _⟩ := hx.elem hlt
      obtain ⟨A1, cap1, rfl, hle1, hca1⟩ := hs0.form
      have hcb := block_lt_of_cell hc
      have hc0 := (hb.cell (p := ⟨b, off + k, none⟩) hcb).trans hc
      by_cases h12 : rows[k].length ≤ 12
      · go_wp2
        go_loopw [27] (fun i wq => ∃ j : Nat, j ≤ rows[k].length ∧ i = .int .i64 j ∧ Hid ((rows[k].take j).all cellOk = true) ∧ Wd wq w.heap.size (fun i => ((wdAt rows k j i : Nat) : Int)) ∧ Below w.heap.size w wq) (fun i _ => rows[k].length - (intOf i).toNat)
        case atStart => exact ⟨0, Nat.zero_le _, rfl, rfl, hwd, hb⟩
        case round =>
          clear hwd hb hc0
          obtain ⟨j, hj, rfl, HC, hwd, hb⟩ := hrel
          by_cases hlt2 : j < rows[k].length
          · obtain ⟨b1, off1, rfl, _, hok, hcc, _⟩ := (hs0.below' hb).cell1 rfl hlt2 rfl
            have hcs := hsz rows[k] (List.getElem_mem hlt) rows[k][j] (List.getElem_mem hlt2)
            have hcs' : rows[k][j].size ≤ 9223372036854775807 := by omega
            cases hcell : cellOk rows[k][j]
            · have HB := Lib.hid (rowsOk_bad hlt (rowOk_bad hlt2 hcell))
              have HCL : Hid (bwAll rows[k][j].data.toList 33 126 = false) := hcell
              clear hcell
              go_wp2_with fail
              refine (bytesWithin_any _ _ _ _ hcs').mono ?_
              rintro e w' ⟨rfl, rfl⟩
              rw [HCL.out]
              go_wp2
              go_ret2
              exact ⟨_, by rw [tlC, HB.out]; rfl, by rw [tlF, HB.out]; exact New.nil hb⟩
            · have HC2 := Lib.hid (cells_step hlt2 HC.out hcell)
              have HCL : Hid (bwAll rows[k][j].data.toList 33 126 = true) := hcell
              have hwc := hwd.cell (j := j) (by omega)
              have hwz := hwd.frozen j
              have hw2 := (hwd.set j (max ((wdAt rows k j j : Nat) : Int) ((rows[k][j].size : Nat) : Int))).congr (fun i => wdAt_next hlt hlt2 i)
              have hb2 : Below w.heap.size w (wr.setCell ⟨w.heap.size, j, none⟩ (.int .i64 (max ((wdAt rows k j j : Nat) : Int) ((rows[k][j].size : Nat) : Int)))) := hb.setCell (Nat.le_refl _) _
              clear hcell HC
              go_wp2_with fail
              refine (bytesWithin_any _ _ _ _ hcs').mono ?_
              rintro e w' ⟨rfl, rfl⟩
              rw [HCL.out]
              go_wp2
              go_roundw
              case rel => exact ⟨j + 1, by omega, by go_num, HC2, hw2, hb2⟩
              case measure => simp [intOf]; omega
          · have HOK2 := Lib.hid (rowsOk_step hlt HOK.out (rowOk_full (by omega) h12 HC.out))
            have hw2 := hwd.congr (g := fun i => ((wdAt rows (k + 1) 0 i : Nat) : Int)) (fun i => by rw [wdAt_full hlt (by omega), wdAt_zero])
            go_wp2
            go_roundw
            case rel => exact ⟨k + 1, by omega, by go_num, HOK2, hw2, hb⟩
            case measure => simp [intOf]; omega
      · have HB := Lib.hid (rowsOk_bad hlt (rowOk_long h12))
        go_wp2
        go_ret2
        exact ⟨_, by rw [tlC, HB.out]; rfl, by rw [tlF, HB.out]; exact New.nil hb⟩
    · have hall : rowsOk rows = true := by have := HOK.out; rw [List.take_of_length_le (by omega)] at this; exact this
      have HCO := Lib.hid (show tlC rows = doneC (tabF rows) from by rw [tlC, hall]; rfl)
      have HFO := Lib.hid (show tlF rows = doneF (tabF rows) from by rw [tlF, hall]; rfl)
      have h12 := rowsOk_12 hall
      have hTOK := tab_ok h12 hsz
      replace hwd := hwd.congr (g := fun j => ((wdN rows j : Nat) : Int)) (fun j => by rw [wdN_all (by omega)])
      clear HOK hall
      go_wp2
      go_loopw [9, 49] (fun l i wr => ∃ k : Nat, k ≤ rows.length ∧ i = .int .i64 k ∧ Own fStr wr (w.heap.size + 1) 9 l ((rows.take k).map (lineF (wdN rows))) ∧ Wd wr w.heap.size (fun j => ((wdN rows j : Nat) : Int)) ∧ Below w.heap.size w wr) (fun _ i _ => rows.length - (intOf i).toNat)
      case atStart => exact ⟨0, Nat.zero_le _, rfl, Own.nil fStr _ _ _, hwd, hb⟩
      case round =>
        clear hwd hb hk
        obtain ⟨k, hk, rfl, ho, hwd, hb⟩ := hrel
        rename World => wo
        have hbs := hb.size
        have hwl := hwd.lt
        by_cases hlt : k < rows.length
        · obtain ⟨b, off, vk, fk, rfl, hc, hs0, _⟩ := hx.elem hlt
          obtain ⟨A1, cap1, rfl, hle1, hca1⟩ := hs0.form
          have hcb := block_lt_of_cell hc
          have hc0 := (hb.cell (p := ⟨b, off + k, none⟩) hcb).trans hc
          have hr12 := h12 rows[k] (List.getElem_mem hlt)
          have hkl : ((rows.take k).map (lineF (wdN rows))).length = k := by simp; omega
          have HKL := Lib.hid hkl
          have hBa : Below wo.heap.size wo (wo.alloc (.cells #[.pointer none, .slice none 0 0] 87)) := (Below.refl _ _).alloc (Nat.le_refl _) _
          have hI0 := builder_new wo
          clear hkl
          go_wp2
          go_loopw [55] (fun i wr => ∃ j : Nat, j ≤ rows[k].length ∧ i = .int .i64 j ∧ Lib.IsBuilder 87 5 wo.heap.size wo.heap.size (Lib.byteCells (rawI (wdN rows) rows[k] j)) wr ∧ Below wo.heap.size wo wr) (fun i _ => rows[k].length - (intOf i).toNat)
          case atStart => exact ⟨0, Nat.zero_le _, rfl, hI0, hBa⟩
          case round =>
            clear hI0 hBa hc0
            obtain ⟨j, hj, rfl, hI, hbq⟩ := hrel
            have hbqs := hbq.size
            have hbw := hb.trans (hbq.mono hb.size)
            by_cases hlt2 : j < rows[k].length
            · obtain ⟨b1, off1, rfl, _, hok, hcc, _⟩ := (hs0.below' hbw).cell1 rfl hlt2 rfl
              have hcs := hsz rows[k] (List.getElem_mem hlt) rows[k][j] (List.getElem_mem hlt2)
              have hwm : rows[k][j].size ≤ wdN rows j := by have := wdN_mem (List.getElem_mem hlt) j; rw [cellA_at hlt2] at this; exact this
              have hwB := wdN_le hsz j
              have hwc := (hwd.below hbq).cell (j := j) (by omega)
              obtain ⟨n, hn⟩ : ∃ n : Nat, n = wdN rows j - rows[k][j].size + 2 := ⟨_, rfl⟩
              have ew : ((wdN rows j : Nat) : Int) - ((rows[k][j].size : Nat) : Int) + 2 = (n : Int) := by omega
              have hnb : n ≤ 100000000 := by omega
              have hrl := rawI_len (wd := wdN rows) (r := rows[k]) (fun j => wdN_le hsz j) (fun i => cellA_le (hsz rows[k] (List.getElem_mem hlt)) i) j
              have hrl2 : (rawI (wdN rows) rows[k] j).length ≤ 30000000 := by
                have : (2 * 1048576 + 2) * j ≤ (2 * 1048576 + 2) * 12 := Nat.mul_le_mul_left _ (by omega)
                omega
              have HST : Hid (Lib.byteCells (rawI (wdN rows) rows[k] j) ++ Lib.strCells (rows[k][j] ++ spS n) = Lib.byteCells (rawI (wdN rows) rows[k] (j + 1))) := by
                show _ = _
                rw [rawI_step, Lib.byteCells_append, Lib.strCells_eq]
                congr 2
                unfold pcI
                rw [Go.Joins.data_append, cellA_at hlt2, hn]
                show _ ++ (spS _).data.toList = _
                congr 1
              have hsp := spS_size n
              have hcat : (rows[k][j] ++ spS n).size ≤ 200000000 := by rw [ByteArray.size_append, hsp]; omega
              have hsp2 : (spS n).size ≤ 100000000 := by omega
              clear hn hrl hsp
              go_wp2_with fail
              refine (repeatSp_any n _ hnb).mono ?_
              rintro e w2 ⟨rfl, hb2⟩
              have hI2 := isB_below hI hb2
              have hb2q := hbq.trans (hb2.mono hbq.size)
              have hs2 := hb2q.size
              generalize spS n = sp at *
              go_wp2_with fail
              refine (writeString_any wo.heap.size wo.heap.size _ _ _ hI2 (by rw [Lib.byteCells_length]; omega) hs2).mono ?_
              rintro e w3 ⟨rfl, hI3, hb3⟩
              rw [HST.out] at hI3
              go_wp2
              go_roundw
              case rel => exact ⟨j + 1, by omega, by go_num, hI3, hb2q.trans hb3⟩
              case measure => simp [intOf]; omega
            · have hje : j = rows[k].length := by omega
              subst hje
              go_wp2_with fail
              refine (Tryz.Builder_String_any wo.heap.size wo.heap.size _ _ hI hbqs).mono ?_
              rintro e w2 ⟨rfl, hb2⟩
              have hb2q := hbq.trans hb2
              have hrl := rawI_len (wd := wdN rows) (r := rows[k]) (fun j => wdN_le hsz j) (fun i => cellA_le (hsz rows[k] (List.getElem_mem hlt)) i) rows[k].length
              have hrl2 : (rawI (wdN rows) rows[k] rows[k].length).length ≤ 30000000 := by
                have : (2 * 1048576 + 2) * rows[k].length ≤ (2 * 1048576 + 2) * 12 := Nat.mul_le_mul_left _ (by omega)
                omega
              have hLF : Hid ((⟨(Lib.trimRightB (rawI (wdN rows) rows[k] rows[k].length) 32).toArray⟩ : ByteArray) = lineF (wdN rows) rows[k]) := rfl
              generalize rawI (wdN rows) rows[k] rows[k].length = raw at *
              go_wp2_with fail
              refine (Tryz.strings_TrimRight_one _ 32 (by decide) _ (by show raw.toArray.size ≤ _; rw [List.size_toArray]; omega)).mono ?_
              rintro e w' ⟨rfl, rfl⟩
              rw [show (⟨raw.toArray⟩ : ByteArray).data.toList = raw from rfl, hLF.out]
              have ho2 := ho.below hb2q
              have hwd2 := hwd.below hb2q
              have hb4 := hb.trans (hb2q.mono hb.size)
              have hs4 := hb4.size
              have hwl4 := hwd2.lt
              have ho3 : w'.ownsRow (w.heap.size + 1) 9 1 u9 k (((rows.take k).map (lineF (wdN rows))).flatMap fStr.enc) := by have := ho2; unfold Own at this; rw [HKL.out] at this; exact this
              clear ho ho2 hI
              go_wp2_with (at_builtin; refine wpList_append_one rfl _ _ 24 rfl (w.heap.size + 1) 9 i0 (.string ⟨#[]⟩) 1 16 Tryz.underlying24 hi hz0 hz1 hz2 rfl (by decide) u9 k _ rfl ho3 [.string (lineF (wdN rows) rows[k])] rfl (by intro u hu; rw [List.mem_singleton] at hu; subst hu; rfl) rfl (by omega) (by decide) (by omega) ?_)
              intro v' u hown hbu _ _
              have hbu' := hb4.trans (hbu.mono (by omega))
              have ho4 : Own fStr u (w.heap.size + 1) 9 v' ((rows.take (k + 1)).map (lineF (wdN rows))) := by rw [List.take_succ_eq_append_getElem hlt, List.map_append]; exact Own.push _ (by rw [HKL.out]) (by rw [← List.map_take] at hown; exact hown)
              have hwd5 := hwd2.belowB hbu (by omega)
              clear hown
              go_wp2
              go_roundw
              case rel => exact ⟨k + 1, by omega, by go_num, ho4, hwd5, hbu'⟩
              case measure => simp [intOf]; omega
        · have ho2 : Own fStr wo (w.heap.size + 1) 9 u9 (tabF rows) := by
            have e : (rows.take k) = rows := List.take_of_length_le (by omega)
            rw [e] at ho; exact ho
          clear ho
          have hn := Own.newB ho2 (by omega) hb hTOK
          obtain ⟨⟨fpn, hsl, hlo, hnd⟩, _⟩ := id hn
          go_wp2_with fail
          refine (reportOrFull_any _ (tabF rows) fpn _ hsl).mono ?_
          rintro e w' ⟨rfl, rfl⟩
          go_wp2
          go_ret2
          exact ⟨_, by rw [HCO.out]; rfl, by rw [HFO.out]; exact hn.done⟩

def szOf : Value → Nat
  | .string s => s.size
  | _ => 0
theorem rawS_zero (wd : Nat → Nat) (r : List ByteArray) : rawS wd r 0 = [] := rfl
def stS (l : List UInt8) : ByteArray := ⟨l.toArray⟩
theorem stS_size (l : List UInt8) : (stS l).size = l.length := by show l.toArray.size = _; simp
theorem stS_app (l : List UInt8) (c : ByteArray) : stS l ++ c = stS (l ++ c.data.toList) := by
  refine data_inj ?_
  rw [Go.Joins.data_append]; simp [stS]
theorem lineS_eq (wd : Nat → Nat) (r : List ByteArray) : lineF wd r = stS (Lib.trimRightB (rawS wd r r.length) 32) := by unfold lineF stS; rw [trim_raw]
/-- What stands before the blanks of cell j. -/
def preC (wd : Nat → Nat) (r : List ByteArray) (j : Nat) : List UInt8 := rawS wd r j ++ (if j = 0 then [] else [32, 32]) ++ (cellA r j).data.toList
theorem preC_full {wd : Nat → Nat} {r : List ByteArray} {j n : Nat} (hn : n = wd j - (cellA r j).size) : preC wd r j ++ spN n = rawS wd r (j + 1) := by
  rw [rawS_step]; unfold preC pcS; subst hn; simp
theorem spN_succ (n : Nat) : spN n ++ [32] = spN (n + 1) := by unfold spN; rw [List.replicate_succ']
set_option maxRecDepth 100000 in
set_option maxHeartbeats 8000000 in
theorem l30Table_any (v : Value) (rows : List (List ByteArray)) (fp : List Nat) (w : World) (hx : Sl fStr.cod.slice w v rows fp) (hlen : rows.length ≤ 1048577) (hsz : ∀ r ∈ rows, ∀ c ∈ r, c.size ≤ 1048576) (h12 : ∀ r ∈ rows, r.length ≤ 12) :
    Calls Tryz.prog 33 #[v] w fun e w' => NewR fStr.cod w (tabF rows) e w' := by
  obtain ⟨A, cap, rfl, hle, hca⟩ := hx.form
  obtain ⟨i0, hi, hz0, hz1, hz2⟩ := info_parts infoStrW
  obtain ⟨j0, hj, hy0, hy1, hy2⟩ := info_parts infoIntW
  have hmk : ∀ W : World, (Instr.makeSlice 99 (.int .i64 12) (.int .i64 12)).run Tryz.prog W = .ok (.slice (some ⟨W.heap.size, 0, none⟩) 12 12) (W.alloc (.cells (madeCells (Value.int .i64 0).cells (12 * j0.size)) 3)) := fun W => run_make_rowN (P := Tryz.prog) 99 3 j0 _ Tryz.underlying99 hj hy0 .i64 .i64 12 12 (Nat.le_refl _) (by rw [hy2]; decide) (by decide) W
  rw [hy1] at hmk
  have hmk' : ∀ W : World, (Instr.makeSlice 99 (.int .i64 12) (.int .i64 12)).run Tryz.prog W = .ok (.slice (some ⟨W.heap.size, 0, none⟩) 12 12) (W.alloc (.cells (madeCells #[Value.int .i64 0] 12) 3)) := hmk
  have hB0 : Below w.heap.size w (w.alloc (.cells (madeCells #[Value.int .i64 0] 12) 3)) := (Below.refl _ _).alloc (Nat.le_refl _) _
  have hW0 := (Wd.start w).congr (g := fun j => ((wdAt rows 0 0 j : Nat) : Int)) (fun j => by rw [wdAt_zero]; rfl)
  have hTOK := tab_ok h12 hsz
  clear hmk hj hy0 hy1 hy2
  go_enter Tryz.func33, Tryz.ntmps33
  go_wp2
  go_loopw [4] (fun i wr => ∃ k : Nat, k ≤ rows.length ∧ i = .int .i64 k ∧ Wd wr w.heap.size (fun j => ((wdAt rows k 0 j : Nat) : Int)) ∧ Below w.heap.size w wr) (fun i _ => rows.length - (intOf i).toNat)
  case atStart => exact ⟨0, Nat.zero_le _, rfl, hW0, hB0⟩
  case round =>
    clear hW0 hB0
    obtain ⟨k, hk, rfl, hwd, hb⟩ := hrel
    by_cases hlt : k < rows.length
    · obtain ⟨b, off, vk, fk, rfl, hc, hs0, _⟩ := hx.elem hlt
      obtain ⟨A1, cap1, rfl, hle1, hca1⟩ := hs0.form
      have hcb := block_lt_of_cell hc
      have hr12 := h12 rows[k] (List.getElem_mem hlt)
      go_wp2
      go_loopw [5] (fun i wq => ∃ j : Nat, j ≤ rows[k].length ∧ i = .int .i64 j ∧ Wd wq w.heap.size (fun i => ((wdAt rows k j i : Nat) : Int)) ∧ Below w.heap.size w wq) (fun i _ => rows[k].length - (intOf i).toNat)
      case atStart => exact ⟨0, Nat.zero_le _, rfl, hwd, hb⟩
      case round =>
        clear hwd hb
        obtain ⟨j, hj, rfl, hwd, hb⟩ := hrel
        have hc0 := (hb.cell (p := ⟨b, off + k, none⟩) hcb).trans hc
        by_cases hlt2 : j < rows[k].length
        · obtain ⟨b1, off1, rfl, _, hok, hcc, _⟩ := (hs0.below' hb).cell1 rfl hlt2 rfl
          have hwc := hwd.cell (j := j) (by omega)
          go_wp2
          have ghc0 := cell_regrown hc0
          have ghcc := cell_regrown hcc
          have ghwc := cell_regrown hwc
          refine wp_region_mix (C := fun w' => ∃ p : Regrown, w' = Go.Sort.grow (redrawn wr p.d) p.os) [true, true, true, true, true, true, true, true, true, true, true, true, true] (by kernel_rfl) (by kernel_rfl) (by kernel_rfl) (fun _ _ d _ _ h => by cases d <;> exact h) (regrown_of_below (Below.drew (Below.refl _ _))) ?_
          have hS0 : Below (wr.heap.size) wr wr.drew := Below.drew (Below.refl _ _)
          refine wpMix_pure (by kernel_rfl) (fun K hK => ?_); go_big_quiet_op; refine hK _ ?_; clear hK K
          refine wpMix_pure (by kernel_rfl) (fun K hK => ?_); go_big_quiet_op; refine hK _ ?_; clear hK K
          refine wpMix_pure (by kernel_rfl) (fun K hK => ?_); go_big_quiet_op; refine hK _ ?_; clear hK K
          refine wpMix_pure (by kernel_rfl) (fun K hK => ?_); go_big_quiet_op; refine hK _ ?_; clear hK K
          refine wpMix_pure (by kernel_rfl) (fun K hK => ?_); go_big_quiet_op; refine hK _ ?_; clear hK K
          refine wpMix_pure (by kernel_rfl) (fun K hK => ?_); go_big_quiet_op; refine hK _ ?_; clear hK K
          refine wpMix_pure (by kernel_rfl) (fun K hK => ?_); go_big_quiet_op; refine hK _ ?_; clear hK K
          refine wpMix_pure (by kernel_rfl) (fun K hK => ?_); go_big_quiet_op; refine hK _ ?_; clear hK K
          refine wpMix_pure (by kernel_rfl) (fun K hK => ?_); go_big_quiet_op; refine hK _ ?_; clear hK K
          refine wpMix_pure (by kernel_rfl) (fun K hK => ?_); go_big_quiet_op; refine hK _ ?_; clear hK K
          refine wpMix_pure (by kernel_rfl) (fun K hK => ?_); go_big_quiet_op; refine hK _ ?_; clear hK K
          refine wpMix_pure (by kernel_rfl) (fun K hK => ?_); go_big_quiet_op; refine hK _ ?_; clear hK K
          refine wpMix_pure (by kernel_rfl) (fun K hK => ?_); go_big_quiet_op; refine hK _ ?_; clear hK K
          refine wpMix_nil ?_
          have hbd : Below w.heap.size w wr.drew := hb.trans (hS0.mono hb.size)
          have hwdd := hwd.below hS0
          have hc0d : wr.drew.cell? ⟨b, off + k, none⟩ = some (.slice (some ⟨b1, off1, none⟩) rows[k].length cap1) := hc0
          have hccd : wr.drew.cell? ⟨b1, off1 + j, none⟩ = some (.string rows[k][j]) := hcc
          have hwcd := hwdd.cell (j := j) (by omega)
          have hwz := hwdd.frozen j
          clear hwd hwc hc0 hcc hb ghc0 ghcc ghwc hS0
          by_cases hbig : wdAt rows k j j < rows[k][j].size
          · have hw2 := (hwdd.set j ((rows[k][j].size : Nat) : Int)).congr (fun i => wdAt_more hlt hlt2 hbig i)
            have hb2 : Below w.heap.size w (wr.drew.setCell ⟨w.heap.size, j, none⟩ (.int .i64 ((rows[k][j].size : Nat) : Int))) := hbd.setCell (Nat.le_refl _) _
            go_wp2
            go_roundw
            case rel => exact ⟨j + 1, by omega, by go_num, hw2, hb2⟩
            case measure => simp [intOf]; omega
          · have hw2 := hwdd.congr (g := fun i => ((wdAt rows k (j + 1) i : Nat) : Int)) (fun i => by rw [wdAt_same hlt hlt2 (by omega)])
            go_wp2
            go_roundw
            case rel => exact ⟨j + 1, by omega, by go_num, hw2, hbd⟩
            case measure => simp [intOf]; omega
        · have hw2 := hwd.congr (g := fun i => ((wdAt rows (k + 1) 0 i : Nat) : Int)) (fun i => by rw [wdAt_full hlt (by omega), wdAt_zero])
          go_wp2
          go_roundw
          case rel => exact ⟨k + 1, by omega, by go_num, hw2, hb⟩
          case measure => simp [intOf]; omega
    · replace hwd := hwd.congr (g := fun j => ((wdN rows j : Nat) : Int)) (fun j => by rw [wdN_all (by omega)])
      have hwl0 := hwd.lt
      go_wp2
      go_loopw [6, 7] (fun l i wr => ∃ k : Nat, k ≤ rows.length ∧ i = .int .i64 k ∧ Own fStr wr (w.heap.size + 1) 9 l ((rows.take k).map (lineF (wdN rows))) ∧ Wd wr w.heap.size (fun j => ((wdN rows j : Nat) : Int)) ∧ Below w.heap.size w wr) (fun _ i _ => rows.length - (intOf i).toNat)
      case atStart => exact ⟨0, Nat.zero_le _, rfl, Own.lit0m fStr (by omega), hwd.below ((Below.refl _ _).alloc (Nat.le_refl _) _), hb.alloc hb.size _⟩
      case round =>
        clear hwd hb hk hwl0
        obtain ⟨k, hk, rfl, ho, hwd, hb⟩ := hrel
        have hbs := hb.size
        have hwl := hwd.lt
        by_cases hlt : k < rows.length
        · obtain ⟨b, off, vk, fk, rfl, hc, hs0, _⟩ := hx.elem hlt
          obtain ⟨A1, cap1, rfl, hle1, hca1⟩ := hs0.form
          have hcb := block_lt_of_cell hc
          have hc0 := (hb.cell (p := ⟨b, off + k, none⟩) hcb).trans hc
          have hr12 := h12 rows[k] (List.getElem_mem hlt)
          have hkl : ((rows.take k).map (lineF (wdN rows))).length = k := by simp; omega
          have HKL := Lib.hid hkl
          have ho3 : wr.ownsRow (w.heap.size + 1) 9 1 u6 k (((rows.take k).map (lineF (wdN rows))).flatMap fStr.enc) := by have := ho; unfold Own at this; rw [hkl] at this; exact this
          have hs1 := hs0.below' hb
          have hraw : ∀ j, j ≤ rows[k].length → (rawS (wdN rows) rows[k] j).length ≤ 30000000 := fun j hj => by
            have h1 := rawS_len (wd := wdN rows) (r := rows[k]) (fun j => wdN_le hsz j) (fun i => cellA_le (hsz rows[k] (List.getElem_mem hlt)) i) j
            have : (2 * 1048576 + 2) * j ≤ (2 * 1048576 + 2) * 12 := Nat.mul_le_mul_left _ (by omega)
            omega
          clear hkl ho
          go_wp2
          go_loop [8, 9] (fun l i => ∃ j : Nat, j ≤ rows[k].length ∧ i = .int .i64 j ∧ l = .string (stS (rawS (wdN rows) rows[k] j))) (fun _ i => rows[k].length - (intOf i).toNat)
          case atStart => exact ⟨0, Nat.zero_le _, rfl, rfl⟩
          case round =>
            obtain ⟨j, hj, rfl, rfl⟩ := hrel
            by_cases hlt2 : j < rows[k].length
            · obtain ⟨b1, off1, rfl, _, hok, hcc, _⟩ := hs1.cell1 rfl hlt2 rfl
              have hcs := hsz rows[k] (List.getElem_mem hlt) rows[k][j] (List.getElem_mem hlt2)
              have hwm : rows[k][j].size ≤ wdN rows j := by have := wdN_mem (List.getElem_mem hlt) j; rw [cellA_at hlt2] at this; exact this
              have hwB := wdN_le hsz j
              have hwc := hwd.cell (j := j) (by omega)
              have hr0 := hraw j hj
              have hr1 := hraw (j + 1) hlt2
              have HPC : Hid (∀ n, n = wdN rows j - rows[k][j].size → preC (wdN rows) rows[k] j ++ spN n = rawS (wdN rows) rows[k] (j + 1)) := fun n hn => preC_full (by rw [cellA_at hlt2]; exact hn)
              have hpl : (preC (wdN rows) rows[k] j).length ≤ 31100000 := by
                unfold preC
                rw [List.length_append, List.length_append, cellA_at hlt2]
                have e1 : rows[k][j].data.toList.length = rows[k][j].size := by simp
                split <;> simp only [List.length_nil, List.length_cons] <;> omega
              have HSP := Lib.hid spN_succ
              obtain ⟨t0, ht0⟩ : ∃ t0, t0 = stS (rawS (wdN rows) rows[k] j) := ⟨_, rfl⟩
              have hts0 : t0.size ≤ 30000000 := by rw [ht0, stS_size]; exact hr0
              rw [← ht0]
              rcases Nat.eq_zero_or_pos j with hj0 | hj0
              · subst hj0
                have hcc' : wr.cell? ⟨b1, off1, none⟩ = some (.string rows[k][0]) := by simpa using hcc
                have HPR : Hid (t0 ++ rows[k][0] = stS (preC (wdN rows) rows[k] 0)) := by
                  show _ = _; rw [ht0, stS_app]; unfold preC; rw [cellA_at hlt2]; simp
                clear ht0
                go_wp2
                go_loop [8, 10] (fun l i => ∃ n : Nat, n ≤ wdN rows 0 - rows[k][0].size ∧ i = .int .i64 ((rows[k][0].size + n : Nat) : Int) ∧ l = .string (stS (preC (wdN rows) rows[k] 0 ++ spN n))) (fun _ i => wdN rows 0 - (intOf i).toNat)
                case atStart => exact ⟨0, Nat.zero_le _, by simp, by rw [HPR.out, show spN 0 = [] from rfl, List.append_nil]⟩
                case round =>
                  obtain ⟨n, hn, rfl, rfl⟩ := hrel
                  by_cases hlt3 : n < wdN rows 0 - rows[k][0].size
                  · have HSS : Hid (stS (preC (wdN rows) rows[k] 0 ++ spN n) ++ ⟨#[32]⟩ = stS (preC (wdN rows) rows[k] 0 ++ spN (n + 1))) := by
                      show _ = _; rw [stS_app, List.append_assoc, show (⟨#[32]⟩ : ByteArray).data.toList = [32] from rfl, HSP.out]
                    obtain ⟨t1, ht1⟩ : ∃ t1, t1 = stS (preC (wdN rows) rows[k] 0 ++ spN n) := ⟨_, rfl⟩
                    have hts2 : t1.size ≤ 40000000 := by rw [ht1, stS_size, List.length_append]; unfold spN; rw [List.length_replicate]; omega
                    rw [← ht1] at HSS ⊢
                    clear ht1
                    go_wp2
                    go_round
                    case rel => exact ⟨n + 1, by omega, by go_num, by rw [HSS.out]⟩
                    case measure => simp [intOf]; omega
                  · obtain rfl : n = wdN rows 0 - rows[k][0].size := by omega
                    rw [HPC.out _ rfl]
                    go_wp2
                    go_round
                    case rel => exact ⟨0 + 1, by omega, by go_num, rfl⟩
                    case measure => simp [intOf]; omega
              · have HPR : Hid (t0 ++ ⟨#[32, 32]⟩ ++ rows[k][j] = stS (preC (wdN rows) rows[k] j)) := by
                  show _ = _; rw [ht0, stS_app, stS_app]; unfold preC; rw [cellA_at hlt2, if_neg (by omega)]
                have hts1 : (t0 ++ ⟨#[32, 32]⟩).size ≤ 30000002 := by rw [ByteArray.size_append]; show _ + 2 ≤ _; omega
                clear ht0
                go_wp2
                go_loop [8, 10] (fun l i => ∃ n : Nat, n ≤ wdN rows j - rows[k][j].size ∧ i = .int .i64 ((rows[k][j].size + n : Nat) : Int) ∧ l = .string (stS (preC (wdN rows) rows[k] j ++ spN n))) (fun _ i => wdN rows j - (intOf i).toNat)
                case atStart => exact ⟨0, Nat.zero_le _, by simp, by rw [HPR.out, show spN 0 = [] from rfl, List.append_nil]⟩
                case round =>
                  obtain ⟨n, hn, rfl, rfl⟩ := hrel
                  by_cases hlt3 : n < wdN rows j - rows[k][j].size
                  · have HSS : Hid (stS (preC (wdN rows) rows[k] j ++ spN n) ++ ⟨#[32]⟩ = stS (preC (wdN rows) rows[k] j ++ spN (n + 1))) := by
                      show _ = _; rw [stS_app, List.append_assoc, show (⟨#[32]⟩ : ByteArray).data.toList = [32] from rfl, HSP.out]
                    obtain ⟨t1, ht1⟩ : ∃ t1, t1 = stS (preC (wdN rows) rows[k] j ++ spN n) := ⟨_, rfl⟩
                    have hts2 : t1.size ≤ 40000000 := by rw [ht1, stS_size, List.length_append]; unfold spN; rw [List.length_replicate]; omega
                    rw [← ht1] at HSS ⊢
                    clear ht1
                    go_wp2
                    go_round
                    case rel => exact ⟨n + 1, by omega, by go_num, by rw [HSS.out]⟩
                    case measure => simp [intOf]; omega
                  · obtain rfl : n = wdN rows j - rows[k][j].size := by omega
                    rw [HPC.out _ rfl]
                    go_wp2
                    go_round
                    case rel => exact ⟨j + 1, by omega, by go_num, rfl⟩
                    case measure => simp [intOf]; omega
            · obtain rfl : j = rows[k].length := by omega
              have HLF : Hid (lineF (wdN rows) rows[k] = stS (Lib.trimRightB (rawS (wdN rows) rows[k] rows[k].length) 32)) := lineS_eq _ _
              have hr0 := hraw _ (Nat.le_refl _)
              clear hraw hs1
              generalize rawS (wdN rows) rows[k] rows[k].length = raw at *
              go_wp2
              go_loop [8] (fun l => ∃ m : Nat, m ≤ raw.length ∧ l = .string (stS (raw.take m)) ∧ Hid (Lib.trimRightB raw 32 = Lib.trimRightB (raw.take m) 32)) (fun l => szOf l)
              case atStart => exact ⟨raw.length, Nat.le_refl _, by rw [List.take_length], by show _ = _; rw [List.take_length]⟩
              case round =>
                obtain ⟨m, hm, rfl, HT⟩ := hrel
                have hts : (stS (raw.take m)).size = m := by rw [stS_size, List.length_take]; omega
                have htd : (stS (raw.take m)).data.toList = raw.take m := rfl
                have HTE : Hid (stS (raw.take m) = stS (raw.take m)) := rfl
                generalize hT : stS (raw.take m) = t at hts htd HTE ⊢
                have HTT := Lib.hid hT
                clear hT
                have HEND : Hid (Lib.trimRightB (raw.take m) 32 = raw.take m → t = lineF (wdN rows) rows[k]) := fun e => by rw [HLF.out, HT.out, e]; exact HTT.out.symm
                rcases Nat.eq_zero_or_pos m with hm0 | hm0
                · have hz : t.size = 0 := by omega
                  have hend := HEND.out (by subst hm0; rfl)
                  have HEN := Lib.hid hend
                  have HTD := Lib.hid htd
                  have e0 : (t.size : Int) = 0 := by omega
                  clear hts hz hend HEND htd
                  go_wp2_with (at_builtin; refine wpList_append_one rfl _ _ 24 rfl (w.heap.size + 1) 9 i0 (.string ⟨#[]⟩) 1 16 Tryz.underlying24 hi hz0 hz1 hz2 rfl (by decide) u6 k _ rfl ho3 [.string t] rfl (by intro u hu; rw [List.mem_singleton] at hu; subst hu; rfl) rfl (by omega) (by decide) (by omega) ?_)
                  intro v' u hown hbu _ _
                  have hbu' := hb.trans (hbu.mono (by omega))
                  rw [HEN.out] at hown
                  have ho4 : Own fStr u (w.heap.size + 1) 9 v' ((rows.take (k + 1)).map (lineF (wdN rows))) := by rw [List.take_succ_eq_append_getElem hlt, List.map_append]; exact Own.push _ (by rw [HKL.out]) (by rw [← List.map_take] at hown; exact hown)
                  have hwd5 := hwd.belowB hbu (by omega)
                  clear hown
                  go_wp2
                  go_roundw
                  case rel => exact ⟨k + 1, by omega, by go_num, ho4, hwd5, hbu'⟩
                  case measure => simp [intOf]; omega
                · obtain ⟨m', rfl⟩ : ∃ m', m = m' + 1 := ⟨m - 1, by omega⟩
                  have hlm : m' < t.size := by omega
                  have es : ((t.size : Nat) : Int) - 1 = ((m' : Nat) : Int) := by omega
                  have hget : raw[m']? = some t[m'] := by
                    have h1 : t.data.toList[m']? = some t[m'] := by
                      rw [List.getElem?_eq_getElem (by simpa using hlm)]
                      simp
                      rfl
                    rw [htd, List.getElem?_take_of_lt (by omega)] at h1
                    exact h1
                  by_cases hbl : t[m'] = 32
                  · have e32 : ((t[m'].toNat : Int) == 32) = true := by rw [hbl]; rfl
                    have HT2 : Hid (Lib.trimRightB raw 32 = Lib.trimRightB (raw.take m') 32) := by show _ = _; rw [HT.out, trim_cut (by rw [hget, hbl])]
                    have HEX : Hid (t.extract 0 m' = stS (raw.take m')) := by
                      show _ = _
                      refine data_inj ?_
                      rw [extract_toList, htd, List.drop_zero, List.take_take]
                      show _ = raw.take m'
                      congr 1; omega
                    have hex : (t.extract 0 m').size = m' := by rw [HEX.out, stS_size, List.length_take]; omega
                    have HTD := Lib.hid htd
                    clear hbl hget htd HEND HTE
                    go_wp2
                    go_round
                    case rel => exact ⟨m', by omega, by rw [HEX.out], HT2⟩
                    case measure => simp [szOf]; omega
                  · have e32 : ((t[m'].toNat : Int) == 32) = false := by
                      rw [beq_eq_false_iff_ne]; intro e
                      exact hbl (UInt8.toNat_inj.1 (by have : (32 : UInt8).toNat = 32 := rfl; omega))
                    have HEN := Lib.hid (HEND.out (trim_stop hget hbl))
                    have HTD := Lib.hid htd
                    clear hbl hget htd HEND HTE
                    go_wp2_with (at_builtin; refine wpList_append_one rfl _ _ 24 rfl (w.heap.size + 1) 9 i0 (.string ⟨#[]⟩) 1 16 Tryz.underlying24 hi hz0 hz1 hz2 rfl (by decide) u6 k _ rfl ho3 [.string t] rfl (by intro u hu; rw [List.mem_singleton] at hu; subst hu; rfl) rfl (by omega) (by decide) (by omega) ?_)
                    intro v' u hown hbu _ _
                    have hbu' := hb.trans (hbu.mono (by omega))
                    rw [HEN.out] at hown
                    have ho4 : Own fStr u (w.heap.size + 1) 9 v' ((rows.take (k + 1)).map (lineF (wdN rows))) := by rw [List.take_succ_eq_append_getElem hlt, List.map_append]; exact Own.push _ (by rw [HKL.out]) (by rw [← List.map_take] at hown; exact hown)
                    have hwd5 := hwd.belowB hbu (by omega)
                    clear hown
                    go_wp2
                    go_roundw
                    case rel => exact ⟨k + 1, by omega, by go_num, ho4, hwd5, hbu'⟩
                    case measure => simp [intOf]; omega
        · have ho2 : Own fStr wr (w.heap.size + 1) 9 u6 (tabF rows) := by
            have e : (rows.take k) = rows := List.take_of_length_le (by omega)
            rw [e] at ho; exact ho
          clear ho
          have hn := Own.newB ho2 (by omega) hb hTOK
          go_wp2
          go_ret
          exact ⟨_, rfl, hn⟩

end Go.Proofs.YtgnbhcgagdfaiaaGreatDoor

namespace Go.Proofs.YtgnbhcgagdfaiaaGreatDoor
open Go.RowKit
set_option linter.unusedVariables false

/-- The text of a day that is in range. -/
noncomputable def dayP (n : Int) : Int × Int × Int := Classical.epsilon (fun p : Int × Int × Int => dateOk p.1 p.2.1 p.2.2 ∧ n = numD p.1 p.2.1 p.2.2)
noncomputable def dayT (n : Int) : ByteArray := dayS (dayP n).1 (dayP n).2.1 (dayP n).2.2
theorem dayP_ok {n : Int} (h0 : 0 ≤ n) (h1 : n ≤ 36524) : dateOk (dayP n).1 (dayP n).2.1 (dayP n).2.2 ∧ n = numD (dayP n).1 (dayP n).2.1 (dayP n).2.2 := by
  have h : ∃ p : Int × Int × Int, dateOk p.1 p.2.1 p.2.2 ∧ n = numD p.1 p.2.1 p.2.2 := by
    obtain ⟨y, m, d, h2, h3⟩ := day_has h0 h1
    exact ⟨(y, m, d), h2, h3⟩
  exact Classical.epsilon_spec h
def hdI : List ByteArray := [⟨#[100, 97, 121]⟩, ⟨#[112, 108, 97, 99, 101]⟩, ⟨#[108, 101, 118, 101, 108]⟩, ⟨#[99, 97, 117, 103, 104, 116]⟩, ⟨#[98, 117, 114, 105, 101, 100]⟩]
noncomputable def rowI (x : DIncident) : List ByteArray := [dayT x.day, x.place, decS x.level, decS x.caught, decS x.buried]
noncomputable def rowsI (xs : List DIncident) (k : Nat) : List (List ByteArray) := hdI :: (xs.take k).map rowI
theorem rowsI_zero (xs : List DIncident) : rowsI xs 0 = [hdI] := rfl
theorem rowsI_step {xs : List DIncident} {k : Nat} (h : k < xs.length) : rowsI xs (k + 1) = rowsI xs k ++ [rowI xs[k]] := by
  unfold rowsI; rw [List.take_succ_eq_append_getElem h, List.map_append]; rfl
theorem rowsI_len {xs : List DIncident} {k : Nat} (h : k ≤ xs.length) : (rowsI xs k).length = k + 1 := by unfold rowsI; simp; omega
noncomputable def irF (xs : List DIncident) : List ByteArray := if incsB xs then doneF (tabF (rowsI xs xs.length)) else []
noncomputable def irC (xs : List DIncident) : Int := if incsB xs then doneC (tabF (rowsI xs xs.length)) else 1
structure IncP (x : DIncident) : Prop where
  day : 0 ≤ x.day ∧ x.day ≤ 36524
  place : nameB x.place = true
  level : 1 ≤ x.level ∧ x.level ≤ 5
  caught : 0 ≤ x.caught ∧ x.caught ≤ 20
  buried : 0 ≤ x.buried ∧ x.buried ≤ 20
theorem incP_of {x : DIncident} (h : incB x = true) : IncP x := by
  unfold incB at h
  simp only [Bool.and_eq_true, inB_true] at h
  obtain ⟨⟨⟨⟨⟨h1, h2⟩, h3⟩, h4⟩, h5⟩, h6⟩ := h
  exact ⟨h1, h2, h4, h5, by omega⟩
theorem nameB_sizeP {s : ByteArray} (h : nameB s = true) : s.size ≤ 10 := by
  by_cases h1 : 10 < s.size
  · rw [nameB_long h1] at h; cases h
  · omega
theorem dec_cell : ∀ k : Fin 21, cellOk (decS (k.1 : Int)) = true := by decide +kernel
theorem dec_cellOk {n : Int} (h0 : 0 ≤ n) (h1 : n ≤ 20) : cellOk (decS n) = true := by
  have := dec_cell ⟨n.toNat, by omega⟩
  simp only [Int.toNat_of_nonneg h0] at this
  exact this
theorem dig_okB {k : Nat} (h : k < 10) : okByte 33 126 (UInt8.ofNat (48 + k)) = true := by
  have e : (UInt8.ofNat (48 + k)).toNat = 48 + k := by rw [UInt8.toNat_ofNat']; omega
  unfold okByte
  rw [e]; simp; omega
theorem day_cellOk {y m d : Int} (h : dateOk y m d) : cellOk (dayS y m d) = true := by
  obtain ⟨⟨hy0, hy1⟩, ⟨hm0, hm1⟩, hd0, hd1⟩ := id h
  have hl := lenM_pos y hm0 hm1
  unfold cellOk bwAll
  show (dayL y m d).all _ = true
  unfold dayL
  rw [yearL hy0 hy1]
  unfold two
  have e45 : okByte 33 126 45 = true := by decide
  simp only [List.cons_append, List.nil_append, List.all_cons, List.all_nil, e45]
  rw [dig_okB (k := y.toNat / 1000) (by omega), dig_okB (k := y.toNat / 100 % 10) (by omega), dig_okB (k := y.toNat / 10 % 10) (by omega), dig_okB (k := y.toNat % 10) (by omega), dig_okB (k := m.toNat / 10) (by omega), dig_okB (k := m.toNat % 10) (by omega), dig_okB (k := d.toNat / 10) (by omega), dig_okB (k := d.toNat % 10) (by omega)]
  rfl
theorem name_cellOk {s : ByteArray} (h : nameB s = true) : cellOk s = true := by
  unfold nameB at h
  simp only [Bool.and_eq_true] at h
  have ha : allNm s.data.toList = true := by first | exact h.2 | exact h.1.2 | exact h.1.1.2 | exact h.1.1.1
  unfold cellOk bwAll
  refine List.all_eq_true.2 fun b hb => ?_
  unfold allNm at ha
  have := List.all_eq_true.1 ha b hb
  simp only [okNm, smallB, digitB, Bool.or_eq_true, inB_true] at this
  unfold okByte
  simp only [Bool.and_eq_true, decide_eq_true_eq]
  omega
theorem hd_ok : rowOk hdI = true := by decide
theorem row_ok {x : DIncident} (h : incB x = true) : rowOk (rowI x) = true := by
  have p := incP_of h
  unfold rowOk rowI
  have h1 : cellOk (dayT x.day) = true := day_cellOk (dayP_ok p.day.1 p.day.2).1
  simp only [List.all_cons, List.all_nil, h1, name_cellOk p.place, dec_cellOk (n := x.level) (by have := p.level; omega) (by have := p.level; omega), dec_cellOk p.caught.1 p.caught.2, dec_cellOk p.buried.1 p.buried.2]
  rfl
theorem rows_ok {xs : List DIncident} (h : incsB xs = true) (k : Nat) : rowsOk (rowsI xs k) = true := by
  unfold rowsOk rowsI
  rw [List.all_cons, hd_ok, Bool.true_and]
  refine List.all_eq_true.2 fun r hr => ?_
  obtain ⟨x, hx, rfl⟩ := List.mem_map.1 hr
  obtain ⟨m, hm, rfl⟩ := List.getElem_of_mem (List.mem_of_mem_take hx)
  exact row_ok (incsB_one h hm)
theorem row_size {x : DIncident} (h : incB x = true) : ∀ c ∈ rowI x, c.size ≤ 1048576 := by
  have p := incP_of h
  have h1 : (dayT x.day).size = 10 := dayS_size (dayP_ok p.day.1 p.day.2).1
  have h2 := nameB_sizeP p.place
  have hd : ∀ n : Int, 0 ≤ n → n ≤ 20 → (decS n).size ≤ 30 := fun n a b => by rw [decS_size]; have := itoa_len20 (n := n) (by omega) (by omega); omega
  intro c hc
  unfold rowI at hc
  simp only [List.mem_cons, List.not_mem_nil, or_false] at hc
  rcases hc with rfl | rfl | rfl | rfl | rfl
  · omega
  · omega
  · have := hd x.level (by have := p.level; omega) (by have := p.level; omega); omega
  · have := hd x.caught p.caught.1 p.caught.2; omega
  · have := hd x.buried p.buried.1 p.buried.2; omega
theorem rows_size {xs : List DIncident} (h : incsB xs = true) (k : Nat) : ∀ r ∈ rowsI xs k, ∀ c ∈ r, c.size ≤ 1048576 := by
  intro r hr
  unfold rowsI at hr
  rcases List.mem_cons.1 hr with rfl | hr
  · decide
  · obtain ⟨x, hx, rfl⟩ := List.mem_map.1 hr
    obtain ⟨m, hm, rfl⟩ := List.getElem_of_mem (List.mem_of_mem_take hx)
    exact row_size (incsB_one h hm)
theorem irF_len {xs : List DIncident} (h : xs.length ≤ 1048576) : (irF xs).length ≤ 100000000000 := by
  unfold irF doneF tabF rowsI
  (repeat' split) <;> simp <;> omega
theorem rowI_oks {x : DIncident} (h : incB x = true) : ∀ c ∈ rowI x, fStr.ok c := fun c hc => by have := row_size h c hc; show _ ≤ _; omega
theorem hd_oks : ∀ c ∈ hdI, fStr.ok c := by
  intro c hc
  have : c.size ≤ 10 := by revert c; decide
  show _ ≤ _; omega
theorem PIncident.keptI {w w' : World} {g off : Nat} {x : DIncident} (h : PIncident w g off x) (hb : ∀ j, w'.cell? ⟨g, j, none⟩ = w.cell? ⟨g, j, none⟩) : PIncident w' g off x :=
  ⟨(hb _).trans h.c0, (hb _).trans h.c1, (hb _).trans h.c2, (hb _).trans h.c3, (hb _).trans h.c4, (hb _).trans h.c5⟩
theorem W_le {B : Nat} {a b : World} (h : Below B a b) : a.heap.size ≤ b.heap.size := h.size
set_option maxRecDepth 100000 in
set_option maxHeartbeats 8000000 in
theorem implIncidentReport_any (v : Value) (xs : List DIncident) (fp : List Nat) (w : World) (hx : Sl fIncident.cod w v xs fp) (ht : Tab10 w) :
    Calls Tryz.prog 16 #[v] w fun e w' => NewR2 fStr.cod w (irF xs) (irC xs) e w' := by
  obtain ⟨A, cap, rfl, hle, hca⟩ := hx.form
  obtain ⟨i0, hi, hz0, hz1, hz2⟩ := info_parts infoSliceR
  have hlt0 := hx.lt
  go_enter Tryz.func16, Tryz.ntmps16
  go_wp2_with fail
  refine (ValidIncidents_any _ xs fp _ hx).mono ?_
  rintro e w1 ⟨rfl, hb1⟩
  cases h0 : incsB xs
  · go_wp2
    go_ret2
    exact ⟨_, by rw [irC, h0]; rfl, by rw [irF, h0]; exact New.nil hb1⟩
  · have HC := Lib.hid (show irC xs = doneC (tabF (rowsI xs xs.length)) from by rw [irC, h0]; rfl)
    have HF := Lib.hid (show irF xs = doneF (tabF (rowsI xs xs.length)) from by rw [irF, h0]; rfl)
    have hBa : Below w.heap.size w (w1.alloc (.cells #[.string ⟨#[100, 97, 121]⟩, .string ⟨#[112, 108, 97, 99, 101]⟩, .string ⟨#[108, 101, 118, 101, 108]⟩, .string ⟨#[99, 97, 117, 103, 104, 116]⟩, .string ⟨#[98, 117, 114, 105, 101, 100]⟩] 9)) := hb1.alloc hb1.size _
    have hB0 : Below w.heap.size w ((w1.alloc (.cells #[.string ⟨#[100, 97, 121]⟩, .string ⟨#[112, 108, 97, 99, 101]⟩, .string ⟨#[108, 101, 118, 101, 108]⟩, .string ⟨#[99, 97, 117, 103, 104, 116]⟩, .string ⟨#[98, 117, 114, 105, 101, 100]⟩] 9)).alloc (.cells #[.slice (some ⟨w1.heap.size, 0, none⟩) 5 5] 24)) := hBa.alloc hBa.size _
    have hs0 : Sl fStr.cod (w1.alloc (.cells #[.string ⟨#[100, 97, 121]⟩, .string ⟨#[112, 108, 97, 99, 101]⟩, .string ⟨#[108, 101, 118, 101, 108]⟩, .string ⟨#[99, 97, 117, 103, 104, 116]⟩, .string ⟨#[98, 117, 114, 105, 101, 100]⟩] 9)) (.slice (some ⟨w1.heap.size, 0, none⟩) 5 5) hdI [w1.heap.size] := Sl.lit2 (E := fStr) w1 hdI _ _ rfl hd_oks (by show 0 < 5; decide) (by show 5 ≤ _; decide)
    have hr0 := RowsV.first (B := w.heap.size) hBa.size hs0 (fun b hb => by rw [List.mem_singleton] at hb; subst hb; exact hb1.size)
    rw [← rowsI_zero xs, World.size_alloc] at hr0
    have H0 := Lib.hid h0
    have hl48 := incsB_len h0
    clear h0 hs0 hBa
    go_wp2
    go_loopw [4, 14] (fun v i wr => ∃ k : Nat, k ≤ xs.length ∧ i = .int .i64 k ∧ (∃ V F, RowsV wr w.heap.size v (rowsI xs k) V F) ∧ Below w.heap.size w wr) (fun _ i _ => xs.length - (intOf i).toNat)
    case atStart => exact ⟨0, Nat.zero_le _, rfl, ⟨_, _, hr0⟩, hB0⟩
    case round =>
      clear hr0 hB0
      obtain ⟨k, hk, rfl, ⟨V, F, hrw⟩, hb⟩ := hrel
      by_cases hlt : k < xs.length
      · obtain ⟨b, off, rfl, hbm0, hok, hp⟩ := PIncident.elem (hx.below' hb) hlt
        have hbm := hlt0 b hbm0
        have hv := incsB_one H0.out hlt
        have hpp := incP_of hv
        have HDO := Lib.hid (dayP_ok hpp.day.1 hpp.day.2)
        have HRO := Lib.hid (rowI_oks hv)
        have HST : Hid (rowsI xs (k + 1) = rowsI xs k ++ [rowI xs[k]]) := rowsI_step hlt
        obtain ⟨_, _, hlv, hcg, hbd⟩ := hpp
        obtain ⟨c0, c1, c2, c3, c4, c5⟩ := id hp
        have hrow : u4.ownBlock ≠ some wr.heap.size := fun e => by have := (World.ownsRow.lt hrw.own _ e).2; omega
        go_wp2
        refine at_world (fun W => Below w.heap.size w W ∧ PIncident W wr.heap.size 0 xs[k] ∧ RowsV W w.heap.size u4 (rowsI xs k) V F) ⟨hb.alloc hb.size _, PIncident.box wr xs[k] _, hrw.below ((Below.refl _ _).alloc (Nat.le_refl _) _)⟩ ?_
        clear c0 c1 c2 c3 c4 c5 hp hrw
        generalize wr.heap.size = wq at *
        rintro W ⟨hBW, hpW, hrW⟩
        have hbW := hBW.size
        have hrowne : some wq = u4.ownBlock → False := fun e => hrow e.symm
        have gk0 : ∀ p : KeptW (w.heap.size) W (fun N => PIncident N wq 0 xs[k]), p.v.cell? ⟨wq, 0, none⟩ = some (.int .i64 xs[k].day) := fun p => p.x.c0
        have gk1 : ∀ p : KeptW (w.heap.size) W (fun N => PIncident N wq 0 xs[k]), p.v.cell? ⟨wq, 1, none⟩ = some (.string xs[k].place) := fun p => p.x.c1
        have gk3 : ∀ p : KeptW (w.heap.size) W (fun N => PIncident N wq 0 xs[k]), p.v.cell? ⟨wq, 3, none⟩ = some (.int .i64 xs[k].level) := fun p => p.x.c3
        have gk4 : ∀ p : KeptW (w.heap.size) W (fun N => PIncident N wq 0 xs[k]), p.v.cell? ⟨wq, 4, none⟩ = some (.int .i64 xs[k].caught) := fun p => p.x.c4
        have gk5 : ∀ p : KeptW (w.heap.size) W (fun N => PIncident N wq 0 xs[k]), p.v.cell? ⟨wq, 5, none⟩ = some (.int .i64 xs[k].buried) := fun p => p.x.c5
        haveI hKne : Nonempty (KeptW (w.heap.size) W (fun N => PIncident N wq 0 xs[k])) := ⟨⟨_, Below.drew (Below.refl _ _), (hpW.below' (Below.drew (Below.refl _ _)))⟩⟩
        refine wp_region_mixed [0, 1, 2, 4, 5, 6, 7, 9, 10, 12, 13, 3, 8, 11, 14, 15, 16, 17, 18] (C := fun w' => ∃ p : KeptW (w.heap.size) W (fun N => PIncident N wq 0 xs[k]), w' = p.v) [true, true, true, true, true, true, true, true, true, true, true, false, false, false, false, false, false, false, true] (by kernel_rfl) (by kernel_rfl) (by kernel_rfl) (fun _ _ d _ _ h => by cases d <;> exact h) ⟨⟨_, Below.drew (Below.refl _ _), (hpW.below' (Below.drew (Below.refl _ _)))⟩, rfl⟩ ?_
        simp only [List.map_cons, List.map_nil, List.getD_cons_zero, List.getD_cons_succ]
        have hS0 : Below (w.heap.size) W W.drew := Below.drew (Below.refl _ _)
        refine wpMix_pure (by kernel_rfl) (fun K hK => ?_); go_big_quiet_op; refine hK _ ?_; clear hK K
        refine wpMix_pure (by kernel_rfl) (fun K hK => ?_); go_big_quiet_op; refine hK _ ?_; clear hK K
        refine wpMix_pure (by kernel_rfl) (fun K hK => ?_); go_big_quiet_op; refine hK _ ?_; clear hK K
        refine wpMix_pure (by kernel_rfl) (fun K hK => ?_); go_big_quiet_op; refine hK _ ?_; clear hK K
        refine wpMix_pure (by kernel_rfl) (fun K hK => ?_); go_big_quiet_op; refine hK _ ?_; clear hK K
        refine wpMix_pure (by kernel_rfl) (fun K hK => ?_); go_big_quiet_op; refine hK _ ?_; clear hK K
        refine wpMix_pure (by kernel_rfl) (fun K hK => ?_); go_big_quiet_op; refine hK _ ?_; clear hK K
        refine wpMix_pure (by kernel_rfl) (fun K hK => ?_); go_big_quiet_op; refine hK _ ?_; clear hK K
        refine wpMix_pure (by kernel_rfl) (fun K hK => ?_); go_big_quiet_op; refine hK _ ?_; clear hK K
        refine wpMix_pure (by kernel_rfl) (fun K hK => ?_); go_big_quiet_op; refine hK _ ?_; clear hK K
        refine wpMix_pure (by kernel_rfl) (fun K hK => ?_); go_big_quiet_op; refine hK _ ?_; clear hK K
        refine wpMix_act (by kernel_rfl) (fun K hK => ?_)
        go_big_op
        refine (DateText_any (dayP xs[k].day).1 (dayP xs[k].day).2.1 (dayP xs[k].day).2.2 xs[k].day _ HDO.out.1 HDO.out.2 (ht.below (hBW.trans hS0))).mono ?_
        rintro e wr1 ⟨rfl, hbr1⟩
        have hbr1S : Below (w.heap.size) W wr1 := hS0.trans (hbr1.mono (Nat.le_trans hbW hS0.size))
        refine hK _ _ ⟨⟨_, hbr1S, (((hpW.below' (Below.drew (Below.refl _ _)))).below' hbr1)⟩, rfl⟩ ?_
        clear hK K
        refine wpMix_act (by kernel_rfl) (fun K hK => ?_)
        go_big_op
        refine (Decimal_any xs[k].level _ (by omega) (by omega) (ht.below (hBW.trans hbr1S))).mono ?_
        rintro e wr2 ⟨rfl, hbr2⟩
        have hbr2S : Below (w.heap.size) W wr2 := hbr1S.trans (hbr2.mono (Nat.le_trans hbW hbr1S.size))
        refine hK _ _ ⟨⟨_, hbr2S, (((((hpW.below' (Below.drew (Below.refl _ _)))).below' hbr1)).below' hbr2)⟩, rfl⟩ ?_
        clear hK K
        refine wpMix_act (by kernel_rfl) (fun K hK => ?_)
        go_big_op
        refine (Decimal_any xs[k].caught _ (by omega) (by omega) (ht.below (hBW.trans hbr2S))).mono ?_
        rintro e wr3 ⟨rfl, hbr3⟩
        have hbr3S : Below (w.heap.size) W wr3 := hbr2S.trans (hbr3.mono (Nat.le_trans hbW hbr2S.size))
        refine hK _ _ ⟨⟨_, hbr3S, (((((((hpW.below' (Below.drew (Below.refl _ _)))).below' hbr1)).below' hbr2)).below' hbr3)⟩, rfl⟩ ?_
        clear hK K
        refine wpMix_act (by kernel_rfl) (fun K hK => ?_)
        go_big_op
        refine (Decimal_any xs[k].buried _ (by omega) (by omega) (ht.below (hBW.trans hbr3S))).mono ?_
        rintro e wr4 ⟨rfl, hbr4⟩
        have hbr4S : Below (w.heap.size) W wr4 := hbr3S.trans (hbr4.mono (Nat.le_trans hbW hbr3S.size))
        refine hK _ _ ⟨⟨_, hbr4S, (((((((((hpW.below' (Below.drew (Below.refl _ _)))).below' hbr1)).below' hbr2)).below' hbr3)).below' hbr4)⟩, rfl⟩ ?_
        clear hK K
        refine wpMix_act (by kernel_rfl) (fun K hK => ?_)
        go_big_op
        refine hK _ _ ⟨⟨_, (hbr4S.alloc (Nat.le_trans hbW hbr4S.size) _), (((((((((((hpW.below' (Below.drew (Below.refl _ _)))).below' hbr1)).below' hbr2)).below' hbr3)).below' hbr4)).below' ((Below.refl _ _).alloc (Nat.le_refl _) _))⟩, rfl⟩ ?_
        clear hK K
        refine mix_world (fun N => Below (w.heap.size) W N ∧ PIncident N wq 0 xs[k] ∧ RowsV N w.heap.size u4 (rowsI xs k) V F ∧ Sl fStr.cod N (.slice (some ⟨wr4.heap.size, 0, none⟩) 5 5) (rowI xs[k]) [wr4.heap.size] ∧ wr4.heap.size < N.heap.size) ⟨hbr4S.alloc (Nat.le_trans hbW hbr4S.size) _, ⟨(((((hpW.below' (Below.drew (Below.refl _ _))).below' hbr1).below' hbr2).below' hbr3).below' hbr4).below' ((Below.refl _ _).alloc (Nat.le_refl _) _), (((((hrW.below (Below.drew (Below.refl _ _))).below hbr1).below hbr2).below hbr3).below hbr4).below ((Below.refl _ _).alloc (Nat.le_refl _) _), Sl.lit2 (E := fStr) wr4 (rowI xs[k]) _ _ rfl HRO.out (by show 0 < 5; decide) (by show 5 ≤ _; decide), by simp⟩⟩ ?_
        rintro wr5 ⟨hbr5S, hbr5F⟩
        refine wpMix_act (by kernel_rfl) (fun K hK => ?_)
        go_big_op
        refine hK _ _ ⟨⟨_, (hbr5S.alloc (Nat.le_trans hbW hbr5S.size) _), ((hbr5F.1).below' ((Below.refl _ _).alloc (Nat.le_refl _) _))⟩, rfl⟩ ?_
        clear hK K
        refine mix_world (fun N => Below (w.heap.size) W N ∧ PIncident N wq 0 xs[k] ∧ RowsV N w.heap.size u4 (rowsI xs k) V F ∧ Sl fStr.cod N (.slice (some ⟨wr4.heap.size, 0, none⟩) 5 5) (rowI xs[k]) [wr4.heap.size] ∧ wr4.heap.size < N.heap.size ∧ N.cell? ⟨wr5.heap.size, 0, none⟩ = some (.slice (some ⟨wr4.heap.size, 0, none⟩) 5 5)) ⟨hbr5S.alloc (Nat.le_trans hbW hbr5S.size) _, ⟨hbr5F.1.below' ((Below.refl _ _).alloc (Nat.le_refl _) _), hbr5F.2.1.below ((Below.refl _ _).alloc (Nat.le_refl _) _), hbr5F.2.2.1.below' ((Below.refl _ _).alloc (Nat.le_refl _) _), by have := hbr5F.2.2.2; simp; omega, by simp⟩⟩ ?_
        rintro wr6 ⟨hbr6S, hbr6F⟩
        refine wpMix_act (by kernel_rfl) (fun K hK => ?_)
        obtain ⟨hp6, hr6, hs6, hlt6, hc6⟩ := hbr6F
        refine wp_append_at2 _ _ _ 61 rfl w.heap.size 24 i0 (.slice none 0 0) 1 24 Tryz.underlying61 hi hz0 hz1 hz2 rfl (by decide) u4 (rowsI xs k).length _ rfl hr6.own [.slice (some ⟨wr4.heap.size, 0, none⟩) 5 5] rfl (by intro u hu; rw [List.mem_singleton] at hu; subst hu; rfl) wr5.heap.size rfl (by intro j u hj; match j, hj with | 0, hj => (injection hj with hj; subst hj; exact hc6) | j + 1, hj => (simp at hj)) (by rw [rowsI_len hk]; omega) (by decide) (Nat.le_trans hbW hbr6S.size) ?_
        intro v' u hown hbu hgr hli
        have hr7 := hr6.push hs6 (fun b hb => by rw [List.mem_singleton] at hb; subst hb; exact ⟨Nat.le_trans hbW hbr4S.size, fun e => by have := hrW.lt _ e; have := hbr4S.size; have h5 := hS0.size; exact Nat.lt_irrefl _ (Nat.lt_of_lt_of_le (hrW.lt _ e) (W_le hbr4S))⟩) hown hgr hli
        rw [← HST.out] at hr7
        clear hown
        have hpu : PIncident u wq 0 xs[k] := hp6.keptI (fun j => World.cell?_of_block (a := ⟨wq, j, none⟩) (hgr.block wq hp6.lt (fun e => hrowne e)))
        have hbuS : Below (w.heap.size) W u := hbr6S.trans hbu
        try simp only [Act.put, List.setIfInBounds_toArray, List.set_cons_zero, List.set_cons_succ]
        refine hK _ _ ⟨⟨_, hbuS, hpu⟩, rfl⟩ ?_
        clear hK K
        refine wpMix_pure (by kernel_rfl) (fun K hK => ?_); go_big_quiet_op; refine hK _ ?_; clear hK K
        refine wpMix_nil ?_
        have hb9 := hBW.trans hbuS
        go_wp2
        go_roundw
        case rel => exact ⟨k + 1, by omega, by go_num, ⟨_, _, hr7⟩, hb9⟩
        case measure => simp [intOf]; omega
      · have hke : k = xs.length := by omega
        subst hke
        have hrl : (rowsI xs xs.length).length = xs.length + 1 := rowsI_len (Nat.le_refl _)
        obtain ⟨fpr, hsl⟩ := hrw.sl (by omega)
        have hrs := rows_size H0.out xs.length
        have hro := rows_ok H0.out xs.length
        have h12 := rowsOk_12 hro
        have HTC := Lib.hid (show tlC (rowsI xs xs.length) = doneC (tabF (rowsI xs xs.length)) from by rw [tlC, hro]; rfl)
        have HTF := Lib.hid (show tlF (rowsI xs xs.length) = doneF (tabF (rowsI xs xs.length)) from by rw [tlF, hro]; rfl)
        have hlen7 : (rowsI xs xs.length).length ≤ 1048577 := by omega
        clear hro hrw
        generalize rowsI xs xs.length = R at *
        clear hrl
        go_wp2_with fail
        refine (implTableLines_any _ R fpr _ hsl hlen7 hrs).mono ?_
        rintro e w2 ⟨v2, rfl, hn⟩
        have hn2 := hn.later hb
        rw [HTF.out] at hn2
        go_wp2
        go_ret2
        exact ⟨_, by rw [HC.out, ← HTC.out]; rfl, by rw [HF.out]; exact hn2⟩

end Go.Proofs.YtgnbhcgagdfaiaaGreatDoor

namespace Go.Proofs.YtgnbhcgagdfaiaaGreatDoor
open Go.RowKit
set_option linter.unusedVariables false

/-- j is reached from i. -/
def Rch (adj : Nat → Nat → Bool) (i j : Nat) : Prop := ∀ S : Nat → Prop, (∀ x y, S x → adj x y = true → S y) → S i → S j
theorem Rch.refl (adj : Nat → Nat → Bool) (i : Nat) : Rch adj i i := fun _ _ h => h
theorem Rch.step {adj : Nat → Nat → Bool} {i j k : Nat} (h : Rch adj i j) (hk : adj j k = true) : Rch adj i k := fun S hc hi => hc _ _ (h S hc hi) hk
theorem Rch.trans {adj : Nat → Nat → Bool} {i j k : Nat} (h : Rch adj i j) (h2 : Rch adj j k) : Rch adj i k := fun S hc hi => h2 S hc (h S hc hi)
structure Graph (adj : Nat → Nat → Bool) (n : Nat) : Prop where
  sym : ∀ x y, adj x y = true → adj y x = true
  lt : ∀ x y, adj x y = true → x < n ∧ y < n
theorem Rch.symm {adj : Nat → Nat → Bool} {n i j : Nat} (hg : Graph adj n) (h : Rch adj i j) : Rch adj j i :=
  h (fun x => Rch adj x i) (fun x y hx hxy => ((Rch.refl adj y).step (hg.sym _ _ hxy)).trans hx) (Rch.refl adj i)
noncomputable def rchB (adj : Nat → Nat → Bool) (i j : Nat) : Bool := @decide (Rch adj i j) (Classical.propDecidable _)
theorem rchB_true {adj : Nat → Nat → Bool} {i j : Nat} : rchB adj i j = true ↔ Rch adj i j := by unfold rchB; exact @decide_eq_true_iff _ (Classical.propDecidable _)
theorem rchB_false {adj : Nat → Nat → Bool} {i j : Nat} : rchB adj i j = false ↔ ¬ Rch adj i j := by rw [← rchB_true]; simp
/-- The component of i, sorted. -/
noncomputable def compL (n : Nat) (adj : Nat → Nat → Bool) (i : Nat) : List Nat := (List.range n).filter (rchB adj i)
noncomputable def seenB (adj : Nat → Nat → Bool) (k j : Nat) : Bool := (List.range k).any (fun i => rchB adj i j)
theorem seenB_true {adj : Nat → Nat → Bool} {k j : Nat} : seenB adj k j = true ↔ ∃ i < k, Rch adj i j := by
  unfold seenB
  rw [List.any_eq_true]
  constructor
  · rintro ⟨i, hi, h⟩; exact ⟨i, List.mem_range.1 hi, rchB_true.1 h⟩
  · rintro ⟨i, hi, h⟩; exact ⟨i, List.mem_range.2 hi, rchB_true.2 h⟩
theorem seenB_zero {adj : Nat → Nat → Bool} {j : Nat} : seenB adj 0 j = false := rfl
theorem seenB_eq {a b : Bool} (h : a = true ↔ b = true) : a = b := by cases a <;> cases b <;> simp_all
theorem seenB_skip {adj : Nat → Nat → Bool} {n k : Nat} (hg : Graph adj n) (h : seenB adj k k = true) (j : Nat) : seenB adj (k + 1) j = seenB adj k j := by
  refine seenB_eq ?_
  rw [seenB_true, seenB_true]
  obtain ⟨i, hi, hik⟩ := seenB_true.1 h
  constructor
  · rintro ⟨m, hm, hr⟩
    rcases Nat.lt_or_ge m k with h1 | h1
    · exact ⟨m, h1, hr⟩
    · obtain rfl : m = k := by omega
      exact ⟨i, hi, hik.trans hr⟩
  · rintro ⟨m, hm, hr⟩; exact ⟨m, by omega, hr⟩
theorem seenB_new {adj : Nat → Nat → Bool} {k : Nat} (j : Nat) : seenB adj (k + 1) j = (seenB adj k j || rchB adj k j) := by
  refine seenB_eq ?_
  rw [Bool.or_eq_true, seenB_true, seenB_true, rchB_true]
  constructor
  · rintro ⟨m, hm, hr⟩
    rcases Nat.lt_or_ge m k with h1 | h1
    · exact .inl ⟨m, h1, hr⟩
    · obtain rfl : m = k := by omega
      exact .inr hr
  · rintro (⟨m, hm, hr⟩ | hr)
    · exact ⟨m, by omega, hr⟩
    · exact ⟨k, by omega, hr⟩
/-- The components of the vertices below k, by their least members. -/
noncomputable def groupsL (n : Nat) (adj : Nat → Nat → Bool) (k : Nat) : List (List Nat) := ((List.range k).filter (fun i => !seenB adj i i)).map (compL n adj)
theorem groupsL_zero {n : Nat} {adj : Nat → Nat → Bool} : groupsL n adj 0 = [] := rfl
theorem groupsL_skip {n : Nat} {adj : Nat → Nat → Bool} {k : Nat} (h : seenB adj k k = true) : groupsL n adj (k + 1) = groupsL n adj k := by
  unfold groupsL
  rw [List.range_succ, List.filter_append, List.filter_cons, h]
  simp
theorem groupsL_new {n : Nat} {adj : Nat → Nat → Bool} {k : Nat} (h : seenB adj k k = false) : groupsL n adj (k + 1) = groupsL n adj k ++ [compL n adj k] := by
  unfold groupsL
  rw [List.range_succ, List.filter_append, List.filter_cons, h]
  simp
theorem groupsL_len {n : Nat} {adj : Nat → Nat → Bool} {k : Nat} : (groupsL n adj k).length ≤ k := by
  unfold groupsL
  rw [List.length_map]
  exact Nat.le_trans (List.length_filter_le _ _) (by rw [List.length_range]; exact Nat.le_refl _)
/-- The search from k: the first at vertices of the queue have all their neighbours in it. -/
structure Queue (adj : Nat → Nat → Bool) (n k : Nat) (q : List Nat) (at_ : Nat) : Prop where
  first : k ∈ q
  nd : q.Nodup
  rch : ∀ x ∈ q, Rch adj k x
  lt : ∀ x ∈ q, x < n
  done : ∀ i (h : i < q.length), i < at_ → ∀ y, adj q[i] y = true → y ∈ q
theorem Queue.start {adj : Nat → Nat → Bool} {n k : Nat} (hk : k < n) : Queue adj n k [k] 0 :=
  ⟨by simp, by simp, fun x hx => by rw [List.mem_singleton] at hx; subst hx; exact Rch.refl _ _, fun x hx => by rw [List.mem_singleton] at hx; subst hx; exact hk, fun i _ h => absurd h (Nat.not_lt_zero _)⟩
theorem Queue.add {adj : Nat → Nat → Bool} {n k at_ y : Nat} {q : List Nat} (hg : Graph adj n) (h : Queue adj n k q at_) (hat : at_ < q.length) (hy : adj q[at_] y = true) (hn : y ∉ q) : Queue adj n k (q ++ [y]) at_ := by
  refine ⟨List.mem_append_left _ h.first, ?_, ?_, ?_, ?_⟩
  · rw [List.nodup_append]
    exact ⟨h.nd, by simp, fun a ha b hb => by rw [List.mem_singleton] at hb; subst hb; exact fun e => hn (e ▸ ha)⟩
  · intro x hx
    rcases List.mem_append.1 hx with hx | hx
    · exact h.rch x hx
    · rw [List.mem_singleton] at hx; subst hx
      exact (h.rch _ (List.getElem_mem hat)).step hy
  · intro x hx
    rcases List.mem_append.1 hx with hx | hx
    · exact h.lt x hx
    · rw [List.mem_singleton] at hx; subst hx
      exact (hg.lt _ _ hy).2
  · intro i hi hia z hz
    have hi' : i < q.length := by omega
    rw [List.getElem_append_left hi'] at hz
    exact List.mem_append_left _ (h.done i hi' hia z hz)
theorem Queue.next {adj : Nat → Nat → Bool} {n k at_ : Nat} {q : List Nat} (h : Queue adj n k q at_) (hat : at_ < q.length) (hall : ∀ y, adj q[at_] y = true → y ∈ q) : Queue adj n k q (at_ + 1) :=
  ⟨h.first, h.nd, h.rch, h.lt, fun i hi hia y hy => by
    rcases Nat.lt_or_ge i at_ with h1 | h1
    · exact h.done i hi h1 y hy
    · obtain rfl : i = at_ := by omega
      exact hall y hy⟩
theorem Queue.len {adj : Nat → Nat → Bool} {n k at_ : Nat} {q : List Nat} (h : Queue adj n k q at_) : q.length ≤ n := by
  have h1 : q.length ≤ (List.range n).length := by
    have : ∀ (l m : List Nat), l.Nodup → (∀ x ∈ l, x ∈ m) → l.length ≤ m.length := by
      intro l
      induction l with
      | nil => intro m _ _; simp
      | cons a l ih =>
        intro m hnd hs
        rw [List.nodup_cons] at hnd
        have ha : a ∈ m := hs a (by simp)
        have h2 := ih (m.erase a) hnd.2 (fun x hx => (List.mem_erase_of_ne (show x ≠ a from fun e => hnd.1 (by rw [← e]; exact hx))).2 (hs x (by simp [hx])))
        rw [List.length_erase_of_mem ha] at h2
        have := List.length_pos_of_mem ha
        rw [List.length_cons]
        omega
    exact this q _ h.nd (fun x hx => List.mem_range.2 (h.lt x hx))
  rw [List.length_range] at h1
  exact h1
theorem Queue.full {adj : Nat → Nat → Bool} {n k at_ : Nat} {q : List Nat} (h : Queue adj n k q at_) (hat : q.length ≤ at_) (x : Nat) : x ∈ q ↔ Rch adj k x := by
  refine ⟨h.rch x, fun hr => hr (· ∈ q) (fun a b ha hab => ?_) h.first⟩
  obtain ⟨i, hi, rfl⟩ := List.getElem_of_mem ha
  exact h.done i hi (by omega) b hab
/-- A vertex that the search meets was not seen ahead of it. -/
theorem Queue.fresh {adj : Nat → Nat → Bool} {n k at_ y : Nat} {q : List Nat} (hg : Graph adj n) (h : Queue adj n k q at_) (hk : seenB adj k k = false) (hat : at_ < q.length) (hy : adj q[at_] y = true) : seenB adj k y = false := by
  cases hs : seenB adj k y
  · rfl
  · obtain ⟨i, hi, hr⟩ := seenB_true.1 hs
    have h1 : Rch adj k y := (h.rch _ (List.getElem_mem hat)).step hy
    have h2 := seenB_true.2 ⟨i, hi, hr.trans (h1.symm hg)⟩
    rw [hk] at h2
    cases h2
def memN (x : Nat) (q : List Nat) : Bool := decide (x ∈ q)
theorem memN_true {x : Nat} {q : List Nat} : memN x q = true ↔ x ∈ q := by unfold memN; simp
theorem sorted_eq : ∀ (l m : List Nat), l.Pairwise (· < ·) → m.Pairwise (· < ·) → (∀ x, x ∈ l ↔ x ∈ m) → l = m := by
  intro l
  induction l with
  | nil =>
    intro m _ _ h
    cases m with
    | nil => rfl
    | cons b m => exact absurd ((h b).2 (by simp)) (by simp)
  | cons a l ih =>
    intro m hl hm h
    cases m with
    | nil => exact absurd ((h a).1 (by simp)) (by simp)
    | cons b m =>
      rw [List.pairwise_cons] at hl hm
      have hab : a = b := by
        rcases List.mem_cons.1 ((h a).1 (by simp)) with h1 | h1
        · exact h1
        · rcases List.mem_cons.1 ((h b).2 (by simp)) with h2 | h2
          · exact h2.symm
          · have := hm.1 a h1; have := hl.1 b h2; omega
      subst hab
      rw [ih m hl.2 hm.2 (fun x => ?_)]
      constructor
      · intro hx
        rcases List.mem_cons.1 ((h x).1 (by simp [hx])) with h1 | h1
        · subst h1; exact absurd (hl.1 _ hx) (Nat.lt_irrefl _)
        · exact h1
      · intro hx
        rcases List.mem_cons.1 ((h x).2 (by simp [hx])) with h1 | h1
        · subst h1; exact absurd (hm.1 _ hx) (Nat.lt_irrefl _)
        · exact h1
theorem compL_sorted {n : Nat} {adj : Nat → Nat → Bool} {i : Nat} : (compL n adj i).Pairwise (· < ·) := (List.pairwise_lt_range).filter _
theorem compL_mem {n : Nat} {adj : Nat → Nat → Bool} {i x : Nat} : x ∈ compL n adj i ↔ x < n ∧ Rch adj i x := by
  unfold compL
  rw [List.mem_filter, List.mem_range, rchB_true]
theorem comp_of_queue {adj : Nat → Nat → Bool} {n k at_ : Nat} {q s : List Nat} (h : Queue adj n k q at_) (hat : q.length ≤ at_) (hs : s.Pairwise (· < ·)) (hm : ∀ x, x ∈ s ↔ x ∈ q) : s = compL n adj k := by
  refine sorted_eq _ _ hs compL_sorted (fun x => ?_)
  rw [hm, compL_mem]
  constructor
  · intro hx; exact ⟨h.lt x hx, h.rch x hx⟩
  · intro hx; exact (h.full hat x).2 hx.2
/-- What has been seen when the search from k is over. -/
theorem seen_after {adj : Nat → Nat → Bool} {n k at_ : Nat} {q : List Nat} (h : Queue adj n k q at_) (hat : q.length ≤ at_) (j : Nat) : (seenB adj k j || memN j q) = seenB adj (k + 1) j := by
  rw [seenB_new]
  congr 1
  refine seenB_eq ?_
  rw [memN_true, rchB_true]
  exact h.full hat j
end Go.Proofs.YtgnbhcgagdfaiaaGreatDoor

namespace Go.Proofs.YtgnbhcgagdfaiaaGreatDoor
open Go.RowKit
set_option linter.unusedVariables false

structure DRegion where
  id : ByteArray
  level : Int
  near : List ByteArray
  deriving DecidableEq
def rg0 : DRegion := ⟨⟨#[]⟩, 0, []⟩
def cRegion : Cod DRegion where
  n := 3
  rd := fun w cs x fp => ∃ v, cs = [.string x.id, .int .i64 x.level, v] ∧ fStr.ok x.id ∧ fInt.ok x.level ∧ fStr.cod.slice.rd w [v] x.near fp
  pos := by omega
  len := by rintro w cs x fp ⟨v, rfl, _⟩; rfl
  lt := by rintro w cs x fp ⟨v, _, _, _, h⟩; exact fStr.cod.slice.lt h
  keep := by rintro w w' cs x fp ⟨v, rfl, h1, h2, h⟩ hk; exact ⟨v, rfl, h1, h2, fStr.cod.slice.keep h hk⟩
/-- The rows of a slice of regions, laid open. -/
structure RRows (w : World) (b off n : Nat) (V : Nat → Value) (cur : Nat → DRegion) (F : Nat → List Nat) : Prop where
  c0 : ∀ i, i < n → w.cell? ⟨b, off + i * 3, none⟩ = some (.string (cur i).id)
  c1 : ∀ i, i < n → w.cell? ⟨b, off + i * 3 + 1, none⟩ = some (.int .i64 (cur i).level)
  c2 : ∀ i, i < n → w.cell? ⟨b, off + i * 3 + 2, none⟩ = some (V i)
  z : ∀ i, i < n → ∀ j, j < 3 → w.frozen? ⟨b, off + i * 3 + j, none⟩ = false
  ok : ∀ i, i < n → fStr.ok (cur i).id ∧ fInt.ok (cur i).level
  rd : ∀ i, i < n → Sl fStr.cod w (V i) (cur i).near (F i)
section
variable {w w' : World} {b off n cap len : Nat} {A : Option Addr} {V : Nat → Value} {cur : Nat → DRegion} {F : Nat → List Nat} {xs : List DRegion} {fp : List Nat}
theorem Sl.regs (h : Sl cRegion w (.slice A len cap) xs fp) (h0 : 0 < xs.length) :
    ∃ b off V F, A = some ⟨b, off, none⟩ ∧ b < w.heap.size ∧ fp = b :: (List.range xs.length).flatMap F ∧ RRows w b off xs.length V (fun i => xs.getD i rg0) F := by
  obtain ⟨A', cap', hv, hl, hc, hr⟩ := h
  injection hv with hA hn hcap
  subst hA
  rcases hr with ⟨h1, _⟩ | ⟨b, off, F, hA, hb, hfp, hi⟩
  · subst h1; simp at h0
  · have hex : ∀ i, ∃ u, ∀ h : i < xs.length, w.cell? ⟨b, off + i * 3, none⟩ = some (.string xs[i].id) ∧ w.cell? ⟨b, off + i * 3 + 1, none⟩ = some (.int .i64 xs[i].level) ∧ w.cell? ⟨b, off + i * 3 + 2, none⟩ = some u ∧ (∀ j, j < 3 → w.frozen? ⟨b, off + i * 3 + j, none⟩ = false) ∧ (fStr.ok xs[i].id ∧ fInt.ok xs[i].level) ∧ Sl fStr.cod w u xs[i].near (F i) := fun i => by
      by_cases hlt : i < xs.length
      · obtain ⟨cs, h1, h2, v, rfl, h3, h4, u, hu, h5⟩ := hi i hlt
        injection hu with hu _
        subst hu
        exact ⟨v, fun _ => ⟨h1 0 (by decide), h1 1 (by decide), h1 2 (by decide), fun j hj => h2 j hj, ⟨h3, h4⟩, h5⟩⟩
      · exact ⟨undef, fun h => absurd h hlt⟩
    have hg : ∀ i (h : i < xs.length), xs.getD i rg0 = xs[i] := fun i h => by simp [List.getD_eq_getElem?_getD, h]
    refine ⟨b, off, fun i => Classical.choose (hex i), F, hA, hb, hfp, ⟨fun i h => ?_, fun i h => ?_, fun i h => ?_, fun i h => ?_, fun i h => ?_, fun i h => ?_⟩⟩
    · have := (Classical.choose_spec (hex i) h).1; rw [hg i h]; exact this
    · have := (Classical.choose_spec (hex i) h).2.1; rw [hg i h]; exact this
    · exact (Classical.choose_spec (hex i) h).2.2.1
    · exact (Classical.choose_spec (hex i) h).2.2.2.1
    · have := (Classical.choose_spec (hex i) h).2.2.2.2.1; rw [hg i h]; exact this
    · have := (Classical.choose_spec (hex i) h).2.2.2.2.2; rw [hg i h]; exact this
theorem RRows.sl (h : RRows w b off n V cur F) (hb : b < w.heap.size) (hn : xs.length = n) (hx : ∀ i (hi : i < xs.length), xs[i] = cur i) (hc : n ≤ cap) (hm : cap ≤ maxLen) :
    Sl cRegion w (.slice (some ⟨b, off, none⟩) n cap) xs (b :: (List.range n).flatMap F) := by
  subst hn
  refine ⟨_, cap, rfl, hc, hm, .inr ⟨b, off, F, rfl, hb, rfl, fun i hi => ⟨[.string (cur i).id, .int .i64 (cur i).level, V i], fun j hj => ?_, fun j hj => h.z i hi j hj, ?_⟩⟩⟩
  · match j, hj with
    | 0, _ => exact h.c0 i hi
    | 1, _ => exact h.c1 i hi
    | 2, _ => exact h.c2 i hi
  · rw [hx i hi]
    exact ⟨V i, rfl, (h.ok i hi).1, (h.ok i hi).2, V i, rfl, h.rd i hi⟩
theorem RRows.below (h : RRows w b off n V cur F) (hb : b < w.heap.size) (hw : Below w.heap.size w w') : RRows w' b off n V cur F :=
  ⟨fun i hi => (hw.cell (p := ⟨b, _, none⟩) hb).trans (h.c0 i hi), fun i hi => (hw.cell (p := ⟨b, _, none⟩) hb).trans (h.c1 i hi), fun i hi => (hw.cell (p := ⟨b, _, none⟩) hb).trans (h.c2 i hi), fun i hi j hj => (hw.frozen (p := ⟨b, _, none⟩) hb).trans (h.z i hi j hj), h.ok, fun i hi => (h.rd i hi).below' hw⟩
theorem RRows.congr {cur' : Nat → DRegion} (h : RRows w b off n V cur F) (hc : ∀ i, i < n → cur i = cur' i) : RRows w b off n V cur' F :=
  ⟨fun i hi => by rw [← hc i hi]; exact h.c0 i hi, fun i hi => by rw [← hc i hi]; exact h.c1 i hi, h.c2, h.z, fun i hi => by rw [← hc i hi]; exact h.ok i hi, fun i hi => by rw [← hc i hi]; exact h.rd i hi⟩
theorem RRows.setId {k : Nat} (h : RRows w b off n V cur F) (hbF : ∀ i, i < n → b ∉ F i) (hk : k < n) (s : ByteArray) (hs : fStr.ok s) :
    RRows (w.setCell ⟨b, off + k * 3, none⟩ (.string s)) b off n V (fun i => if i = k then ⟨s, (cur i).level, (cur i).near⟩ else cur i) F := by
  have hne : ∀ p, p ≠ off + k * 3 → (w.setCell ⟨b, off + k * 3, none⟩ (.string s)).cell? ⟨b, p, none⟩ = w.cell? ⟨b, p, none⟩ := fun p hp => World.cell?_setCell_other _ _ _ _ (fun e => by injection e with _ e _; exact hp e.symm)
  refine ⟨fun i hi => ?_, fun i hi => ?_, fun i hi => ?_, fun i hi j hj => (frozen?_setCell _ _ _ _).trans (h.z i hi j hj), fun i hi => ?_, fun i hi => ?_⟩
  · by_cases e : i = k
    · subst e; rw [if_pos rfl]; exact World.cell?_setCell_same w _ _ (h.c0 i hi)
    · rw [if_neg e, hne _ (by omega)]; exact h.c0 i hi
  · rw [hne _ (by omega)]
    by_cases e : i = k
    · rw [if_pos e]; exact h.c1 i hi
    · rw [if_neg e]; exact h.c1 i hi
  · rw [hne _ (by omega)]; exact h.c2 i hi
  · by_cases e : i = k
    · rw [if_pos e]; exact ⟨hs, (h.ok i hi).2⟩
    · rw [if_neg e]; exact h.ok i hi
  · have ho : Only [b] w (w.setCell ⟨b, off + k * 3, none⟩ (.string s)) := (Only.refl _ _).set _ _
    have hr := (h.rd i hi).only ho (fun c hc hc2 => by rw [List.mem_singleton] at hc2; subst hc2; exact hbF i hi hc)
    by_cases e : i = k
    · rw [if_pos e]; exact hr
    · rw [if_neg e]; exact hr
theorem RRows.setLevel {k : Nat} (h : RRows w b off n V cur F) (hbF : ∀ i, i < n → b ∉ F i) (hk : k < n) (s : Int) (hs : fInt.ok s) :
    RRows (w.setCell ⟨b, off + k * 3 + 1, none⟩ (.int .i64 s)) b off n V (fun i => if i = k then ⟨(cur i).id, s, (cur i).near⟩ else cur i) F := by
  have hne : ∀ p, p ≠ off + k * 3 + 1 → (w.setCell ⟨b, off + k * 3 + 1, none⟩ (.int .i64 s)).cell? ⟨b, p, none⟩ = w.cell? ⟨b, p, none⟩ := fun p hp => World.cell?_setCell_other _ _ _ _ (fun e => by injection e with _ e _; exact hp e.symm)
  refine ⟨fun i hi => ?_, fun i hi => ?_, fun i hi => ?_, fun i hi j hj => (frozen?_setCell _ _ _ _).trans (h.z i hi j hj), fun i hi => ?_, fun i hi => ?_⟩
  · rw [hne _ (by omega)]
    by_cases e : i = k
    · rw [if_pos e]; exact h.c0 i hi
    · rw [if_neg e]; exact h.c0 i hi
  · by_cases e : i = k
    · subst e; rw [if_pos rfl]; exact World.cell?_setCell_same w _ _ (h.c1 i hi)
    · rw [if_neg e, hne _ (by omega)]; exact h.c1 i hi
  · rw [hne _ (by omega)]; exact h.c2 i hi
  · by_cases e : i = k
    · rw [if_pos e]; exact ⟨(h.ok i hi).1, hs⟩
    · rw [if_neg e]; exact h.ok i hi
  · have ho : Only [b] w (w.setCell ⟨b, off + k * 3 + 1, none⟩ (.int .i64 s)) := (Only.refl _ _).set _ _
    have hr := (h.rd i hi).only ho (fun c hc hc2 => by rw [List.mem_singleton] at hc2; subst hc2; exact hbF i hi hc)
    by_cases e : i = k
    · rw [if_pos e]; exact hr
    · rw [if_neg e]; exact hr
theorem RRows.setNear {k : Nat} {ys : List ByteArray} (h : RRows w b off n V cur F) (hb : b < w.heap.size) (hbF : b ∉ F k) (hap : ∀ i, i < n → i ≠ k → ∀ c ∈ F i, c ∉ F k) (hk : k < n) (hs : Sl fStr.cod w' (V k) ys (F k)) (ho : Only (F k) w w') :
    RRows w' b off n V (fun i => if i = k then ⟨(cur i).id, (cur i).level, ys⟩ else cur i) F := by
  have hbk := ho.block b hb hbF
  have hc : ∀ p, w'.cell? ⟨b, p, none⟩ = w.cell? ⟨b, p, none⟩ := fun p => World.cell?_of_block (a := ⟨b, p, none⟩) hbk
  have hz : ∀ p, w'.frozen? ⟨b, p, none⟩ = w.frozen? ⟨b, p, none⟩ := fun p => World.frozen?_of_block (a := ⟨b, p, none⟩) hbk
  refine ⟨fun i hi => ?_, fun i hi => ?_, fun i hi => (hc _).trans (h.c2 i hi), fun i hi j hj => (hz _).trans (h.z i hi j hj), fun i hi => ?_, fun i hi => ?_⟩
  · rw [hc]; by_cases e : i = k
    · rw [if_pos e]; exact h.c0 i hi
    · rw [if_neg e]; exact h.c0 i hi
  · rw [hc]; by_cases e : i = k
    · rw [if_pos e]; exact h.c1 i hi
    · rw [if_neg e]; exact h.c1 i hi
  · by_cases e : i = k
    · rw [if_pos e]; exact h.ok i hi
    · rw [if_neg e]; exact h.ok i hi
  · by_cases e : i = k
    · subst e; rw [if_pos rfl]; exact hs
    · rw [if_neg e]; exact (h.rd i hi).only ho (hap i hi e)
/-- One region of a slice. -/
theorem Sl.reg {k : Nat} (h : Sl cRegion w (.slice A len cap) xs fp) (hk : k < xs.length) :
    ∃ b off vk fk, A = some ⟨b, off, none⟩ ∧ w.cell? ⟨b, off + k * 3, none⟩ = some (.string xs[k].id) ∧ w.cell? ⟨b, off + k * 3 + 1, none⟩ = some (.int .i64 xs[k].level) ∧ w.cell? ⟨b, off + k * 3 + 2, none⟩ = some vk ∧ Sl fStr.cod w vk xs[k].near fk ∧ b ∈ fp ∧ (∀ c ∈ fk, c ∈ fp) ∧ fStr.ok xs[k].id ∧ fInt.ok xs[k].level := by
  obtain ⟨b, off, V, F, hA, hb, hfp, hr⟩ := h.regs (by omega)
  have e : xs.getD k rg0 = xs[k] := by simp [List.getD_eq_getElem?_getD, hk]
  have h0 := hr.c0 k hk
  have h1 := hr.c1 k hk
  have h3 := hr.rd k hk
  have h4 := hr.ok k hk
  rw [e] at h0 h1 h3 h4
  exact ⟨b, off, V k, F k, hA, h0, h1, hr.c2 k hk, h3, by rw [hfp]; simp, fun c hc => by rw [hfp]; exact List.mem_cons_of_mem _ (List.mem_flatMap.2 ⟨k, by simpa using hk, hc⟩), h4.1, h4.2⟩
end
def totRegion (x : DRegion) : Nat := x.id.size + totStringS x.near
def totRegionS (xs : List DRegion) : Nat := xs.length + (xs.map totRegion).sum
theorem totRegionS_mem {xs : List DRegion} {r : DRegion} (h : r ∈ xs) : totRegion r ≤ totRegionS xs := by
  unfold totRegionS
  have : totRegion r ≤ (xs.map totRegion).sum := by
    obtain ⟨i, hi, rfl⟩ := List.getElem_of_mem h
    have h1 := sum_take_step_ totRegion xs i hi
    have h2 : ((xs.take (i + 1)).map totRegion).sum ≤ (xs.map totRegion).sum := by
      have h3 := congrArg (fun l => (l.map totRegion).sum) (List.take_append_drop (i + 1) xs)
      simp only [List.map_append, List.sum_append] at h3
      omega
    omega
  omega
set_option maxRecDepth 100000 in
set_option maxHeartbeats 2000000 in
theorem szRegion_any (x : DRegion) (v : Value) (fp : List Nat) (left : Int) (w : World) (hx : Sl fStr.cod w v x.near fp) (hok : fStr.ok x.id) (h0 : 0 ≤ left) (h1 : left ≤ 1048576) :
    Calls Tryz.prog 26 #[.agg #[.string x.id, .int .i64 x.level, v], .int .i64 left] w fun e w' => SzR left (totRegion x) w e w' := by
  obtain ⟨A, cap, rfl, hlen, hcap⟩ := hx.form
  have hsz : x.id.size ≤ 9223372036854775807 := hok
  have hB : Below w.heap.size w (w.alloc (.cells #[.string x.id, .int .i64 x.level, .slice A x.near.length cap] 56)) := (Below.refl _ _).alloc (Nat.le_refl _) _
  have hx2 := hx.below' hB
  by_cases hl : left - (x.id.size : Int) < 0
  · go_enter Tryz.func26, Tryz.ntmps26
    go_wp2
    go_ret
    exact .no hB
  · go_enter Tryz.func26, Tryz.ntmps26
    go_wp2_with fail
    refine (szStringS_any _ _ _ _ _ hx2 (by omega) (by omega)).mono ?_
    rintro e w2 ⟨q, rfl, hq, hb2⟩
    have hbb := hB.trans (hb2.mono hB.size)
    by_cases hneg : q < 0
    · go_wp2
      go_ret
      exact .no hbb
    · have hq2 : 0 ≤ q ∧ q + (totStringS x.near : Nat) = left - (x.id.size : Int) := by
        rcases hq with h | h
        · omega
        · exact h
      have HQ := Lib.hid hq2.2
      clear hq hq2
      go_wp2
      go_ret
      exact .yes (by omega) (by have := HQ.out; unfold totRegion; omega) hbb
set_option maxRecDepth 100000 in
set_option maxHeartbeats 2000000 in
theorem szRegionS_any (v : Value) (xs : List DRegion) (fp : List Nat) (left : Int) (w : World) (hx : Sl cRegion w v xs fp) (h0 : 0 ≤ left) (h1 : left ≤ 1048576) :
    Calls Tryz.prog 5 #[v, .int .i64 left] w fun e w' => SzR left (totRegionS xs) w e w' := by
  obtain ⟨A, cap, rfl, hlen, hcap⟩ := hx.form
  by_cases hl : left - (xs.length : Int) < 0
  · go_enter Tryz.func5, Tryz.ntmps5
    go_wp2
    go_ret
    exact .no (Below.refl _ _)
  · go_enter Tryz.func5, Tryz.ntmps5
    go_wp2
    go_loopw [1, 5] (fun l i wr => ∃ k : Nat, k ≤ xs.length ∧ i = .int .i64 k ∧ Below w.heap.size w wr ∧ ∃ r : Int, l = .int .i64 r ∧ 0 ≤ r ∧ r + (xs.length + ((xs.take k).map totRegion).sum : Nat) = left) (fun _ i _ => xs.length - (intOf i).toNat)
    case atStart => exact ⟨0, Nat.zero_le _, rfl, Below.refl _ _, _, rfl, by omega, by simp⟩
    case round =>
      obtain ⟨k, hk, rfl, hb, r, rfl, hr0, hr⟩ := hrel
      have HR := Lib.hid hr
      clear hr
      have hr1 : r ≤ 1048576 := by have := HR.out; omega
      by_cases hlt : k < xs.length
      · obtain ⟨b, off, vk, fk, rfl, hc0, hc1, hc2, hs0, _, _, hok, _⟩ := (hx.below' hb).reg hlt
        obtain ⟨A1, cap1, rfl, _, _⟩ := hs0.form
        go_wp2_with fail
        refine (szRegion_any xs[k] _ _ r _ hs0 hok hr0 hr1).mono ?_
        rintro e w2 ⟨q, rfl, hq, hb2⟩
        have hbb := hb.trans (hb2.mono hb.size)
        by_cases hneg : q < 0
        · go_wp2
          go_ret
          exact .no hbb
        · have hq2 : 0 ≤ q ∧ q + (totRegion xs[k] : Nat) = r := by
            rcases hq with h | h
            · omega
            · exact h
          have HQ := Lib.hid hq2.2
          clear hq hq2 hc0 hc1 hc2
          go_wp2
          go_roundw
          case rel => exact ⟨k + 1, by omega, by go_num, hbb, _, rfl, by omega, by have := HR.out; have := HQ.out; have hst := sum_take_step_ totRegion xs k hlt; omega⟩
          case measure => simp [intOf]; omega
      · go_wp2
        go_ret
        exact .yes hr0 (by have := HR.out; rw [List.take_of_length_le (by omega)] at this; unfold totRegionS; exact this) hb
set_option maxRecDepth 100000 in
set_option maxHeartbeats 2000000 in
theorem eqRegion_any (x : DRegion) (v v' : Value) (fp fp' : List Nat) (w : World) (hx : Sl fStr.cod w v x.near fp) (hy : Sl fStr.cod w v' x.near fp') :
    Calls Tryz.prog 39 #[.agg #[.string x.id, .int .i64 x.level, v], .agg #[.string x.id, .int .i64 x.level, v']] w fun e w' => YesR w e w' := by
  obtain ⟨A, cap, rfl, hlen, hcap⟩ := hx.form
  obtain ⟨A', cap', rfl, hlen', hcap'⟩ := hy.form
  have hB : Below w.heap.size w ((w.alloc (.cells #[.string x.id, .int .i64 x.level, .slice A x.near.length cap] 63)).alloc (.cells #[.string x.id, .int .i64 x.level, .slice A' x.near.length cap'] 63)) := ((Below.refl _ _).alloc (Nat.le_refl _) _).alloc (by simp) _
  have hx2 := hx.below' hB
  have hy2 := hy.below' hB
  go_enter Tryz.func39, Tryz.ntmps39
  go_wp2_with fail
  refine (eqStringS_any _ _ _ _ _ _ hx2 hy2).mono ?_
  rintro e w1 ⟨rfl, hb⟩
  go_wp2
  go_ret
  exact ⟨rfl, hB.trans (hb.mono hB.size)⟩
set_option maxRecDepth 100000 in
set_option maxHeartbeats 4000000 in
theorem eqRegionS_any (v v' : Value) (xs : List DRegion) (fp fp' : List Nat) (w : World) (hx : Sl cRegion w v xs fp) (hy : Sl cRegion w v' xs fp') :
    Calls Tryz.prog 10 #[v, v'] w fun e w' => YesR w e w' := by
  obtain ⟨A, cap, rfl, hlen, hcap⟩ := hx.form
  obtain ⟨A', cap', rfl, hlen', hcap'⟩ := hy.form
  go_enter Tryz.func10, Tryz.ntmps10
  go_wp2
  go_loopw [5] (fun i wr => ∃ k : Nat, k ≤ xs.length ∧ i = .int .i64 k ∧ Below w.heap.size w wr) (fun i _ => xs.length - (intOf i).toNat)
  case atStart => exact ⟨0, Nat.zero_le _, rfl, Below.refl _ _⟩
  case round =>
    obtain ⟨k, hk, rfl, hb⟩ := hrel
    by_cases hlt : k < xs.length
    · obtain ⟨b, off, vk, fk, rfl, hc0, hc1, hc2, hs0, _⟩ := (hx.below' hb).reg hlt
      obtain ⟨b', off', vk', fk', rfl, hd0, hd1, hd2, hs1, _⟩ := (hy.below' hb).reg hlt
      obtain ⟨A1, cap1, rfl, _, _⟩ := hs0.form
      obtain ⟨A2, cap2, rfl, _, _⟩ := hs1.form
      go_wp2
      have ghc0 := cell_regrown hc0
      have ghc1 := cell_regrown hc1
      have ghc2 := cell_regrown hc2
      have ghd0 := cell_regrown hd0
      have ghd1 := cell_regrown hd1
      have ghd2 := cell_regrown hd2
      refine wp_region_mix (C := fun w' => ∃ p : Regrown, w' = Go.Sort.grow (redrawn wr p.d) p.os) [true, true, true, true, true, true, true, true, false, true] (by kernel_rfl) (by kernel_rfl) (by kernel_rfl) (fun _ _ d _ _ h => by cases d <;> exact h) (regrown_of_below (Below.drew (Below.refl _ _))) ?_
      have hS0 : Below (wr.heap.size) wr wr.drew := Below.drew (Below.refl _ _)
      refine wpMix_pure (by kernel_rfl) (fun K hK => ?_); go_big_quiet_op; refine hK _ ?_; clear hK K
      refine wpMix_pure (by kernel_rfl) (fun K hK => ?_); go_big_quiet_op; refine hK _ ?_; clear hK K
      refine wpMix_pure (by kernel_rfl) (fun K hK => ?_); go_big_quiet_op; refine hK _ ?_; clear hK K
      refine wpMix_pure (by kernel_rfl) (fun K hK => ?_); go_big_quiet_op; refine hK _ ?_; clear hK K
      refine wpMix_pure (by kernel_rfl) (fun K hK => ?_); go_big_quiet_op; refine hK _ ?_; clear hK K
      refine wpMix_pure (by kernel_rfl) (fun K hK => ?_); go_big_quiet_op; refine hK _ ?_; clear hK K
      refine wpMix_pure (by kernel_rfl) (fun K hK => ?_); go_big_quiet_op; refine hK _ ?_; clear hK K
      refine wpMix_pure (by kernel_rfl) (fun K hK => ?_); go_big_quiet_op; refine hK _ ?_; clear hK K
      refine wpMix_act (by kernel_rfl) (fun K hK => ?_)
      go_big_op
      refine (eqRegion_any xs[k] _ _ _ _ _ (hs0.below' hS0) (hs1.below' hS0)).mono ?_
      rintro e wr1 ⟨rfl, hbr1⟩
      have hbr1S : Below (wr.heap.size) wr wr1 := hS0.trans (hbr1.mono hS0.size)
      refine hK _ _ (regrown_of_below hbr1S) ?_
      clear hK K
      refine wpMix_pure (by kernel_rfl) (fun K hK => ?_); go_big_quiet_op; refine hK _ ?_; clear hK K
      refine wpMix_nil ?_
      have hbb := hb.trans (hbr1S.mono hb.size)
      go_wp2
      go_roundw
      case rel => exact ⟨k + 1, by omega, by go_num, hbb⟩
      case measure => simp [intOf]; omega
    · go_wp2
      go_ret
      exact ⟨rfl, hb⟩

theorem Only.setIn {fp : List Nat} {w w' : World} {g : Nat} (h : Only fp w w') (hg : g ∈ fp) (o : Nat) (u : Value) : Only fp w (w'.setCell ⟨g, o, none⟩ u) :=
  ⟨h.os, h.tape, h.output, by simpa [World.setCell] using h.size, fun i hi hn => (Below.heap_setCell w' ⟨g, o, none⟩ u i (fun e => hn (by rw [e]; exact hg))).trans (h.block i hi hn)⟩
theorem three_mid (w : World) (o1 o3 : Obj) (cs : Array Value) (T : TypeId) (j : Nat) : (((w.alloc o1).alloc (.cells cs T)).alloc o3).cell? ⟨w.heap.size + 1, j, none⟩ = cs[j]? ∧ (((w.alloc o1).alloc (.cells cs T)).alloc o3).frozen? ⟨w.heap.size + 1, j, none⟩ = false := by
  have hb := (Below.refl ((w.alloc o1).alloc (.cells cs T)).heap.size ((w.alloc o1).alloc (.cells cs T))).alloc (Nat.le_refl _) o3
  have hlt : w.heap.size + 1 < ((w.alloc o1).alloc (.cells cs T)).heap.size := by rw [World.size_alloc, World.size_alloc]; omega
  have h2 : ((w.alloc o1).alloc (.cells cs T)).cell? ⟨(w.alloc o1).heap.size, j, none⟩ = cs[j]? := by rw [World.cell?_alloc_at _ _ _ _ rfl]
  have h3 : ((w.alloc o1).alloc (.cells cs T)).frozen? ⟨(w.alloc o1).heap.size, j, none⟩ = false := by rw [World.frozen?_alloc_at _ _ _ _ rfl]
  rw [World.size_alloc] at h2 h3
  exact ⟨(hb.cell (p := ⟨w.heap.size + 1, j, none⟩) hlt).trans h2, (hb.frozen (p := ⟨w.heap.size + 1, j, none⟩) hlt).trans h3⟩
theorem three_top (w : World) (o1 o2 : Obj) (cs : Array Value) (T : TypeId) (j : Nat) : (((w.alloc o1).alloc o2).alloc (.cells cs T)).cell? ⟨w.heap.size + 1 + 1, j, none⟩ = cs[j]? ∧ (((w.alloc o1).alloc o2).alloc (.cells cs T)).frozen? ⟨w.heap.size + 1 + 1, j, none⟩ = false := by
  have h2 : (((w.alloc o1).alloc o2).alloc (.cells cs T)).cell? ⟨((w.alloc o1).alloc o2).heap.size, j, none⟩ = cs[j]? := by rw [World.cell?_alloc_at _ _ _ _ rfl]
  have h3 : (((w.alloc o1).alloc o2).alloc (.cells cs T)).frozen? ⟨((w.alloc o1).alloc o2).heap.size, j, none⟩ = false := by rw [World.frozen?_alloc_at _ _ _ _ rfl]
  rw [World.size_alloc, World.size_alloc] at h2 h3
  exact ⟨h2, h3⟩
theorem hit_cellG {w : World} {p : Addr} {x : Value} (h : (w.cell? p).isSome = true) : (w.setCell p x).cell? p = some x := by
  obtain ⟨v, hv⟩ := Option.isSome_iff_exists.1 h
  exact World.cell?_setCell_same w p x hv
set_option maxRecDepth 100000 in
set_option maxHeartbeats 4000000 in
theorem toRegion_any (x : DRegion) (v : Value) (fp : List Nat) (w : World) (hx : Sl fStr.cod w v x.near fp) (hl : x.near.length ≤ 1048576) :
    Calls Tryz.prog 34 #[.agg #[.string x.id, .int .i64 x.level, v]] w fun e w' => ∃ A c, e = .returned (.agg #[.string x.id, .int .i64 x.level, .slice A x.near.length c]) ∧ New fStr.cod w (.slice A x.near.length c) x.near w' := by
  obtain ⟨A, cap, rfl, hlen, hcap⟩ := hx.form
  have hB : Below w.heap.size w (((w.alloc (.cells #[.string x.id, .int .i64 x.level, .slice A x.near.length cap] 56)).alloc (.cells #[.string ⟨#[]⟩, .int .i64 0, .slice none 0 0] 63)).alloc (.cells #[.string x.id, .int .i64 x.level, .slice none 0 0] 63)) := (((Below.refl _ _).alloc (Nat.le_refl _) _).alloc (by simp) _).alloc (by simp; omega) _
  have hx2 := hx.below' hB
  have d0 : (((w.alloc (.cells #[.string x.id, .int .i64 x.level, .slice A x.near.length cap] 56)).alloc (.cells #[.string ⟨#[]⟩, .int .i64 0, .slice none 0 0] 63)).alloc (.cells #[.string x.id, .int .i64 x.level, .slice none 0 0] 63)).cell? ⟨w.heap.size + 1, 0, none⟩ = some (.string ⟨#[]⟩) := (three_mid _ _ _ _ _ _).1
  have d1 : (((w.alloc (.cells #[.string x.id, .int .i64 x.level, .slice A x.near.length cap] 56)).alloc (.cells #[.string ⟨#[]⟩, .int .i64 0, .slice none 0 0] 63)).alloc (.cells #[.string x.id, .int .i64 x.level, .slice none 0 0] 63)).cell? ⟨w.heap.size + 1, 1, none⟩ = some (.int .i64 0) := (three_mid _ _ _ _ _ _).1
  have d2 : (((w.alloc (.cells #[.string x.id, .int .i64 x.level, .slice A x.near.length cap] 56)).alloc (.cells #[.string ⟨#[]⟩, .int .i64 0, .slice none 0 0] 63)).alloc (.cells #[.string x.id, .int .i64 x.level, .slice none 0 0] 63)).cell? ⟨w.heap.size + 1, 2, none⟩ = some (.slice none 0 0) := (three_mid _ _ _ _ _ _).1
  have e0 : (((w.alloc (.cells #[.string x.id, .int .i64 x.level, .slice A x.near.length cap] 56)).alloc (.cells #[.string ⟨#[]⟩, .int .i64 0, .slice none 0 0] 63)).alloc (.cells #[.string x.id, .int .i64 x.level, .slice none 0 0] 63)).cell? ⟨w.heap.size + 1 + 1, 0, none⟩ = some (.string x.id) := (three_top _ _ _ _ _ _).1
  have e1 : (((w.alloc (.cells #[.string x.id, .int .i64 x.level, .slice A x.near.length cap] 56)).alloc (.cells #[.string ⟨#[]⟩, .int .i64 0, .slice none 0 0] 63)).alloc (.cells #[.string x.id, .int .i64 x.level, .slice none 0 0] 63)).cell? ⟨w.heap.size + 1 + 1, 1, none⟩ = some (.int .i64 x.level) := (three_top _ _ _ _ _ _).1
  have e2 : (((w.alloc (.cells #[.string x.id, .int .i64 x.level, .slice A x.near.length cap] 56)).alloc (.cells #[.string ⟨#[]⟩, .int .i64 0, .slice none 0 0] 63)).alloc (.cells #[.string x.id, .int .i64 x.level, .slice none 0 0] 63)).cell? ⟨w.heap.size + 1 + 1, 2, none⟩ = some (.slice none 0 0) := (three_top _ _ _ _ _ _).1
  have zz1 : ∀ j, (((w.alloc (.cells #[.string x.id, .int .i64 x.level, .slice A x.near.length cap] 56)).alloc (.cells #[.string ⟨#[]⟩, .int .i64 0, .slice none 0 0] 63)).alloc (.cells #[.string x.id, .int .i64 x.level, .slice none 0 0] 63)).frozen? ⟨w.heap.size + 1, j, none⟩ = false := fun j => (three_mid _ _ _ _ _ _).2
  have zz2 : ∀ j, (((w.alloc (.cells #[.string x.id, .int .i64 x.level, .slice A x.near.length cap] 56)).alloc (.cells #[.string ⟨#[]⟩, .int .i64 0, .slice none 0 0] 63)).alloc (.cells #[.string x.id, .int .i64 x.level, .slice none 0 0] 63)).frozen? ⟨w.heap.size + 1 + 1, j, none⟩ = false := fun j => (three_top _ _ _ _ _ _).2
  have hsz : (((w.alloc (.cells #[.string x.id, .int .i64 x.level, .slice A x.near.length cap] 56)).alloc (.cells #[.string ⟨#[]⟩, .int .i64 0, .slice none 0 0] 63)).alloc (.cells #[.string x.id, .int .i64 x.level, .slice none 0 0] 63)).heap.size = w.heap.size + 1 + 1 + 1 := by simp
  go_enter Tryz.func34, Tryz.ntmps34
  go_wp2_with fail
  generalize (((w.alloc (.cells #[.string x.id, .int .i64 x.level, .slice A x.near.length cap] 56)).alloc (.cells #[.string ⟨#[]⟩, .int .i64 0, .slice none 0 0] 63)).alloc (.cells #[.string x.id, .int .i64 x.level, .slice none 0 0] 63)) = W at *
  refine (toStringS_any _ _ _ _ hx2 hl).mono ?_
  rintro e w2 ⟨y, rfl, ⟨⟨fy, hsy, hlo, hnd⟩, hb⟩⟩
  obtain ⟨Ay, cy, rfl, _, _⟩ := hsy.form
  replace d0 := (hb.cell (p := ⟨w.heap.size + 1, 0, none⟩) (by show w.heap.size + 1 < _; omega)).trans d0
  replace d1 := (hb.cell (p := ⟨w.heap.size + 1, 1, none⟩) (by show w.heap.size + 1 < _; omega)).trans d1
  replace d2 := (hb.cell (p := ⟨w.heap.size + 1, 2, none⟩) (by show w.heap.size + 1 < _; omega)).trans d2
  replace e0 := (hb.cell (p := ⟨w.heap.size + 1 + 1, 0, none⟩) (by show w.heap.size + 1 + 1 < _; omega)).trans e0
  replace e1 := (hb.cell (p := ⟨w.heap.size + 1 + 1, 1, none⟩) (by show w.heap.size + 1 + 1 < _; omega)).trans e1
  replace e2 := (hb.cell (p := ⟨w.heap.size + 1 + 1, 2, none⟩) (by show w.heap.size + 1 + 1 < _; omega)).trans e2
  have z0 := (hb.frozen (p := ⟨w.heap.size + 1, 0, none⟩) (by show w.heap.size + 1 < _; omega)).trans (zz1 0)
  have z1 := (hb.frozen (p := ⟨w.heap.size + 1, 1, none⟩) (by show w.heap.size + 1 < _; omega)).trans (zz1 1)
  have z2 := (hb.frozen (p := ⟨w.heap.size + 1, 2, none⟩) (by show w.heap.size + 1 < _; omega)).trans (zz1 2)
  have y2 := (hb.frozen (p := ⟨w.heap.size + 1 + 1, 2, none⟩) (by show w.heap.size + 1 + 1 < _; omega)).trans (zz2 2)
  have hbb := hB.trans (hb.mono hB.size)
  have hlo2 : ∀ b ∈ fy, w.heap.size + 3 ≤ b := fun b hbm => by have := hlo b hbm; omega
  have hbs := hbb.size
  clear zz1 zz2 hb hlo hx2
  go_wp2
  refine bodyPost_ret (v := .agg #[.string x.id, .int .i64 x.level, .slice Ay x.near.length cy]) (by simp [results, hit_cellG, d0, d1, d2, e0, e1, e2, Tryz.results34, go_sem]) rfl ⟨Ay, cy, rfl, ⟨⟨fy, hsy.only (fp' := [w.heap.size + 1, w.heap.size + 1 + 1]) ?_ ?_, fun b hbm => by have := hlo2 b hbm; omega, hnd⟩, ?_⟩⟩
  · repeat (refine Only.setIn ?_ (by simp) _ _)
    exact Only.refl _ _
  · intro b h1 h2
    have := hlo2 b h1
    simp at h2
    omega
  · exact ((((hbb.setCell (show w.heap.size ≤ w.heap.size + 1 + 1 by omega) _).setCell (show w.heap.size ≤ w.heap.size + 1 by omega) _).setCell (show w.heap.size ≤ w.heap.size + 1 by omega) _).setCell (show w.heap.size ≤ w.heap.size + 1 by omega) _)

/-- A row of regions that the call fills one by one. -/
def RSt (w : World) (g : Nat) (T : TypeId) (xs : List DRegion) (k : Nat) : Prop :=
  ∃ (V : Nat → Value) (F : Nat → List Nat), Fill w g g T 3 xs.length ((List.range k).flatMap fun i => [.string (xs.getD i rg0).id, .int .i64 (xs.getD i rg0).level, V i]) ∧ RRows w g 0 k V (fun i => xs.getD i rg0) F ∧ ((List.range k).flatMap F).Nodup ∧ (∀ c ∈ (List.range k).flatMap F, g < c ∧ c < w.heap.size)
theorem RSt.start (w : World) (T : TypeId) (z : Array Value) (xs : List DRegion) (hn : xs.length ≤ 9223372036854775807) : RSt (w.alloc (.cells (madeCells z (xs.length * 3)) T)) w.heap.size T xs 0 :=
  ⟨fun _ => undef, fun _ => [], by simpa using Fill.start w T 3 xs.length z hn, ⟨fun _ h => absurd h (Nat.not_lt_zero _), fun _ h => absurd h (Nat.not_lt_zero _), fun _ h => absurd h (Nat.not_lt_zero _), fun _ h => absurd h (Nat.not_lt_zero _), fun _ h => absurd h (Nat.not_lt_zero _), fun _ h => absurd h (Nat.not_lt_zero _)⟩, by simp, by simp⟩
section
variable {w w' : World} {g : Nat} {T : TypeId} {xs : List DRegion} {k : Nat}
theorem RSt.lt (h : RSt w g T xs k) : g < w.heap.size := by
  obtain ⟨V, F, h1, _⟩ := h
  exact h1.lt
theorem RSt.below (h : RSt w g T xs k) (hb : Below w.heap.size w w') : RSt w' g T xs k := by
  obtain ⟨V, F, h1, h2, h4, h5⟩ := h
  exact ⟨V, F, h1.below hb h1.lt, h2.below h1.lt hb, h4, fun c hc => ⟨(h5 c hc).1, Nat.lt_of_lt_of_le (h5 c hc).2 hb.size⟩⟩
theorem RSt.cell (h : RSt w g T xs k) {j : Nat} (hj : j < xs.length * 3) : ∃ u, w.cell? ⟨g, j, none⟩ = some u := by
  obtain ⟨V, F, h1, _⟩ := h
  exact h1.cell hj
theorem RSt.frozen (h : RSt w g T xs k) (j : Nat) : w.frozen? ⟨g, j, none⟩ = false := by
  obtain ⟨V, F, h1, _⟩ := h
  exact h1.frozen j
theorem RSt.next (h : RSt w g T xs k) (hk : k < xs.length) {y : Value} (hok : fStr.ok xs[k].id ∧ fInt.ok xs[k].level) (hn : New fStr.cod w y xs[k].near w') :
    RSt (((w'.setCell ⟨g, k * 3, none⟩ (.string xs[k].id)).setCell ⟨g, k * 3 + 1, none⟩ (.int .i64 xs[k].level)).setCell ⟨g, k * 3 + 2, none⟩ y) g T xs (k + 1) := by
  have hg := h.lt
  obtain ⟨V, F, h1, h2, h4, h5⟩ := h
  obtain ⟨⟨f, hs, hlo, hnd⟩, hb⟩ := hn
  generalize hW : ((w'.setCell ⟨g, k * 3, none⟩ (.string xs[k].id)).setCell ⟨g, k * 3 + 1, none⟩ (.int .i64 xs[k].level)).setCell ⟨g, k * 3 + 2, none⟩ y = W
  have ho : Only [g] w' W := by rw [← hW]; exact (((Only.refl _ _).set _ _).set _ _).set _ _
  have hgd : xs.getD k rg0 = xs[k] := by simp [List.getD_eq_getElem?_getD, hk]
  have hne : ∀ c, g < c → c ∉ [g] := fun c hc hm => by rw [List.mem_singleton] at hm; omega
  have em : (List.range (k + 1)).flatMap (fun i => [Value.string (xs.getD i rg0).id, Value.int .i64 (xs.getD i rg0).level, (fun i => if i = k then y else V i) i]) = (List.range k).flatMap (fun i => [Value.string (xs.getD i rg0).id, Value.int .i64 (xs.getD i rg0).level, V i]) ++ [.string xs[k].id] ++ [.int .i64 xs[k].level] ++ [y] := by
    rw [List.range_succ, List.flatMap_append, List.flatMap_cons, List.flatMap_nil, List.append_nil]
    have e0 : (List.range k).flatMap (fun i => [Value.string (xs.getD i rg0).id, Value.int .i64 (xs.getD i rg0).level, (fun i => if i = k then y else V i) i]) = (List.range k).flatMap (fun i => [Value.string (xs.getD i rg0).id, Value.int .i64 (xs.getD i rg0).level, V i]) := by
      rw [List.flatMap_def, List.flatMap_def]
      congr 1
      exact List.map_congr_left (fun i hi => by
        have : i ≠ k := by have : i < k := by simpa using hi
                           omega
        simp only [if_neg this])
    rw [e0, hgd]
    simp
  have ef : (List.range (k + 1)).flatMap (fun i => if i = k then f else F i) = (List.range k).flatMap F ++ f := by
    rw [List.range_succ, List.flatMap_append, List.flatMap_cons, List.flatMap_nil, if_pos rfl, List.append_nil]
    congr 1
    rw [List.flatMap_def, List.flatMap_def]
    congr 1
    exact List.map_congr_left (fun i hi => if_neg (by have : i < k := by simpa using hi
                                                      omega))
  have hf2 : Fill w' g g T 3 xs.length ((List.range k).flatMap fun i => [.string (xs.getD i rg0).id, .int .i64 (xs.getD i rg0).level, V i]) := h1.below hb hg
  have hl : ((List.range k).flatMap fun i => [Value.string (xs.getD i rg0).id, Value.int .i64 (xs.getD i rg0).level, V i]).length = k * 3 := by
    rw [flat_len _ 3 _ (fun _ _ => rfl)]; simp
  have hgw : g < w'.heap.size := Nat.lt_of_lt_of_le hg hb.size
  have h2' := h2.below hg hb
  have hk3 : k * 3 + 3 ≤ xs.length * 3 := by omega
  have p1 := hf2.put_at (p := k * 3) hl.symm (by omega) (.string xs[k].id)
  have p2 := p1.put_at (p := k * 3 + 1) (by rw [List.length_append, hl]; rfl) (by omega) (.int .i64 xs[k].level)
  have p3 := p2.put_at (p := k * 3 + 2) (by rw [List.length_append, List.length_append, hl]; rfl) (by omega) y
  rw [hW] at p3
  have hcell : ∀ j, j ≠ k * 3 → j ≠ k * 3 + 1 → j ≠ k * 3 + 2 → W.cell? ⟨g, j, none⟩ = w'.cell? ⟨g, j, none⟩ := fun j a1 a2 a3 => by
    rw [← hW, World.cell?_setCell_other _ _ _ _ (fun e => by injection e with _ e _; exact a3 e.symm), World.cell?_setCell_other _ _ _ _ (fun e => by injection e with _ e _; exact a2 e.symm), World.cell?_setCell_other _ _ _ _ (fun e => by injection e with _ e _; exact a1 e.symm)]
  obtain ⟨zs, hz⟩ := p3
  have q : ∀ j, j < 3 → W.cell? ⟨g, k * 3 + j, none⟩ = [Value.string xs[k].id, Value.int .i64 xs[k].level, y][j]? := fun j hj => by
    rw [hz.cellAt _ (by omega), List.append_assoc, List.append_assoc, List.append_assoc, List.getElem?_append_right (by rw [hl]; omega), hl, show k * 3 + j - k * 3 = j by omega]
    match j, hj with
    | 0, _ => rfl
    | 1, _ => rfl
    | 2, _ => rfl
  refine ⟨fun i => if i = k then y else V i, fun i => if i = k then f else F i, ?_, ⟨fun i hi => ?_, fun i hi => ?_, fun i hi => ?_, fun i hi j hj => hz.frozenAt _, fun i hi => ?_, fun i hi => ?_⟩, ?_, ?_⟩
  · rw [em]; exact ⟨zs, hz⟩
  · rw [Nat.zero_add]
    by_cases e : i = k
    · subst e; rw [hgd]; exact q 0 (by omega)
    · rw [hcell _ (by omega) (by omega) (by omega)]
      have := h2'.c0 i (by omega); rw [Nat.zero_add] at this; exact this
  · rw [Nat.zero_add]
    by_cases e : i = k
    · subst e; rw [hgd]; exact q 1 (by omega)
    · rw [hcell _ (by omega) (by omega) (by omega)]
      have := h2'.c1 i (by omega); rw [Nat.zero_add] at this; exact this
  · rw [Nat.zero_add]
    by_cases e : i = k
    · subst e; rw [if_pos rfl]; exact q 2 (by omega)
    · rw [hcell _ (by omega) (by omega) (by omega), if_neg e]
      have := h2'.c2 i (by omega); rw [Nat.zero_add] at this; exact this
  · by_cases e : i = k
    · subst e; rw [hgd]; exact hok
    · exact h2.ok i (by omega)
  · by_cases e : i = k
    · subst e; rw [if_pos rfl, if_pos rfl, hgd]
      exact hs.only ho (fun b hb' => hne b (by have := hlo b hb'; omega))
    · rw [if_neg e, if_neg e]
      exact (h2'.rd i (by omega)).only ho (fun b hb' => hne b (h5 b (List.mem_flatMap.2 ⟨i, by simp; omega, hb'⟩)).1)
  · rw [ef, List.nodup_append]
    exact ⟨h4, hnd, fun a ha b hb' e => by have := (h5 a ha).2; have := hlo b hb'; omega⟩
  · rw [ef]
    intro c hc
    have hsz : W.heap.size = w'.heap.size := by rw [← hW]; simp
    rcases List.mem_append.1 hc with hc | hc
    · exact ⟨(h5 c hc).1, by rw [hsz]; exact Nat.lt_of_lt_of_le (h5 c hc).2 hb.size⟩
    · exact ⟨by have := hlo c hc; omega, by rw [hsz]; exact hs.lt c hc⟩
theorem RSt.done (h : RSt w g T xs xs.length) (hm : xs.length ≤ maxLen) : ∃ fp, Sl cRegion w (.slice (some ⟨g, 0, none⟩) xs.length xs.length) xs fp ∧ (∀ b ∈ fp, g ≤ b) ∧ fp.Nodup := by
  have hg := h.lt
  obtain ⟨V, F, h1, h2, h4, h5⟩ := h
  refine ⟨_, h2.sl hg rfl (fun i hi => by simp [List.getD_eq_getElem?_getD, hi]) (Nat.le_refl _) hm, ?_, ?_⟩
  · intro b hb
    rcases List.mem_cons.1 hb with rfl | hb
    · exact Nat.le_refl _
    · exact Nat.le_of_lt (h5 b hb).1
  · rw [List.nodup_cons]
    exact ⟨fun hm' => Nat.lt_irrefl _ (h5 _ hm').1, h4⟩
end
theorem infoRegionS : (Tryz.prog.info? 63).map (fun i => (i.zero, i.size, i.bytes)) = some (some (.agg #[.string ⟨#[]⟩, .int .i64 0, .slice none 0 0]), 3, 48) := by kernel_rfl
set_option maxRecDepth 100000 in
set_option maxHeartbeats 4000000 in
theorem toRegionS_any (v : Value) (xs : List DRegion) (fp : List Nat) (w : World) (hx : Sl cRegion w v xs fp) (h1 : totRegionS xs ≤ 1048576) :
    Calls Tryz.prog 7 #[v] w fun e w' => NewR cRegion w xs e w' := by
  obtain ⟨A, cap, rfl, hlen, hcap⟩ := hx.form
  obtain ⟨i0, hi, hz0, hz1, hz2⟩ := info_parts infoRegionS
  have hl1 : xs.length ≤ 1048576 := by unfold totRegionS at h1; omega
  have hmk := fun W => run_make_rowN (P := Tryz.prog) 27 63 i0 _ Tryz.underlying27 hi hz0 .i64 .i64 xs.length xs.length (Nat.le_refl _) (by rw [hz2]; omega) (by omega) W
  rw [hz1] at hmk
  have hrl : ∀ r ∈ xs, r.near.length ≤ 1048576 := fun r hr => by
    have := totRegionS_mem hr
    unfold totRegion totStringS at this
    omega
  clear h1
  go_enter Tryz.func7, Tryz.ntmps7
  go_wp2
  go_loopw [4] (fun i wr => ∃ k : Nat, k ≤ xs.length ∧ i = .int .i64 k ∧ RSt wr w.heap.size 63 xs k ∧ Below w.heap.size w wr) (fun i _ => xs.length - (intOf i).toNat)
  case atStart => exact ⟨0, Nat.zero_le _, rfl, RSt.start w _ _ _ (by omega), (Below.refl _ _).alloc (Nat.le_refl _) _⟩
  case round =>
    obtain ⟨k, hk, rfl, hst, hb⟩ := hrel
    by_cases hlt : k < xs.length
    · obtain ⟨b, off, vk, fk, rfl, hc0, hc1, hc2, hs0, _, _, hok⟩ := (hx.below' hb).reg hlt
      obtain ⟨A1, cap1, rfl, _, _⟩ := hs0.form
      go_wp2_with fail
      refine (toRegion_any xs[k] _ _ _ hs0 (hrl _ (List.getElem_mem hlt))).mono ?_
      rintro e w2 ⟨Ay, cy, rfl, hn⟩
      have hst1 := hst.below hn.below
      obtain ⟨u0, hu0⟩ := hst1.cell (j := k * 3) (by omega)
      obtain ⟨u1, hu1⟩ := hst1.cell (j := k * 3 + 1) (by omega)
      obtain ⟨u2, hu2⟩ := hst1.cell (j := k * 3 + 2) (by omega)
      have hz0' := hst1.frozen (k * 3)
      have hz1' := hst1.frozen (k * 3 + 1)
      have hz2' := hst1.frozen (k * 3 + 2)
      have hst2 := hst.next hlt hok hn
      have hb2 := hb.trans (hn.below.mono hb.size)
      have hb3 : Below w.heap.size w (((w2.setCell ⟨w.heap.size, k * 3, none⟩ (.string xs[k].id)).setCell ⟨w.heap.size, k * 3 + 1, none⟩ (.int .i64 xs[k].level)).setCell ⟨w.heap.size, k * 3 + 2, none⟩ (.slice Ay xs[k].near.length cy)) := ((hb2.setCell (Nat.le_refl _) _).setCell (Nat.le_refl _) _).setCell (Nat.le_refl _) _
      clear hst hst1 hc0 hc1 hc2
      go_wp2
      go_roundw
      case rel => exact ⟨k + 1, by omega, by go_num, hst2, hb3⟩
      case measure => simp [intOf]; omega
    · have hk' : k = xs.length := by omega
      subst hk'
      go_wp2
      go_ret
      exact ⟨_, rfl, hst.done (by unfold maxLen; omega), hb⟩

def Kr (k0 : Int) (ns : List Nat) (i : Nat) : Int := k0 + 2 * (i : Int) + (preS ns i : Int)
def mkReg (k0 : Int) (ns : List Nat) (i : Nat) : DRegion := ⟨mt (Kr k0 ns i), Kr k0 ns i + 1, marksString (Kr k0 ns i + 1 + 1) (ns.getD i 0)⟩
def marksRegion (k0 : Int) (ns : List Nat) : List DRegion := (List.range ns.length).map (mkReg k0 ns)
theorem marksRegion_len (k0 : Int) (ns : List Nat) : (marksRegion k0 ns).length = ns.length := by simp [marksRegion]
theorem marksRegion_get (k0 : Int) (ns : List Nat) (i : Nat) (h : i < (marksRegion k0 ns).length) : (marksRegion k0 ns)[i] = mkReg k0 ns i := by simp [marksRegion]
def lensR (xs : List DRegion) : List Nat := xs.map fun r => r.near.length
set_option maxRecDepth 100000 in
set_option maxHeartbeats 4000000 in
theorem markRegionS_any (v : Value) (xs : List DRegion) (fp : List Nat) (k0 : Int) (w : World) (hx : Sl cRegion w v xs fp) (hnd : fp.Nodup) (h0 : 0 ≤ k0) (h1 : k0 + 2 * (xs.length : Int) + ((lensR xs).sum : Int) ≤ 1000000000000) :
    Calls Tryz.prog 11 #[v, .int .i64 k0] w fun e w' => MarkR cRegion fp w (k0 + 2 * (xs.length : Int) + ((lensR xs).sum : Int)) v (marksRegion k0 (lensR xs)) e w' := by
  obtain ⟨A, cap, rfl, hlen, hcap⟩ := hx.form
  rcases Nat.eq_zero_or_pos xs.length with hz | hz
  · obtain rfl := List.eq_nil_of_length_eq_zero hz
    go_enter Tryz.func11, Tryz.ntmps11
    go_wp2
    go_loop [1, 5] (fun n i => i = .int .i64 0 ∧ n = .int .i64 k0) (fun _ _ => 0)
    case atStart => exact ⟨rfl, rfl⟩
    case round =>
      obtain ⟨rfl, rfl⟩ := hrel
      go_wp2
      go_ret
      exact ⟨ret_int (by simp [lensR]), hx, .refl _ _⟩
  · obtain ⟨b, off, V, F, rfl, hbw, rfl, hr⟩ := hx.regs hz
    obtain ⟨hap1, hap2, hap3⟩ := rows_apart hnd
    obtain ⟨ns, hns⟩ : ∃ ns, ns = lensR xs := ⟨_, rfl⟩
    have hnl : ns.length = xs.length := by rw [hns]; simp [lensR]
    have hng : ∀ k, (h : k < xs.length) → ns[k]? = some xs[k].near.length := fun k h => by rw [hns]; simp [lensR, h]
    rw [← hns] at h1 ⊢
    have hsum := fun k => preS_le ns k
    clear hns
    go_enter Tryz.func11, Tryz.ntmps11
    go_wp2
    go_loopw [1, 5] (fun n i wr => ∃ k : Nat, k ≤ xs.length ∧ i = .int .i64 k ∧ ∃ q : Int, n = .int .i64 q ∧ 0 ≤ q ∧ Hid (q = Kr k0 ns k) ∧ RRows wr b off xs.length V (fun i => if i < k then mkReg k0 ns i else xs.getD i rg0) F ∧ Only (b :: (List.range xs.length).flatMap F) w wr) (fun _ i _ => xs.length - (intOf i).toNat)
    case atStart => exact ⟨0, Nat.zero_le _, rfl, k0, rfl, h0, by show _ = _; simp [Kr, preS], by simpa using hr, .refl _ _⟩
    case round =>
      obtain ⟨k, hk, rfl, q, rfl, hq0, HQ, hrw, ho⟩ := hrel
      have hbw' : b < wr.heap.size := Nat.lt_of_lt_of_le hbw ho.size
      by_cases hlt : k < xs.length
      · have hrk : xs.getD k rg0 = xs[k] := by simp [List.getD_eq_getElem?_getD, hlt]
        have hnk : ns[k]'(by omega) = xs[k].near.length := by have := hng k hlt; rw [List.getElem?_eq_getElem (by omega)] at this; exact Option.some.inj this
        have hps : preS ns (k + 1) = preS ns k + xs[k].near.length := by rw [preS_succ (by omega), hnk]
        have hgd : ns.getD k 0 = xs[k].near.length := by rw [List.getD_eq_getElem?_getD, hng k hlt]; rfl
        have hq1 : q + 2 + (xs[k].near.length : Int) ≤ 1000000000000 := by have := hsum (k + 1); have := HQ.out; unfold Kr at this; omega
        have HQ2 : Hid (q + 1 + 1 + (xs[k].near.length : Int) = Kr k0 ns (k + 1)) := by show _ = _; have := HQ.out; unfold Kr at *; omega
        have HM : Hid ((⟨mt q, q + 1, marksString (q + 1 + 1) xs[k].near.length⟩ : DRegion) = mkReg k0 ns k) := by show _ = _; unfold mkReg; rw [← HQ.out, hgd]
        have hc0 := hrw.c0 k hlt
        have hz0 := hrw.z k hlt 0 (by omega)
        rw [Nat.add_zero] at hz0
        clear hnk hps hgd
        go_wp2_with fail
        refine (markText_any _ _ (by omega)).mono ?_
        rintro e w0 ⟨rfl, hbm⟩
        have hr0 := hrw.below hbw' hbm
        replace hc0 := (hbm.cell (p := ⟨b, off + k * 3, none⟩) hbw').trans hc0
        replace hz0 := (hbm.frozen (p := ⟨b, off + k * 3, none⟩) hbw').trans hz0
        have ho0 := ho.trans (.of_below hbm)
        have hbw0 : b < w0.heap.size := Nat.lt_of_lt_of_le hbw' hbm.size
        clear hrw ho hbm
        have hr1 := hr0.setId (fun i hi => hap1 i hi) hlt (mt q) (mt_ok _ (by omega))
        have ho1 := ho0.setIn (List.mem_cons_self) (off + k * 3) (.string (mt q))
        have hc1 := hr1.c1 k hlt
        have hz1 := hr1.z k hlt 1 (by omega)
        have hr2 := hr1.setLevel (fun i hi => hap1 i hi) hlt (q + 1) (by show _ ∧ _; omega)
        have ho2 := ho1.setIn (List.mem_cons_self) (off + k * 3 + 1) (.int .i64 (q + 1))
        have hc2 := hr2.c2 k hlt
        have hs2 := hr2.rd k hlt
        have hbw2 : b < ((w0.setCell ⟨b, off + k * 3, none⟩ (.string (mt q))).setCell ⟨b, off + k * 3 + 1, none⟩ (.int .i64 (q + 1))).heap.size := by simpa using hbw0
        simp only [if_true, if_neg (Nat.lt_irrefl k), hrk] at hs2
        clear hr0 hr1 ho0 ho1
        obtain ⟨Ay, cy, hVk, _, _⟩ := hs2.form
        rw [hVk] at hc2 hs2
        have HVK := Lib.hid hVk
        clear hVk
        go_wp2_with fail
        generalize ((w0.setCell ⟨b, off + k * 3, none⟩ (.string (mt q))).setCell ⟨b, off + k * 3 + 1, none⟩ (.int .i64 (q + 1))) = w2 at *
        refine (markStringS_any _ _ _ _ _ hs2 (by omega) (by omega)).mono ?_
        rintro e w3 ⟨rfl, hs3, ho3⟩
        rw [← HVK.out] at hs3
        have hr3 := hr2.setNear hbw2 (hap1 k hlt) (fun i hi hne => hap2 i k hi hlt hne) hlt hs3 ho3
        have ho4 : Only (b :: (List.range xs.length).flatMap F) w w3 := ho2.trans (ho3.sub (fun c hc => List.mem_cons_of_mem _ (List.mem_flatMap.2 ⟨k, by simpa using hlt, hc⟩)))
        have hq2 : 0 ≤ q + 1 + 1 + (xs[k].near.length : Int) := by omega
        clear hs3 ho3 hs2 hc0 hc1 hc2 hz0 hz1 hr2 ho2
        go_wp2
        go_roundw
        case rel =>
          refine ⟨k + 1, by omega, by go_num, _, rfl, hq2, HQ2, hr3.congr (fun i hi => ?_), ho4⟩
          by_cases e1 : i = k
          · subst e1
            simp only [if_true, if_neg (Nat.lt_irrefl i), if_pos (Nat.lt_succ_self i)]
            exact HM.out
          · simp only [if_neg e1]
            by_cases e2 : i < k
            · rw [if_pos e2, if_pos (by omega)]
            · rw [if_neg e2, if_neg (by omega)]
        case measure => simp [intOf]; omega
      · have hke : k = xs.length := by omega
        subst hke
        have hfin : Sl cRegion wr (.slice (some ⟨b, off, none⟩) xs.length cap) (marksRegion k0 ns) (b :: (List.range xs.length).flatMap F) :=
          hrw.sl hbw' ((marksRegion_len _ _).trans hnl) (fun i hi => by rw [marksRegion_get, if_pos (by rw [marksRegion_len] at hi; omega)]) hlen (by unfold maxLen; exact hcap)
        have hpf : preS ns xs.length = ns.sum := preS_full (by omega)
        have HR : Hid (q = k0 + 2 * (xs.length : Int) + (ns.sum : Int)) := by show _ = _; rw [HQ.out]; unfold Kr; rw [hpf]
        clear hrw hpf
        go_wp2
        go_ret
        exact ⟨ret_int HR.out, hfin, ho⟩

end Go.Proofs.YtgnbhcgagdfaiaaGreatDoor

namespace Go.Proofs.YtgnbhcgagdfaiaaGreatDoor
open Go.RowKit
set_option linter.unusedVariables false

/-! ### strings in a list -/
def memS (s : ByteArray) (xs : List ByteArray) : Bool := xs.any fun x => decide (x = s)
def NotS (xs : List ByteArray) (s : ByteArray) (k : Nat) : Prop := ∀ j (hj : j < k) (h : j < xs.length), xs[j] ≠ s
theorem NotS.zero {xs : List ByteArray} {s : ByteArray} : NotS xs s 0 := fun j hj => absurd hj (Nat.not_lt_zero _)
theorem NotS.step {xs : List ByteArray} {s : ByteArray} {k : Nat} (h : k < xs.length) (he : xs[k] ≠ s) (h0 : NotS xs s k) : NotS xs s (k + 1) := by
  intro j hj hl
  by_cases e : j = k
  · subst e; exact he
  · exact h0 j (by omega) hl
theorem NotS.none {xs : List ByteArray} {s : ByteArray} {k : Nat} (h : xs.length ≤ k) (h0 : NotS xs s k) : memS s xs = false := by
  unfold memS
  rw [List.any_eq_false]
  intro x hm
  obtain ⟨j, hj, e⟩ := List.getElem_of_mem hm
  have := h0 j (by omega) hj
  rw [e] at this
  simpa using this
theorem inS {xs : List ByteArray} {s : ByteArray} {k : Nat} (h : k < xs.length) (he : xs[k] = s) : memS s xs = true := by
  unfold memS
  rw [List.any_eq_true]
  exact ⟨xs[k], List.getElem_mem h, by simpa using he⟩
theorem memS_true {xs : List ByteArray} {s : ByteArray} : memS s xs = true ↔ s ∈ xs := by
  unfold memS; rw [List.any_eq_true]
  constructor
  · rintro ⟨x, hx, he⟩
    have he := of_decide_eq_true he
    subst he; exact hx
  · intro h; exact ⟨s, h, decide_eq_true rfl⟩
def memI (n : Int) (xs : List Int) : Bool := xs.any fun x => decide (x = n)
def NotI (xs : List Int) (n : Int) (k : Nat) : Prop := ∀ j (hj : j < k) (h : j < xs.length), xs[j] ≠ n
theorem NotI.zero {xs : List Int} {n : Int} : NotI xs n 0 := fun j hj => absurd hj (Nat.not_lt_zero _)
theorem NotI.step {xs : List Int} {n : Int} {k : Nat} (h : k < xs.length) (he : xs[k] ≠ n) (h0 : NotI xs n k) : NotI xs n (k + 1) := by
  intro j hj hl
  by_cases e : j = k
  · subst e; exact he
  · exact h0 j (by omega) hl
theorem NotI.none {xs : List Int} {n : Int} {k : Nat} (h : xs.length ≤ k) (h0 : NotI xs n k) : memI n xs = false := by
  unfold memI
  rw [List.any_eq_false]
  intro x hm
  obtain ⟨j, hj, e⟩ := List.getElem_of_mem hm
  have := h0 j (by omega) hj
  rw [e] at this
  simpa using this
theorem inI {xs : List Int} {n : Int} {k : Nat} (h : k < xs.length) (he : xs[k] = n) : memI n xs = true := by
  unfold memI
  rw [List.any_eq_true]
  exact ⟨xs[k], List.getElem_mem h, by simpa using he⟩
theorem memI_true {xs : List Int} {n : Int} : memI n xs = true ↔ n ∈ xs := by
  unfold memI; rw [List.any_eq_true]
  constructor
  · rintro ⟨x, hx, he⟩
    have he := of_decide_eq_true he
    subst he; exact hx
  · intro h; exact ⟨n, h, decide_eq_true rfl⟩
set_option maxRecDepth 100000 in
set_option maxHeartbeats 2000000 in
theorem l00Has_any (v : Value) (xs : List Int) (fp : List Nat) (n : Int) (w : World) (hx : Sl fInt.cod w v xs fp) :
    Calls Tryz.prog 30 #[v, .int .i64 n] w fun e w' => e = .returned (.bool (memI n xs)) ∧ w = w' := by
  obtain ⟨A, cap, rfl, hlen, hcap⟩ := hx.form
  go_enter Tryz.func30, Tryz.ntmps30
  go_wp2
  go_loop [5] (fun i => ∃ k : Nat, k ≤ xs.length ∧ i = .int .i64 k ∧ Hid (NotI xs n k)) (fun i => xs.length - (intOf i).toNat)
  case atStart => exact ⟨0, Nat.zero_le _, rfl, NotI.zero⟩
  case round =>
    obtain ⟨k, hk, rfl, H0⟩ := hrel
    by_cases hlt : k < xs.length
    · obtain ⟨b, off, rfl, _, hok, hc, _⟩ := hx.cell1 rfl hlt rfl
      by_cases he : xs[k] = n
      · have HF := Lib.hid (inI hlt he)
        have e6 : (xs[k] == n) = true := by rw [beq_iff_eq]; exact he
        clear he
        go_wp2
        go_ret
        exact ⟨ret_bool HF.out.symm, rfl⟩
      · have HS := Lib.hid (NotI.step hlt he H0.out)
        have e6 : (xs[k] == n) = false := by rw [beq_eq_false_iff_ne]; exact he
        clear he
        go_wp2
        go_round
        case rel => exact ⟨k + 1, by omega, by go_num, HS⟩
        case measure => simp [intOf]; omega
    · have HF := Lib.hid (NotI.none (by omega) H0.out)
      go_wp2
      go_ret
      exact ⟨ret_bool HF.out.symm, rfl⟩
set_option maxRecDepth 100000 in
set_option maxHeartbeats 2000000 in
theorem indexS_any (v : Value) (xs : List ByteArray) (fp : List Nat) (s : ByteArray) (w : World) (hx : Sl fStr.cod w v xs fp) :
    Calls Tryz.prog 133 #[v, .string s] w fun e w' => ∃ r : Int, e = .returned (.int .i64 r) ∧ decide (0 ≤ r) = memS s xs ∧ w = w' := by
  obtain ⟨A, cap, rfl, hlen, hcap⟩ := hx.form
  go_enter Tryz.func133, Tryz.ntmps133
  go_wp2
  go_loop [8] (fun i => ∃ k : Nat, k ≤ xs.length ∧ i = .int .i64 k ∧ Hid (NotS xs s k)) (fun i => xs.length - (intOf i).toNat)
  case atStart => exact ⟨0, Nat.zero_le _, rfl, NotS.zero⟩
  case round =>
    obtain ⟨k, hk, rfl, H0⟩ := hrel
    by_cases hlt : k < xs.length
    · obtain ⟨b, off, rfl, _, hok, hc, _⟩ := hx.cell1 rfl hlt rfl
      by_cases he : xs[k] = s
      · have HF := Lib.hid (inS hlt he)
        have e6 : (s.toList == xs[k].toList) = true := eqS_true.2 he.symm
        clear he
        go_wp2
        go_ret
        exact ⟨_, rfl, by rw [HF.out, decide_eq_true_eq]; omega, rfl⟩
      · have HS := Lib.hid (NotS.step hlt he H0.out)
        have e6 : (s.toList == xs[k].toList) = false := bytes_beq_false (fun e => he e.symm)
        clear he
        go_wp2
        go_round
        case rel => exact ⟨k + 1, by omega, by go_num, HS⟩
        case measure => simp [intOf]; omega
    · have HF := Lib.hid (NotS.none (by omega) H0.out)
      go_wp2
      go_ret
      exact ⟨_, rfl, by rw [HF.out]; rfl, rfl⟩
set_option maxRecDepth 100000 in
set_option maxHeartbeats 2000000 in
theorem containsS_any (v : Value) (xs : List ByteArray) (fp : List Nat) (s : ByteArray) (w : World) (hx : Sl fStr.cod w v xs fp) :
    Calls Tryz.prog 102 #[v, .string s] w fun e w' => e = .returned (.bool (memS s xs)) ∧ w = w' := by
  go_enter Tryz.func102, Tryz.ntmps102
  go_wp2_with fail
  refine (indexS_any v xs fp s w hx).mono ?_
  rintro e w1 ⟨r, rfl, hr, rfl⟩
  have HR := Lib.hid hr
  clear hr
  go_wp2
  go_ret
  exact ⟨ret_bool HR.out, rfl⟩
end Go.Proofs.YtgnbhcgagdfaiaaGreatDoor
