/- Parts of the proof: Tl, TGroup, PGroup, Gr, Bl, Bu, Tw, Ip, Jt, Ju, Tk, Jq. -/
import Derived.Test.YtgnbhcgagdfaiaaGreatDoorG01
import Derived.Test.YtgnbhcgagdfaiaaGreatDoorG06
import Derived.Lib.TrimByte
import Derived.Test.YtgnbhcgagdfaiaaGreatDoorG02
import Derived.Test.YtgnbhcgagdfaiaaGreatDoorG03
import Derived.Lib.Builder
import Derived.Lib.AppendStr
import Derived.Lib.UnsafeStr
import Derived.Lib.MakeNoZero
import Derived.Laws.Externs
import Derived.Lib.SmallJoins
import Derived.Test.YtgnbhcgagdfaiaaGreatDoorG07
import Derived.Sort.LotA
import Derived.Sort.OwnSortedInts
namespace Go.Proofs.YtgnbhcgagdfaiaaGreatDoor
open Go.RowKit
set_option linter.unusedVariables false

/-! ### Tables as lines: plain laws -/
def spN (n : Nat) : List UInt8 := List.replicate n 32
/-- Cell k of a row, empty behind its end. -/
def cellA (r : List ByteArray) (k : Nat) : ByteArray := r[k]?.getD ⟨#[]⟩
/-- The width of column k. -/
def wdN (rows : List (List ByteArray)) (k : Nat) : Nat := rows.foldl (fun m r => max m (cellA r k).size) 0
theorem wdN_snoc {rows : List (List ByteArray)} {i : Nat} (h : i < rows.length) (k : Nat) : wdN (rows.take (i + 1)) k = max (wdN (rows.take i) k) (cellA rows[i] k).size := by
  unfold wdN; rw [List.take_succ_eq_append_getElem h, List.foldl_append]; rfl
theorem foldl_ge (k : Nat) : ∀ (rows : List (List ByteArray)) (a : Nat), a ≤ rows.foldl (fun m r => max m (cellA r k).size) a
  | [], a => Nat.le_refl _
  | r :: rows, a => by rw [List.foldl_cons]; exact Nat.le_trans (Nat.le_max_left _ _) (foldl_ge k rows _)
theorem foldl_mem (k : Nat) : ∀ (rows : List (List ByteArray)) (a : Nat), ∀ r ∈ rows, (cellA r k).size ≤ rows.foldl (fun m r => max m (cellA r k).size) a
  | [], a, r, h => by cases h
  | q :: rows, a, r, h => by
    rw [List.foldl_cons]
    rcases List.mem_cons.1 h with rfl | h
    · exact Nat.le_trans (Nat.le_max_right _ _) (foldl_ge k rows _)
    · exact foldl_mem k rows _ r h
theorem foldl_le {B : Nat} (k : Nat) : ∀ (rows : List (List ByteArray)) (a : Nat), a ≤ B → (∀ r ∈ rows, (cellA r k).size ≤ B) → rows.foldl (fun m r => max m (cellA r k).size) a ≤ B
  | [], a, h, _ => h
  | q :: rows, a, h, h2 => by
    rw [List.foldl_cons]
    exact foldl_le k rows _ (Nat.max_le.2 ⟨h, h2 q (by simp)⟩) (fun r hr => h2 r (by simp [hr]))
theorem wdN_mem {rows : List (List ByteArray)} {r : List ByteArray} (h : r ∈ rows) (k : Nat) : (cellA r k).size ≤ wdN rows k := foldl_mem k rows 0 r h
theorem wdN_le {B : Nat} {rows : List (List ByteArray)} (h : ∀ r ∈ rows, ∀ c ∈ r, c.size ≤ B) (k : Nat) : wdN rows k ≤ B := by
  refine foldl_le k rows 0 (Nat.zero_le _) fun r hr => ?_
  unfold cellA
  cases hk : r[k]? with
  | none => show (ByteArray.mk #[]).size ≤ B; exact Nat.zero_le _
  | some c => exact h r hr c (List.mem_of_getElem? hk)
/-- The widths while row i is being looked at, its cells below k done. -/
def wdAt (rows : List (List ByteArray)) (i k j : Nat) : Nat := if j < k then wdN (rows.take (i + 1)) j else wdN (rows.take i) j
theorem wdAt_zero (rows : List (List ByteArray)) (i j : Nat) : wdAt rows i 0 j = wdN (rows.take i) j := by unfold wdAt; rw [if_neg (by omega)]
theorem wdAt_full {rows : List (List ByteArray)} {i : Nat} (h : i < rows.length) {k : Nat} (hk : rows[i].length ≤ k) (j : Nat) : wdAt rows i k j = wdN (rows.take (i + 1)) j := by
  unfold wdAt
  split
  · rfl
  · rename_i hj
    rw [wdN_snoc h]
    have : cellA rows[i] j = ⟨#[]⟩ := by unfold cellA; rw [List.getElem?_eq_none (by omega)]; rfl
    rw [this]
    show _ = max _ 0
    omega
theorem wdAt_step {rows : List (List ByteArray)} {i : Nat} (h : i < rows.length) (k j : Nat) : wdAt rows i (k + 1) j = if j = k then max (wdAt rows i k j) (cellA rows[i] k).size else wdAt rows i k j := by
  unfold wdAt
  by_cases e : j = k
  · subst e
    rw [if_pos (by omega), if_pos rfl, if_neg (by omega), wdN_snoc h]
  · rw [if_neg e]
    by_cases hj : j < k
    · rw [if_pos hj, if_pos (by omega)]
    · rw [if_neg hj, if_neg (by omega)]
theorem cellA_at {r : List ByteArray} {k : Nat} (h : k < r.length) : cellA r k = r[k] := by unfold cellA; rw [List.getElem?_eq_getElem h]; rfl
/-- The piece of a line that the program writes for cell j, and the reference's. -/
def pcI (wd : Nat → Nat) (r : List ByteArray) (j : Nat) : List UInt8 := (cellA r j).data.toList ++ spN (wd j - (cellA r j).size + 2)
def pcS (wd : Nat → Nat) (r : List ByteArray) (j : Nat) : List UInt8 := (if j = 0 then [] else [32, 32]) ++ (cellA r j).data.toList ++ spN (wd j - (cellA r j).size)
def rawI (wd : Nat → Nat) (r : List ByteArray) (k : Nat) : List UInt8 := (List.range k).flatMap (pcI wd r)
def rawS (wd : Nat → Nat) (r : List ByteArray) (k : Nat) : List UInt8 := (List.range k).flatMap (pcS wd r)
theorem rawI_step (wd : Nat → Nat) (r : List ByteArray) (k : Nat) : rawI wd r (k + 1) = rawI wd r k ++ pcI wd r k := by unfold rawI; rw [List.range_succ, List.flatMap_append]; simp
theorem rawS_step (wd : Nat → Nat) (r : List ByteArray) (k : Nat) : rawS wd r (k + 1) = rawS wd r k ++ pcS wd r k := by unfold rawS; rw [List.range_succ, List.flatMap_append]; simp
theorem raw_eq (wd : Nat → Nat) (r : List ByteArray) : ∀ k, rawI wd r (k + 1) = rawS wd r (k + 1) ++ [32, 32]
  | 0 => by rw [rawI_step, rawS_step]; show [] ++ pcI wd r 0 = [] ++ pcS wd r 0 ++ [32, 32]; unfold pcI pcS spN; rw [if_pos rfl, List.replicate_succ', List.replicate_succ']; simp
  | k + 1 => by
    rw [rawI_step wd r (k + 1), raw_eq wd r k, rawS_step wd r (k + 1)]
    unfold pcI pcS spN
    rw [if_neg (by omega), List.replicate_succ', List.replicate_succ']
    simp
theorem trim_sp (l : List UInt8) : Lib.trimRightB (l ++ [32]) 32 = Lib.trimRightB l 32 := by unfold Lib.trimRightB; rw [List.reverse_append]; simp
theorem trim_raw (wd : Nat → Nat) (r : List ByteArray) (k : Nat) : Lib.trimRightB (rawI wd r k) 32 = Lib.trimRightB (rawS wd r k) 32 := by
  cases k with
  | zero => rfl
  | succ k => rw [raw_eq, show rawS wd r (k + 1) ++ [32, 32] = (rawS wd r (k + 1) ++ [32]) ++ [32] by simp, trim_sp, trim_sp]
def lineF (wd : Nat → Nat) (r : List ByteArray) : ByteArray := ⟨(Lib.trimRightB (rawI wd r r.length) 32).toArray⟩
def tabF (rows : List (List ByteArray)) : List ByteArray := rows.map (lineF (wdN rows))
def cellOk (c : ByteArray) : Bool := bwAll c.data.toList 33 126
def rowOk (r : List ByteArray) : Bool := decide (r.length ≤ 12) && r.all cellOk
def rowsOk (rows : List (List ByteArray)) : Bool := rows.all rowOk
theorem trim_len (l : List UInt8) (c : UInt8) : (Lib.trimRightB l c).length ≤ l.length := by
  unfold Lib.trimRightB; rw [List.length_reverse]; exact Nat.le_trans (List.dropWhile_sublist _).length_le (by simp)
theorem pcI_len {wd : Nat → Nat} {r : List ByteArray} {B : Nat} (j : Nat) (h : wd j ≤ B) (h2 : (cellA r j).size ≤ B) : (pcI wd r j).length ≤ 2 * B + 2 := by
  unfold pcI spN; rw [List.length_append, List.length_replicate, show (cellA r j).data.toList.length = (cellA r j).size by simp]; omega
theorem rawI_len {wd : Nat → Nat} {r : List ByteArray} {B : Nat} (h : ∀ j, wd j ≤ B) (h2 : ∀ j, (cellA r j).size ≤ B) : ∀ k, (rawI wd r k).length ≤ (2 * B + 2) * k
  | 0 => Nat.zero_le _
  | k + 1 => by rw [rawI_step, List.length_append, Nat.mul_succ]; have := rawI_len h h2 k; have := pcI_len (wd := wd) (r := r) k (h k) (h2 k); omega
theorem rawS_len {wd : Nat → Nat} {r : List ByteArray} {B : Nat} (h : ∀ j, wd j ≤ B) (h2 : ∀ j, (cellA r j).size ≤ B) (k : Nat) : (rawS wd r k).length ≤ (2 * B + 2) * k := by
  cases k with
  | zero => exact Nat.zero_le _
  | succ k => have := rawI_len h h2 (k + 1); rw [raw_eq, List.length_append] at this; omega
theorem cellA_le {r : List ByteArray} {B : Nat} (h : ∀ c ∈ r, c.size ≤ B) (j : Nat) : (cellA r j).size ≤ B := by
  unfold cellA
  cases hk : r[j]? with
  | none => show (ByteArray.mk #[]).size ≤ B; exact Nat.zero_le _
  | some c => exact h c (List.mem_of_getElem? hk)
/-- One byte fewer at the end. -/
theorem trim_cut {l : List UInt8} {k : Nat} (h : l[k]? = some 32) : Lib.trimRightB (l.take (k + 1)) 32 = Lib.trimRightB (l.take k) 32 := by
  obtain ⟨hk, e⟩ := List.getElem?_eq_some_iff.1 h
  rw [List.take_succ_eq_append_getElem hk, e, trim_sp]
theorem trim_stop {l : List UInt8} {k : Nat} {b : UInt8} (h : l[k]? = some b) (hb : b ≠ 32) : Lib.trimRightB (l.take (k + 1)) 32 = l.take (k + 1) := by
  obtain ⟨hk, e⟩ := List.getElem?_eq_some_iff.1 h
  rw [List.take_succ_eq_append_getElem hk, e]
  unfold Lib.trimRightB
  rw [List.reverse_append]
  have : (b == (32 : UInt8)) = false := beq_eq_false_iff_ne.2 hb
  simp [this]

end Go.Proofs.YtgnbhcgagdfaiaaGreatDoor

namespace Go.Proofs.YtgnbhcgagdfaiaaGreatDoor
open Go.RowKit
set_option linter.unusedVariables false

structure DGroup where
  id : ByteArray
  people : Int
  guides : Int
  beacons : Int
  shovels : Int
  probes : Int
  skill : Int
  deriving DecidableEq

def fGroup : Flat DGroup where
  n := 7
  enc := fun x => [.string x.id, .int .i64 x.people, .int .i64 x.guides, .int .i64 x.beacons, .int .i64 x.shovels, .int .i64 x.probes, .int .i64 x.skill]
  ok := fun x => fStr.ok x.id ∧ fInt.ok x.people ∧ fInt.ok x.guides ∧ fInt.ok x.beacons ∧ fInt.ok x.shovels ∧ fInt.ok x.probes ∧ fInt.ok x.skill
  pos := by omega
  len := fun _ => rfl
  one := by intro x v hv; simp at hv; rcases hv with rfl | rfl | rfl | rfl | rfl | rfl | rfl <;> rfl

def totGroup (x : DGroup) : Nat := x.id.size
def totGroupS (xs : List DGroup) : Nat := xs.length + (xs.map totGroup).sum






def mkGroup (k : Int) : DGroup := ⟨mt (k), k + 1, k + 1 + 1, k + 1 + 1 + 1, k + 1 + 1 + 1 + 1, k + 1 + 1 + 1 + 1 + 1, k + 1 + 1 + 1 + 1 + 1 + 1⟩
def marksGroup (k : Int) (n : Nat) : List DGroup := (List.range n).map fun (i : Nat) => mkGroup (k + 7 * (i : Int))

theorem marksGroup_get (k0 : Int) (n i : Nat) (h : i < (marksGroup k0 n).length) : (marksGroup k0 n)[i] = mkGroup (k0 + 7 * (i : Int)) := by
  simp [marksGroup]
theorem marksGroup_len (k0 : Int) (n : Nat) : (marksGroup k0 n).length = n := by simp [marksGroup]



end Go.Proofs.YtgnbhcgagdfaiaaGreatDoor

namespace Go.Proofs.YtgnbhcgagdfaiaaGreatDoor
open Go.RowKit
set_option linter.unusedVariables false

/-- A pointer to a Group that lies somewhere. -/
structure PGroup (w : World) (pb po : Nat) (x : DGroup) : Prop where
  c0 : w.cell? ⟨pb, po, none⟩ = some (.string x.id)
  c1 : w.cell? ⟨pb, po + 1, none⟩ = some (.int .i64 x.people)
  c2 : w.cell? ⟨pb, po + 2, none⟩ = some (.int .i64 x.guides)
  c3 : w.cell? ⟨pb, po + 3, none⟩ = some (.int .i64 x.beacons)
  c4 : w.cell? ⟨pb, po + 4, none⟩ = some (.int .i64 x.shovels)
  c5 : w.cell? ⟨pb, po + 5, none⟩ = some (.int .i64 x.probes)
  c6 : w.cell? ⟨pb, po + 6, none⟩ = some (.int .i64 x.skill)
theorem PGroup.below {w w' : World} {pb po : Nat} {x : DGroup} {B : Nat} (h : PGroup w pb po x) (hb : Below B w w') (hB : pb < B) : PGroup w' pb po x :=
  ⟨(hb.cell (p := ⟨pb, _, none⟩) hB).trans h.c0, (hb.cell (p := ⟨pb, _, none⟩) hB).trans h.c1, (hb.cell (p := ⟨pb, _, none⟩) hB).trans h.c2, (hb.cell (p := ⟨pb, _, none⟩) hB).trans h.c3, (hb.cell (p := ⟨pb, _, none⟩) hB).trans h.c4, (hb.cell (p := ⟨pb, _, none⟩) hB).trans h.c5, (hb.cell (p := ⟨pb, _, none⟩) hB).trans h.c6⟩
theorem PGroup.drewN {w : World} {pb po : Nat} {x : DGroup} (h : PGroup w pb po x) (n : Nat) : PGroup (w.drewN n) pb po x :=
  ⟨h.c0, h.c1, h.c2, h.c3, h.c4, h.c5, h.c6⟩
theorem PGroup.lt {w : World} {pb po : Nat} {x : DGroup} (h : PGroup w pb po x) : pb < w.heap.size := block_lt_of_cell h.c0
theorem PGroup.below' {w w' : World} {pb po : Nat} {x : DGroup} (h : PGroup w pb po x) (hb : Below w.heap.size w w') : PGroup w' pb po x := h.below hb h.lt
theorem PGroup.box (w : World) (x : DGroup) (T : TypeId) : PGroup (w.alloc (.cells #[.string x.id, .int .i64 x.people, .int .i64 x.guides, .int .i64 x.beacons, .int .i64 x.shovels, .int .i64 x.probes, .int .i64 x.skill] T)) w.heap.size 0 x := by
  constructor <;> simp
theorem PGroup.elem {w : World} {A : Option Addr} {len cap : Nat} {xs : List DGroup} {fp : List Nat} (h : Sl fGroup.cod w (.slice A len cap) xs fp) {k : Nat} (hk : k < xs.length) :
    ∃ b off, A = some ⟨b, off, none⟩ ∧ b ∈ fp ∧ fGroup.ok xs[k] ∧ PGroup w b (off + k * 7) xs[k] := by
  obtain ⟨b, off, hA, hm, hok, hc, _⟩ := h.at_ hk
  exact ⟨b, off, hA, hm, hok, ⟨hc 0 (by decide), hc 1 (by decide), hc 2 (by decide), hc 3 (by decide), hc 4 (by decide), hc 5 (by decide), hc 6 (by decide)⟩⟩
end Go.Proofs.YtgnbhcgagdfaiaaGreatDoor

namespace Go.Proofs.YtgnbhcgagdfaiaaGreatDoor
open Go.RowKit
set_option linter.unusedVariables false

def groupB (x : DGroup) : Bool := nameB x.id && inB x.people 1 30 && inB x.guides 0 x.people && inB x.beacons 0 30 && inB x.shovels 0 30 && inB x.probes 0 30 && inB x.skill 1 5
def levelB (n : Int) : Bool := inB n 1 5
set_option maxRecDepth 100000 in
set_option maxHeartbeats 400000 in
theorem l17Is_any (a : Int) (w : World) : Calls Tryz.prog 60 #[.int .i64 a] w fun e w' => e = .returned (.bool (levelB a)) ∧ w = w' := by
  go_enter Tryz.func60, Tryz.ntmps60
  go_wp2_with (go_at_call 85; refine (l00InB_any _ _ _ _).mono ?_; rintro e w' ⟨rfl, rfl⟩)
  go_ret
  exact ⟨rfl, rfl⟩
set_option maxRecDepth 100000 in
set_option maxHeartbeats 400000 in
theorem levelOk_any (a : Int) (w : World) : Calls Tryz.prog 66 #[.int .i64 a] w fun e w' => e = .returned (.bool (levelB a)) ∧ w = w' := by
  go_enter Tryz.func66, Tryz.ntmps66
  go_wp2_with (go_at_call 101; refine (withinB_any _ _ _ _).mono ?_; rintro e w' ⟨rfl, rfl⟩)
  go_ret
  exact ⟨rfl, rfl⟩


end Go.Proofs.YtgnbhcgagdfaiaaGreatDoor

namespace Go.Proofs.YtgnbhcgagdfaiaaGreatDoor
open Go.RowKit
set_option linter.unusedVariables false

theorem infoStr1 : (Tryz.prog.info? 9).map (fun i => (i.zero, i.size, i.bytes)) = some (some (.string ⟨#[]⟩), 1, 16) := by kernel_rfl

/-! ### lines that are a report, or an error -/
def doneF (xs : List ByteArray) : List ByteArray := if linesB xs then xs else []
def doneC (xs : List ByteArray) : Int := if linesB xs then 0 else 5
def doneV (b : Bool) (v : Value) : Value := match b with | true => v | false => .slice none 0 0
/-- What is handed on: the very slice, or nothing. -/
def DoneR (v : Value) (xs : List ByteArray) (w : World) (e : Ending) (w' : World) : Prop := e = .returned (.tuple #[doneV (linesB xs) v, .int .i64 (doneC xs)]) ∧ w = w'
set_option maxRecDepth 100000 in
set_option maxHeartbeats 1000000 in
theorem l30Done_any (v : Value) (xs : List ByteArray) (fp : List Nat) (w : World) (hx : Sl fStr.cod w v xs fp) :
    Calls Tryz.prog 32 #[v] w fun e w' => DoneR v xs w e w' := by
  cases h0 : linesB xs
  all_goals
    go_enter Tryz.func32, Tryz.ntmps32
    go_wp2_with (go_at_call 45; refine (l30Ok_any _ _ _ _ hx).mono ?_; rintro e w' ⟨rfl, rfl⟩)
    go_ret2
    exact ⟨by rw [doneC, h0]; rfl, rfl⟩
set_option maxRecDepth 100000 in
set_option maxHeartbeats 1000000 in
theorem reportOrFull_any (v : Value) (xs : List ByteArray) (fp : List Nat) (w : World) (hx : Sl fStr.cod w v xs fp) :
    Calls Tryz.prog 74 #[v] w fun e w' => DoneR v xs w e w' := by
  cases h0 : linesB xs
  all_goals
    go_enter Tryz.func74, Tryz.ntmps74
    go_wp2_with (go_at_call 50; refine (implValidReport_any _ _ _ _ hx).mono ?_; rintro e w' ⟨rfl, rfl⟩)
    go_ret2
    exact ⟨by rw [doneC, h0]; rfl, rfl⟩
theorem New.done {w w' : World} {v : Value} {xs : List ByteArray} (h : New fStr.cod w v xs w') : New fStr.cod w (doneV (linesB xs) v) (doneF xs) w' := by
  unfold doneF
  cases linesB xs
  · exact New.nil h.below
  · exact h

/-! ### bars -/
def mostF (xs : List Int) : Int := xs.foldl (fun a b => max a b) 0
theorem mostF_step {xs : List Int} {k : Nat} (h : k < xs.length) : mostF (xs.take (k + 1)) = max (mostF (xs.take k)) xs[k] := by
  unfold mostF; rw [List.take_succ_eq_append_getElem h, List.foldl_append]; rfl
theorem mostF_le {m : Int} (hm : 0 ≤ m) : ∀ (xs : List Int) (a : Int), a ≤ m → (∀ x ∈ xs, x ≤ m) → xs.foldl (fun a b => max a b) a ≤ m
  | [], a, ha, _ => ha
  | x :: xs, a, ha, h => by
    rw [List.foldl_cons]
    exact mostF_le hm xs _ (Int.max_le.2 ⟨ha, h x (by simp)⟩) (fun y hy => h y (by simp [hy]))
theorem mostF_ge : ∀ (xs : List Int) (a : Int), a ≤ xs.foldl (fun a b => max a b) a
  | [], a => Int.le_refl _
  | x :: xs, a => by rw [List.foldl_cons]; exact Int.le_trans (Int.le_max_left a x) (mostF_ge xs _)
theorem mostF_mem : ∀ (xs : List Int) (a : Int), ∀ x ∈ xs, x ≤ xs.foldl (fun a b => max a b) a
  | [], _, _, h => by simp at h
  | y :: xs, a, x, h => by
    rw [List.foldl_cons]
    rcases List.mem_cons.1 h with rfl | h
    · exact Int.le_trans (Int.le_max_right a x) (mostF_ge xs _)
    · exact mostF_mem xs _ x h
def barN (m width x : Int) : Nat := (x * width / max m 1).toNat
def barS (n : Nat) : ByteArray := ⟨(List.replicate n (35 : UInt8)).toArray⟩
theorem barS_size (n : Nat) : (barS n).size = n := by show (List.replicate n (35 : UInt8)).toArray.size = n; simp
theorem barS_succ (n : Nat) : barS n ++ ⟨#[35]⟩ = barS (n + 1) := by
  apply data_inj
  rw [ByteArray.data_append]
  simp only [barS, List.replicate_succ', Array.toList_append]
def barsF (xs : List Int) (width : Int) : List ByteArray := xs.map (fun x => barS (barN (mostF xs) width x))
theorem barN_le {m width x : Int} (h0 : 0 ≤ x) (h1 : x ≤ m) (hw : 1 ≤ width ∧ width ≤ 100) : 0 ≤ x * width ∧ x * width / max m 1 ≤ 100 ∧ 0 ≤ x * width / max m 1 := by
  have hm : 1 ≤ max m 1 := Int.le_max_right _ _
  have hmm : m ≤ max m 1 := Int.le_max_left _ _
  have p0 : 0 ≤ x * width := Int.mul_nonneg h0 (by omega)
  have p1 : x * width ≤ max m 1 * 100 := Int.mul_le_mul (by omega) hw.2 (by omega) (by omega)
  refine ⟨p0, ?_, Int.ediv_nonneg p0 (by omega)⟩
  have := Int.ediv_le_ediv (c := max m 1) (by omega) p1
  rwa [Int.mul_ediv_cancel_left _ (by omega)] at this
theorem repeatL_bar : ∀ n : Nat, Lib.repeatL [35] n = List.replicate n 35
  | 0 => rfl
  | n + 1 => by rw [List.replicate_succ, ← repeatL_bar n]; rfl
theorem repeat_bar (n : Nat) : (⟨(Lib.repeatL (⟨#[35]⟩ : ByteArray).data.toList n).toArray⟩ : ByteArray) = barS n := by
  unfold barS; rw [← repeatL_bar n]
theorem repeatBar_any (n : Nat) (w : World) (hn : n ≤ 100) : Calls Tryz.prog 72 #[.string ⟨#[35]⟩, .int .i64 (n : Int)] w fun e w' => e = .returned (.string (barS n)) ∧ Below w.heap.size w w' := by
  have := Tryz.strings_Repeat ⟨#[35]⟩ n w (by omega) (by show 1 * n ≤ _; omega)
  rw [repeat_bar] at this
  exact this
theorem barN_zero {width x : Int} (h : x = 0) : barN 0 width x = 0 := by subst h; unfold barN; simp
theorem barN_pos {m width x : Int} (h : 0 < m) (p : 0 ≤ x * width / max m 1) : x * width / m = ((barN m width x : Nat) : Int) := by
  have e : max m 1 = m := Int.max_eq_left (by omega)
  unfold barN
  rw [e] at p ⊢
  exact (Int.toNat_of_nonneg p).symm

end Go.Proofs.YtgnbhcgagdfaiaaGreatDoor

namespace Go.Proofs.YtgnbhcgagdfaiaaGreatDoor
open Go.RowKit

theorem infoBuilder : (Tryz.prog.info? 87).map (·.size) = some 2 := by kernel_rfl
theorem liesBuilder : liesAt Tryz.prog Tryz.prog.depth 87 (2 / Tryz.prog.cellsOf 87) 0 87 1 = true := by kernel_rfl
theorem infoU8 : (Tryz.prog.info? 5).map (fun i => (i.zero, i.size, i.bytes)) = some (some (.int .u8 0), 1, 1) := by kernel_rfl

set_option maxRecDepth 100000 in
set_option maxRecDepth 100000 in
set_option maxHeartbeats 1000000 in
theorem copyCheck_used (b : Nat) (w : World) (h0 : w.cell? ⟨b, 0, none⟩ = some (.pointer (some ⟨b, 0, none⟩))) :
    Calls Tryz.prog 97 #[.pointer (some ⟨b, 0, none⟩)] w fun e w' => e = .returned (.tuple #[]) ∧ w' = w := by
  obtain ⟨j, hj, _⟩ := Option.map_eq_some_iff.1 infoBuilder
  go_enter Tryz.func97, Tryz.ntmps97
  go_wp2
  rw [Lib.run_neq_ptr_same w _ Tryz.underlying85 hj]
  go_wp2
  go_end0
  exact ⟨rfl, rfl⟩

set_option maxRecDepth 100000 in
set_option maxRecDepth 100000 in
set_option maxHeartbeats 1000000 in
theorem copyCheck_fresh (b : Nat) (w : World) (h0 : w.cell? ⟨b, 0, none⟩ = some (.pointer none)) (hsh : w.shape? b = some (87, 2)) (hfz : w.frozen? ⟨b, 0, none⟩ = false) :
    Calls Tryz.prog 97 #[.pointer (some ⟨b, 0, none⟩)] w fun e w' => e = .returned (.tuple #[]) ∧ w' = w.setCell ⟨b, 0, none⟩ (.pointer (some ⟨b, 0, none⟩)) := by
  obtain ⟨j, hj, hjs⟩ := Option.map_eq_some_iff.1 infoBuilder
  go_enter Tryz.func97, Tryz.ntmps97
  go_wp2
  rw [Lib.run_to_unsafe w ⟨b, 0, none⟩ Tryz.underlying85 Tryz.underlying155 hj (by rw [hjs]; decide) hsh (Nat.zero_lt_succ 1)]
  simp only [Result.andThen]
  rw [Oper.upon_value]
  go_wp2
  rw [run_callFunc_extern Tryz.func132 (by kernel_rfl) (by kernel_rfl) (by kernel_rfl) (e := Extern.AbiNoEscape.same) (by kernel_rfl)]
  rw [Lib.run_noEscape]
  simp only [Result.andThen]
  rw [Oper.upon_value]
  go_wp2
  rw [Lib.run_from_unsafe w ⟨b, 0, none⟩ Tryz.underlying155 Tryz.underlying85 hj hsh liesBuilder]
  simp only [Result.andThen]
  rw [Oper.upon_value]
  go_wp2
  go_end0
  exact ⟨rfl, rfl⟩

theorem copyCheck_any (B b : Nat) (bs : List Value) (w : World) (h : Lib.IsBuilder 87 5 B b bs w) :
    Calls Tryz.prog 97 #[.pointer (some ⟨b, 0, none⟩)] w fun e w' => e = .returned (.tuple #[]) ∧ (Lib.BuilderAt 87 5 B b (.pointer (some ⟨b, 0, none⟩)) bs w' ∧ Below B w w') := by
  rcases h with h | h
  · refine (copyCheck_fresh b w h.cell0 h.shape h.frozen0).mono ?_
    rintro e w' ⟨rfl, rfl⟩
    exact ⟨rfl, h.used _, (Below.refl B w).setCell (p := ⟨b, 0, none⟩) h.1 _⟩
  · refine (copyCheck_used b w h.cell0).mono ?_
    rintro e w' ⟨rfl, rfl⟩
    exact ⟨rfl, h, Below.refl B _⟩

set_option maxRecDepth 100000 in
set_option maxRecDepth 100000 in
set_option maxHeartbeats 2000000 in
theorem writeString_any (B b : Nat) (bs : List Value) (s : ByteArray) (w : World) (h : Lib.IsBuilder 87 5 B b bs w) (hlen : bs.length + s.size ≤ 140737488355328) (hBw : B ≤ w.heap.size) :
    Calls Tryz.prog 56 #[.pointer (some ⟨b, 0, none⟩), .string s] w fun e w' => e = .returned (.tuple #[.int .i64 s.size, .nilIface]) ∧ (Lib.IsBuilder 87 5 B b (bs ++ Lib.strCells s) w' ∧ Below B w w') := by
  obtain ⟨i0, hi, hz0, hz1, hz2⟩ := info_parts infoU8
  go_enter Tryz.func56, Tryz.ntmps56
  go_wp2_with (go_at_call 97; refine (copyCheck_any B b bs _ h).mono ?_)
  rintro e w1 ⟨rfl, h1, hb1⟩
  obtain ⟨hB, v, hbk, hown, hne⟩ := h1
  have c0 : w1.cell? ⟨b, 0, none⟩ = some (.pointer (some ⟨b, 0, none⟩)) := by rw [Lib.cell_of_heap hbk]; rfl
  have c1 : w1.cell? ⟨b, 1, none⟩ = some v := by rw [Lib.cell_of_heap hbk]; rfl
  go_wp2_with (at_builtin; refine Lib.wpList_append_own_string _ rfl _ _ 34 9 rfl B 5 i0 Tryz.underlying34 Tryz.underlying9 hi hz0 hz1 hz2 _ _ _ rfl hown s rfl ?c3 ?c4 ?c5 ?_)
  case c3 => unfold maxLen; omega
  case c4 => omega
  case c5 => have := hb1.size; omega
  intro v' w2 hown' hgrow _
  have hlt : b < w1.heap.size := by
    rcases Nat.lt_or_ge b w1.heap.size with h' | h'
    · exact h'
    · simp [Array.getElem?_eq_none h'] at hbk
  have hb2 : w2.heap[b]? = some (.cells #[.pointer (some ⟨b, 0, none⟩), v] 87 (0, 0)) := by
    rw [hgrow.block b hlt (fun e => hne e.symm)]
    exact hbk
  have d0 : w2.cell? ⟨b, 0, none⟩ = some (.pointer (some ⟨b, 0, none⟩)) := by rw [Lib.cell_of_heap hb2]; rfl
  have d1 : w2.cell? ⟨b, 1, none⟩ = some v := by rw [Lib.cell_of_heap hb2]; rfl
  have f1 : w2.frozen? ⟨b, 1, none⟩ = false := Lib.frozen_of_heap hb2 1
  obtain ⟨ao, n', cap, rfl⟩ : ∃ ao n' cap, v' = .slice ao n' cap := by
    rcases hown'.2 with ⟨hv, _⟩ | ⟨g, cap, cur, hv, _⟩
    · exact ⟨_, _, _, hv⟩
    · exact ⟨_, _, _, hv⟩
  go_wp2
  go_ret2
  refine ⟨rfl, .inr ?_, ?_⟩
  · exact Lib.BuilderAt.put (T := 87) (e := 5) hB hb2 (bs' := bs ++ Lib.strCells s) (by simpa [Lib.strCells_length] using hown') (by decide)
  · exact (hb1.grown hgrow (by have := hb1.size; omega) (fun k hk => (hown.lt k hk).1)).setCell (p := ⟨b, 1, none⟩) hB _

/-- 'var b strings.Builder' behind the alloc. -/
theorem builder_new (w : World) : Lib.IsBuilder 87 5 w.heap.size w.heap.size [] (w.alloc (.cells #[.pointer none, .slice none 0 0] 87)) :=
  .inl ⟨Nat.le_refl _, .slice none 0 0, heap_alloc_new w _, World.ownsRow_nil _ _ _ _, by simp [Value.ownBlock]⟩

theorem isB_below {B b : Nat} {bs : List Value} {w w' : World} (h : Lib.IsBuilder 87 5 B b bs w) (hb : Below w.heap.size w w') : Lib.IsBuilder 87 5 B b bs w' := by
  have key : ∀ p, Lib.BuilderAt 87 5 B b p bs w → Lib.BuilderAt 87 5 B b p bs w' := by
    rintro p ⟨hB, v, hbk, hown, hne⟩
    have hlt : b < w.heap.size := by
      rcases Nat.lt_or_ge b w.heap.size with h' | h'
      · exact h'
      · simp [Array.getElem?_eq_none h'] at hbk
    refine ⟨hB, v, by rw [hb.block _ hlt]; exact hbk, ?_, hne⟩
    obtain ⟨h1, h2⟩ := hown
    refine ⟨h1, ?_⟩
    rcases h2 with h2 | ⟨g, cap, cur, hv, hg, hh, r⟩
    · exact .inl h2
    · have hgl : g < w.heap.size := by
        rcases Nat.lt_or_ge g w.heap.size with hlt | hge
        · exact hlt
        · rw [Array.getElem?_eq_none hge] at hh; cases hh
      exact .inr ⟨g, cap, cur, hv, hg, by rw [hb.block _ hgl]; exact hh, r⟩
  rcases h with h | h
  · exact .inl (key _ h)
  · exact .inr (key _ h)
end Go.Proofs.YtgnbhcgagdfaiaaGreatDoor

namespace Go.Proofs.YtgnbhcgagdfaiaaGreatDoor
open Go.RowKit
set_option linter.unusedVariables false

theorem infoStrW : (Tryz.prog.info? 9).map (fun i => (i.zero, i.size, i.bytes)) = some (some (.string ⟨#[]⟩), 1, 16) := by kernel_rfl
theorem infoIntW : (Tryz.prog.info? 3).map (fun i => (i.zero, i.size, i.bytes)) = some (some (.int .i64 0), 1, 8) := by kernel_rfl
/-- The row of widths. -/
def Wd (w : World) (B : Nat) (f : Nat → Int) : Prop := w.ownsRow B 3 1 (.slice (some ⟨B, 0, none⟩) 12 12) 12 ((List.range 12).map fun j => Value.int .i64 (f j))
theorem Wd.cell {w : World} {B : Nat} {f : Nat → Int} (h : Wd w B f) {j : Nat} (hj : j < 12) : w.cell? ⟨B, j, none⟩ = some (.int .i64 (f j)) := by
  rw [h.cellAt j (by omega), List.getElem?_map, List.getElem?_range hj]; rfl
theorem Wd.frozen {w : World} {B : Nat} {f : Nat → Int} (h : Wd w B f) (j : Nat) : w.frozen? ⟨B, j, none⟩ = false := h.frozenAt j
theorem Wd.congr {w : World} {B : Nat} {f g : Nat → Int} (h : Wd w B f) (e : ∀ j, f j = g j) : Wd w B g := by
  have : f = g := funext e
  rwa [← this]
theorem Wd.set {w : World} {B : Nat} {f : Nat → Int} (h : Wd w B f) (j : Nat) (v : Int) : Wd (w.setCell ⟨B, j, none⟩ (.int .i64 v)) B (fun i => if i = j then v else f i) := by
  have h1 := (h.stored j (.int .i64 v)).1
  have e : ((List.range 12).map fun j => Value.int .i64 (f j)).set j (.int .i64 v) = (List.range 12).map fun i => Value.int .i64 (if i = j then v else f i) := by
    refine List.ext_getElem? fun i => ?_
    rw [List.getElem?_set, List.getElem?_map, List.getElem?_map]
    by_cases hi : i < 12
    · rw [List.getElem?_range hi]
      by_cases e : j = i
      · subst e; simp [hi]
      · have e2 : ¬ i = j := fun h => e h.symm
        simp [e, e2]
    · have : (List.range 12)[i]? = none := List.getElem?_eq_none (by simpa using hi)
      rw [this]; simp; omega
  rw [e] at h1
  exact h1
theorem Wd.below {w w' : World} {B : Nat} {f : Nat → Int} (h : Wd w B f) (hb : Below w.heap.size w w') : Wd w' B f := by
  obtain ⟨h1, h2⟩ := h
  refine ⟨h1, ?_⟩
  rcases h2 with h2 | ⟨g, cap, cur, hv, hg, hh, r⟩
  · exact .inl h2
  · have hgl : g < w.heap.size := by
      rcases Nat.lt_or_ge g w.heap.size with hlt | hge
      · exact hlt
      · rw [Array.getElem?_eq_none hge] at hh; cases hh
    exact .inr ⟨g, cap, cur, hv, hg, by rw [hb.block _ hgl]; exact hh, r⟩
theorem Wd.lt {w : World} {B : Nat} {f : Nat → Int} (h : Wd w B f) : B < w.heap.size := block_lt_of_cell (h.cell (j := 0) (by omega))
theorem Wd.start (w : World) : Wd (w.alloc (.cells (madeCells #[Value.int .i64 0] 12) 3)) w.heap.size (fun _ => 0) := by
  have := World.ownsRow_lit (e := 3) (size := 1) (base := w.heap.size) w (madeCells #[Value.int .i64 0] 12) 12 (Nat.le_refl _) (by decide) (size_madeCells _ _)
  unfold Wd
  have e : (madeCells #[Value.int .i64 0] 12).toList = (List.range 12).map fun j => Value.int .i64 0 := by
    unfold madeCells
    rw [show Array.range 12 = #[0, 1, 2, 3, 4, 5, 6, 7, 8, 9, 10, 11] from by decide]
    simp [Nat.mod_one, List.range_succ]
  rw [e] at this
  exact this
theorem wdAt_next {rows : List (List ByteArray)} {i k : Nat} (h : i < rows.length) (hk : k < rows[i].length) (j : Nat) :
    (if j = k then max ((wdAt rows i k k : Nat) : Int) ((rows[i][k].size : Nat) : Int) else ((wdAt rows i k j : Nat) : Int)) = ((wdAt rows i (k + 1) j : Nat) : Int) := by
  rw [wdAt_step h, cellA_at hk]
  by_cases e : j = k
  · subst e; rw [if_pos rfl, if_pos rfl]; omega
  · rw [if_neg e, if_neg e]
theorem wdAt_same {rows : List (List ByteArray)} {i k : Nat} (h : i < rows.length) (hk : k < rows[i].length) (hle : rows[i][k].size ≤ wdAt rows i k k) (j : Nat) : wdAt rows i (k + 1) j = wdAt rows i k j := by
  rw [wdAt_step h, cellA_at hk]
  by_cases e : j = k
  · subst e; rw [if_pos rfl]; omega
  · rw [if_neg e]
theorem wdAt_more {rows : List (List ByteArray)} {i k : Nat} (h : i < rows.length) (hk : k < rows[i].length) (hle : wdAt rows i k k < rows[i][k].size) (j : Nat) :
    (if j = k then ((rows[i][k].size : Nat) : Int) else ((wdAt rows i k j : Nat) : Int)) = ((wdAt rows i (k + 1) j : Nat) : Int) := by
  rw [wdAt_step h, cellA_at hk]
  by_cases e : j = k
  · subst e; rw [if_pos rfl, if_pos rfl]; omega
  · rw [if_neg e, if_neg e]
theorem wdN_all {rows : List (List ByteArray)} {k : Nat} (h : rows.length ≤ k) (j : Nat) : wdAt rows k 0 j = wdN rows j := by rw [wdAt_zero, List.take_of_length_le h]
theorem rowsOk_step {rows : List (List ByteArray)} {k : Nat} (h : k < rows.length) (h0 : rowsOk (rows.take k) = true) (h1 : rowOk rows[k] = true) : rowsOk (rows.take (k + 1)) = true := by
  unfold rowsOk at *; rw [List.take_succ_eq_append_getElem h, List.all_append, h0]; simp [h1]
theorem rowsOk_bad {rows : List (List ByteArray)} {k : Nat} (h : k < rows.length) (h1 : rowOk rows[k] = false) : rowsOk rows = false := by
  unfold rowsOk
  rw [Bool.eq_false_iff]
  intro hall
  have := List.all_eq_true.1 hall rows[k] (List.getElem_mem h)
  rw [h1] at this; cases this
theorem cells_step {r : List ByteArray} {j : Nat} (h : j < r.length) (h0 : (r.take j).all cellOk = true) (h1 : cellOk r[j] = true) : (r.take (j + 1)).all cellOk = true := by
  rw [List.take_succ_eq_append_getElem h, List.all_append, h0]; simp [h1]
theorem rowOk_bad {r : List ByteArray} {j : Nat} (h : j < r.length) (h1 : cellOk r[j] = false) : rowOk r = false := by
  unfold rowOk
  rw [Bool.and_eq_false_iff]
  right
  rw [Bool.eq_false_iff]
  intro hall
  have := List.all_eq_true.1 hall r[j] (List.getElem_mem h)
  rw [h1] at this; cases this
theorem rowOk_full {r : List ByteArray} {j : Nat} (h : r.length ≤ j) (h12 : r.length ≤ 12) (h0 : (r.take j).all cellOk = true) : rowOk r = true := by
  rw [List.take_of_length_le h] at h0
  unfold rowOk; rw [h0, decide_eq_true h12]; rfl
theorem rowOk_long {r : List ByteArray} (h : ¬ r.length ≤ 12) : rowOk r = false := by unfold rowOk; rw [decide_eq_false h]; rfl
theorem rowsOk_12 {rows : List (List ByteArray)} (h : rowsOk rows = true) : ∀ r ∈ rows, r.length ≤ 12 := by
  intro r hr
  have := List.all_eq_true.1 h r hr
  unfold rowOk at this
  simp only [Bool.and_eq_true, decide_eq_true_eq] at this
  exact this.1
def tlF (rows : List (List ByteArray)) : List ByteArray := if rowsOk rows then doneF (tabF rows) else []
def tlC (rows : List (List ByteArray)) : Int := if rowsOk rows then doneC (tabF rows) else 2
def spS (n : Nat) : ByteArray := ⟨(spN n).toArray⟩
theorem spS_size (n : Nat) : (spS n).size = n := by show (spN n).toArray.size = n; simp [spN]
theorem repeatL_sp : ∀ n : Nat, Lib.repeatL [32] n = spN n
  | 0 => rfl
  | n + 1 => by unfold spN; rw [List.replicate_succ, show List.replicate n 32 = spN n from rfl, ← repeatL_sp n]; rfl
theorem repeatSp_any (n : Nat) (w : World) (hn : n ≤ 100000000) : Calls Tryz.prog 72 #[.string ⟨#[32]⟩, .int .i64 (n : Int)] w fun e w' => e = .returned (.string (spS n)) ∧ Below w.heap.size w w' := by
  have := Tryz.strings_Repeat ⟨#[32]⟩ n w (by omega) (by show 1 * n ≤ _; omega)
  rw [show (⟨(Lib.repeatL (⟨#[32]⟩ : ByteArray).data.toList n).toArray⟩ : ByteArray) = spS n from by unfold spS; rw [← repeatL_sp n]] at this
  exact this
theorem lineF_size {wd : Nat → Nat} {r : List ByteArray} (h : ∀ j, wd j ≤ 1048576) (h2 : ∀ j, (cellA r j).size ≤ 1048576) (h12 : r.length ≤ 12) : (lineF wd r).size ≤ 100000000 := by
  unfold lineF
  show (List.toArray _).size ≤ _
  rw [List.size_toArray]
  have h3 := trim_len (rawI wd r r.length) 32
  have h4 := rawI_len (wd := wd) (r := r) h h2 r.length
  have h5 : (2 * 1048576 + 2) * r.length ≤ (2 * 1048576 + 2) * 12 := Nat.mul_le_mul_left _ h12
  omega
theorem tab_ok {rows : List (List ByteArray)} (h12 : ∀ r ∈ rows, r.length ≤ 12) (hsz : ∀ r ∈ rows, ∀ c ∈ r, c.size ≤ 1048576) : ∀ x ∈ tabF rows, fStr.ok x := by
  intro x hx
  unfold tabF at hx
  obtain ⟨r, hr, rfl⟩ := List.mem_map.1 hx
  have := lineF_size (wd := wdN rows) (r := r) (fun j => wdN_le hsz j) (fun j => cellA_le (hsz r hr) j) (h12 r hr)
  show (lineF _ _).size ≤ _
  omega

theorem Wd.belowB {w w' : World} {B C : Nat} {f : Nat → Int} (h : Wd w B f) (hb : Below C w w') (hC : B < C) : Wd w' B f := by
  obtain ⟨h1, h2⟩ := h
  refine ⟨h1, ?_⟩
  rcases h2 with h2 | ⟨g, cap, cur, hv, hg, hh, r⟩
  · exact .inl h2
  · have : g = B := by injection hv with h _ _; injection h with h; injection h with h _ _; exact h.symm
    subst this
    exact .inr ⟨g, cap, cur, hv, hg, by rw [hb.block _ hC]; exact hh, r⟩
theorem Own.newB {α : Type} {E : Flat α} {w w' : World} {base : Nat} {e : TypeId} {v : Value} {L : List α} (h : Own E w' base e v L) (hbase : w.heap.size ≤ base) (hb : Below w.heap.size w w') (hok : ∀ x ∈ L, E.ok x) : New E.cod w v L w' := by
  obtain ⟨fp, h1, h2, h3⟩ := Sl.of_own (n := L.length) rfl h hok
  exact ⟨⟨fp, h1, fun b hb => Nat.le_trans hbase (h2 b hb), h3⟩, hb⟩

set_option maxRecDepth 100000 in
set_option maxHeartbeats 8000000 in
theorem implTableLines_any (v : Value) (rows : List (List ByteArray)) (fp : List Nat) (w : World) (hx : Sl fStr.cod.slice w v rows fp) (hlen : rows.length ≤ 1048577) (hsz : ∀ r ∈ rows, ∀ c ∈ r, c.size ≤ 1048576) :
    Calls Tryz.prog 38 #[v] w fun e w' => NewR2 fStr.cod w (tlF rows) (tlC rows) e w' := by
  obtain ⟨A, cap, rfl, hle, hca⟩ := hx.form
  obtain ⟨i0, hi, hz0, hz1, hz2⟩ := info_parts infoStrW
  obtain ⟨j0, hj, hy0, hy1, hy2⟩ := info_parts infoIntW
  have hmk : ∀ W : World, (Instr.makeSlice 99 (.int .i64 12) (.int .i64 12)).run Tryz.prog W = .ok (.slice (some ⟨W.heap.size, 0, none⟩) 12 12) (W.alloc (.cells (madeCells (Value.int .i64 0).cells (12 * j0.size)) 3)) := fun W => run_make_rowN (P := Tryz.prog) 99 3 j0 _ Tryz.underlying99 hj hy0 .i64 .i64 12 12 (Nat.le_refl _) (by rw [hy2]; decide) (by decide) W
  rw [hy1] at hmk
  have hmk' : ∀ W : World, (Instr.makeSlice 99 (.int .i64 12) (.int .i64 12)).run Tryz.prog W = .ok (.slice (some ⟨W.heap.size, 0, none⟩) 12 12) (W.alloc (.cells (madeCells #[Value.int .i64 0] 12) 3)) := hmk
  have hB0 : Below w.heap.size w (w.alloc (.cells (madeCells #[Value.int .i64 0] 12) 3)) := (Below.refl _ _).alloc (Nat.le_refl _) _
  have hW0 := (Wd.start w).congr (g := fun j => ((wdAt rows 0 0 j : Nat) : Int)) (fun j => by rw [wdAt_zero]; rfl)
  clear hmk hj hy0 hy1 hy2
  go_enter Tryz.func38, Tryz.ntmps38
  go_wp2
  go_loopw [18] (fun i wr => ∃ k : Nat, k ≤ rows.length ∧ i = .int .i64 k ∧ Hid (rowsOk (rows.take k) = true) ∧ Wd wr w.heap.size (fun j => ((wdAt rows k 0 j : Nat) : Int)) ∧ Below w.heap.size w wr) (fun i _ => rows.length - (intOf i).toNat)
  case atStart => exact ⟨0, Nat.zero_le _, rfl, rfl, hW0, hB0⟩
  case round =>
    obtain ⟨k, hk, rfl, HOK, hwd, hb⟩ := hrel
    by_cases hlt : k < rows.length
    · obtain ⟨b, off, vk, fk, rfl, hc, hs0, _⟩ := hx.elem hlt
      obtain ⟨A1, cap1, rfl, hle1, hca1⟩ := hs0.form
      have hcb := block_lt_of_cell hc
      have hc0 := (hb.cell (p := ⟨b, off + k, none⟩) hcb).trans hc
      by_cases h12 : rows[k].length ≤ 12
      · go_wp2
        go_loopw [27] (fun i wq => ∃ j : Nat, j ≤ rows[k].length ∧ i = .int .i64 j ∧ Hid ((rows[k].take j).all cellOk = true) ∧ Wd wq w.heap.size (fun i => ((wdAt rows k j i : Nat) : Int)) ∧ Below w.heap.size w wq) (fun i _ => rows[k].length - (intOf i).toNat)
        case atStart => exact ⟨0, Nat.zero_le _, rfl, rfl, hwd, hb⟩
        case round =>
          clear hwd hb hc0
          obtain ⟨j, hj, rfl, HC, hwd, hb⟩ := hrel
          by_cases hlt2 : j < rows[k].length
          · obtain ⟨b1, off1, rfl, _, hok, hcc, _⟩ := (hs0.below' hb).cell1 rfl hlt2 rfl
            have hcs := hsz rows[k] (List.getElem_mem hlt) rows[k][j] (List.getElem_mem hlt2)
            have hcs' : rows[k][j].size ≤ 9223372036854775807 := by omega
            cases hcell : cellOk rows[k][j]
            · have HB := Lib.hid (rowsOk_bad hlt (rowOk_bad hlt2 hcell))
              have HCL : Hid (bwAll rows[k][j].data.toList 33 126 = false) := hcell
              clear hcell
              go_wp2_with fail
              refine (bytesWithin_any _ _ _ _ hcs').mono ?_
              rintro e w' ⟨rfl, rfl⟩
              rw [HCL.out]
              go_wp2
              go_ret2
              exact ⟨_, by rw [tlC, HB.out]; rfl, by rw [tlF, HB.out]; exact New.nil hb⟩
            · have HC2 := Lib.hid (cells_step hlt2 HC.out hcell)
              have HCL : Hid (bwAll rows[k][j].data.toList 33 126 = true) := hcell
              have hwc := hwd.cell (j := j) (by omega)
              have hwz := hwd.frozen j
              have hw2 := (hwd.set j (max ((wdAt rows k j j : Nat) : Int) ((rows[k][j].size : Nat) : Int))).congr (fun i => wdAt_next hlt hlt2 i)
              have hb2 : Below w.heap.size w (wr.setCell ⟨w.heap.size, j, none⟩ (.int .i64 (max ((wdAt rows k j j : Nat) : Int) ((rows[k][j].size : Nat) : Int)))) := hb.setCell (Nat.le_refl _) _
              clear hcell HC
              go_wp2_with fail
              refine (bytesWithin_any _ _ _ _ hcs').mono ?_
              rintro e w' ⟨rfl, rfl⟩
              rw [HCL.out]
              go_wp2
              go_roundw
              case rel => exact ⟨j + 1, by omega, by go_num, HC2, hw2, hb2⟩
              case measure => simp [intOf]; omega
          · have HOK2 := Lib.hid (rowsOk_step hlt HOK.out (rowOk_full (by omega) h12 HC.out))
            have hw2 := hwd.congr (g := fun i => ((wdAt rows (k + 1) 0 i : Nat) : Int)) (fun i => by rw [wdAt_full hlt (by omega), wdAt_zero])
            go_wp2
            go_roundw
            case rel => exact ⟨k + 1, by omega, by go_num, HOK2, hw2, hb⟩
            case measure => simp [intOf]; omega
      · have HB := Lib.hid (rowsOk_bad hlt (rowOk_long h12))
        go_wp2
        go_ret2
        exact ⟨_, by rw [tlC, HB.out]; rfl, by rw [tlF, HB.out]; exact New.nil hb⟩
    · have hall : rowsOk rows = true := by have := HOK.out; rw [List.take_of_length_le (by omega)] at this; exact this
      have HCO := Lib.hid (show tlC rows = doneC (tabF rows) from by rw [tlC, hall]; rfl)
      have HFO := Lib.hid (show tlF rows = doneF (tabF rows) from by rw [tlF, hall]; rfl)
      have h12 := rowsOk_12 hall
      have hTOK := tab_ok h12 hsz
      replace hwd := hwd.congr (g := fun j => ((wdN rows j : Nat) : Int)) (fun j => by rw [wdN_all (by omega)])
      clear HOK hall
      go_wp2
      go_loopw [9, 49] (fun l i wr => ∃ k : Nat, k ≤ rows.length ∧ i = .int .i64 k ∧ Own fStr wr (w.heap.size + 1) 9 l ((rows.take k).map (lineF (wdN rows))) ∧ Wd wr w.heap.size (fun j => ((wdN rows j : Nat) : Int)) ∧ Below w.heap.size w wr) (fun _ i _ => rows.length - (intOf i).toNat)
      case atStart => exact ⟨0, Nat.zero_le _, rfl, Own.nil fStr _ _ _, hwd, hb⟩
      case round =>
        clear hwd hb hk
        obtain ⟨k, hk, rfl, ho, hwd, hb⟩ := hrel
        rename World => wo
        have hbs := hb.size
        have hwl := hwd.lt
        by_cases hlt : k < rows.length
        · obtain ⟨b, off, vk, fk, rfl, hc, hs0, _⟩ := hx.elem hlt
          obtain ⟨A1, cap1, rfl, hle1, hca1⟩ := hs0.form
          have hcb := block_lt_of_cell hc
          have hc0 := (hb.cell (p := ⟨b, off + k, none⟩) hcb).trans hc
          have hr12 := h12 rows[k] (List.getElem_mem hlt)
          have hkl : ((rows.take k).map (lineF (wdN rows))).length = k := by simp; omega
          have HKL := Lib.hid hkl
          have hBa : Below wo.heap.size wo (wo.alloc (.cells #[.pointer none, .slice none 0 0] 87)) := (Below.refl _ _).alloc (Nat.le_refl _) _
          have hI0 := builder_new wo
          clear hkl
          go_wp2
          go_loopw [55] (fun i wr => ∃ j : Nat, j ≤ rows[k].length ∧ i = .int .i64 j ∧ Lib.IsBuilder 87 5 wo.heap.size wo.heap.size (Lib.byteCells (rawI (wdN rows) rows[k] j)) wr ∧ Below wo.heap.size wo wr) (fun i _ => rows[k].length - (intOf i).toNat)
          case atStart => exact ⟨0, Nat.zero_le _, rfl, hI0, hBa⟩
          case round =>
            clear hI0 hBa hc0
            obtain ⟨j, hj, rfl, hI, hbq⟩ := hrel
            have hbqs := hbq.size
            have hbw := hb.trans (hbq.mono hb.size)
            by_cases hlt2 : j < rows[k].length
            · obtain ⟨b1, off1, rfl, _, hok, hcc, _⟩ := (hs0.below' hbw).cell1 rfl hlt2 rfl
              have hcs := hsz rows[k] (List.getElem_mem hlt) rows[k][j] (List.getElem_mem hlt2)
              have hwm : rows[k][j].size ≤ wdN rows j := by have := wdN_mem (List.getElem_mem hlt) j; rw [cellA_at hlt2] at this; exact this
              have hwB := wdN_le hsz j
              have hwc := (hwd.below hbq).cell (j := j) (by omega)
              obtain ⟨n, hn⟩ : ∃ n : Nat, n = wdN rows j - rows[k][j].size + 2 := ⟨_, rfl⟩
              have ew : ((wdN rows j : Nat) : Int) - ((rows[k][j].size : Nat) : Int) + 2 = (n : Int) := by omega
              have hnb : n ≤ 100000000 := by omega
              have hrl := rawI_len (wd := wdN rows) (r := rows[k]) (fun j => wdN_le hsz j) (fun i => cellA_le (hsz rows[k] (List.getElem_mem hlt)) i) j
              have hrl2 : (rawI (wdN rows) rows[k] j).length ≤ 30000000 := by
                have : (2 * 1048576 + 2) * j ≤ (2 * 1048576 + 2) * 12 := Nat.mul_le_mul_left _ (by omega)
                omega
              have HST : Hid (Lib.byteCells (rawI (wdN rows) rows[k] j) ++ Lib.strCells (rows[k][j] ++ spS n) = Lib.byteCells (rawI (wdN rows) rows[k] (j + 1))) := by
                show _ = _
                rw [rawI_step, Lib.byteCells_append, Lib.strCells_eq]
                congr 2
                unfold pcI
                rw [Go.Joins.data_append, cellA_at hlt2, hn]
                show _ ++ (spS _).data.toList = _
                congr 1
              have hsp := spS_size n
              have hcat : (rows[k][j] ++ spS n).size ≤ 200000000 := by rw [ByteArray.size_append, hsp]; omega
              have hsp2 : (spS n).size ≤ 100000000 := by omega
              clear hn hrl hsp
              go_wp2_with fail
              refine (repeatSp_any n _ hnb).mono ?_
              rintro e w2 ⟨rfl, hb2⟩
              have hI2 := isB_below hI hb2
              have hb2q := hbq.trans (hb2.mono hbq.size)
              have hs2 := hb2q.size
              generalize spS n = sp at *
              go_wp2_with fail
              refine (writeString_any wo.heap.size wo.heap.size _ _ _ hI2 (by rw [Lib.byteCells_length]; omega) hs2).mono ?_
              rintro e w3 ⟨rfl, hI3, hb3⟩
              rw [HST.out] at hI3
              go_wp2
              go_roundw
              case rel => exact ⟨j + 1, by omega, by go_num, hI3, hb2q.trans hb3⟩
              case measure => simp [intOf]; omega
            · have hje : j = rows[k].length := by omega
              subst hje
              go_wp2_with fail
              refine (Tryz.Builder_String_any wo.heap.size wo.heap.size _ _ hI hbqs).mono ?_
              rintro e w2 ⟨rfl, hb2⟩
              have hb2q := hbq.trans hb2
              have hrl := rawI_len (wd := wdN rows) (r := rows[k]) (fun j => wdN_le hsz j) (fun i => cellA_le (hsz rows[k] (List.getElem_mem hlt)) i) rows[k].length
              have hrl2 : (rawI (wdN rows) rows[k] rows[k].length).length ≤ 30000000 := by
                have : (2 * 1048576 + 2) * rows[k].length ≤ (2 * 1048576 + 2) * 12 := Nat.mul_le_mul_left _ (by omega)
                omega
              have hLF : Hid ((⟨(Lib.trimRightB (rawI (wdN rows) rows[k] rows[k].length) 32).toArray⟩ : ByteArray) = lineF (wdN rows) rows[k]) := rfl
              generalize rawI (wdN rows) rows[k] rows[k].length = raw at *
              go_wp2_with fail
              refine (Tryz.strings_TrimRight_one _ 32 (by decide) _ (by show raw.toArray.size ≤ _; rw [List.size_toArray]; omega)).mono ?_
              rintro e w' ⟨rfl, rfl⟩
              rw [show (⟨raw.toArray⟩ : ByteArray).data.toList = raw from rfl, hLF.out]
              have ho2 := ho.below hb2q
              have hwd2 := hwd.below hb2q
              have hb4 := hb.trans (hb2q.mono hb.size)
              have hs4 := hb4.size
              have hwl4 := hwd2.lt
              have ho3 : w'.ownsRow (w.heap.size + 1) 9 1 u9 k (((rows.take k).map (lineF (wdN rows))).flatMap fStr.enc) := by have := ho2; unfold Own at this; rw [HKL.out] at this; exact this
              clear ho ho2 hI
              go_wp2_with (at_builtin; refine wpList_append_one rfl _ _ 24 rfl (w.heap.size + 1) 9 i0 (.string ⟨#[]⟩) 1 16 Tryz.underlying24 hi hz0 hz1 hz2 rfl (by decide) u9 k _ rfl ho3 [.string (lineF (wdN rows) rows[k])] rfl (by intro u hu; rw [List.mem_singleton] at hu; subst hu; rfl) rfl (by omega) (by decide) (by omega) ?_)
              intro v' u hown hbu _ _
              have hbu' := hb4.trans (hbu.mono (by omega))
              have ho4 : Own fStr u (w.heap.size + 1) 9 v' ((rows.take (k + 1)).map (lineF (wdN rows))) := by rw [List.take_succ_eq_append_getElem hlt, List.map_append]; exact Own.push _ (by rw [HKL.out]) (by rw [← List.map_take] at hown; exact hown)
              have hwd5 := hwd2.belowB hbu (by omega)
              clear hown
              go_wp2
              go_roundw
              case rel => exact ⟨k + 1, by omega, by go_num, ho4, hwd5, hbu'⟩
              case measure => simp [intOf]; omega
        · have ho2 : Own fStr wo (w.heap.size + 1) 9 u9 (tabF rows) := by
            have e : (rows.take k) = rows := List.take_of_length_le (by omega)
            rw [e] at ho; exact ho
          clear ho
          have hn := Own.newB ho2 (by omega) hb hTOK
          obtain ⟨⟨fpn, hsl, hlo, hnd⟩, _⟩ := id hn
          go_wp2_with fail
          refine (reportOrFull_any _ (tabF rows) fpn _ hsl).mono ?_
          rintro e w' ⟨rfl, rfl⟩
          go_wp2
          go_ret2
          exact ⟨_, by rw [HCO.out]; rfl, by rw [HFO.out]; exact hn.done⟩

def szOf : Value → Nat
  | .string s => s.size
  | _ => 0
theorem rawS_zero (wd : Nat → Nat) (r : List ByteArray) : rawS wd r 0 = [] := rfl
def stS (l : List UInt8) : ByteArray := ⟨l.toArray⟩
theorem stS_size (l : List UInt8) : (stS l).size = l.length := by show l.toArray.size = _; simp
theorem stS_app (l : List UInt8) (c : ByteArray) : stS l ++ c = stS (l ++ c.data.toList) := by
  refine data_inj ?_
  rw [Go.Joins.data_append]; simp [stS]
theorem lineS_eq (wd : Nat → Nat) (r : List ByteArray) : lineF wd r = stS (Lib.trimRightB (rawS wd r r.length) 32) := by unfold lineF stS; rw [trim_raw]
/-- What stands before the blanks of cell j. -/
def preC (wd : Nat → Nat) (r : List ByteArray) (j : Nat) : List UInt8 := rawS wd r j ++ (if j = 0 then [] else [32, 32]) ++ (cellA r j).data.toList
theorem preC_full {wd : Nat → Nat} {r : List ByteArray} {j n : Nat} (hn : n = wd j - (cellA r j).size) : preC wd r j ++ spN n = rawS wd r (j + 1) := by
  rw [rawS_step]; unfold preC pcS; subst hn; simp
theorem spN_succ (n : Nat) : spN n ++ [32] = spN (n + 1) := by unfold spN; rw [List.replicate_succ']
set_option maxRecDepth 100000 in
set_option maxHeartbeats 8000000 in
theorem l30Table_any (v : Value) (rows : List (List ByteArray)) (fp : List Nat) (w : World) (hx : Sl fStr.cod.slice w v rows fp) (hlen : rows.length ≤ 1048577) (hsz : ∀ r ∈ rows, ∀ c ∈ r, c.size ≤ 1048576) (h12 : ∀ r ∈ rows, r.length ≤ 12) :
    Calls Tryz.prog 33 #[v] w fun e w' => NewR fStr.cod w (tabF rows) e w' := by
  obtain ⟨A, cap, rfl, hle, hca⟩ := hx.form
  obtain ⟨i0, hi, hz0, hz1, hz2⟩ := info_parts infoStrW
  obtain ⟨j0, hj, hy0, hy1, hy2⟩ := info_parts infoIntW
  have hmk : ∀ W : World, (Instr.makeSlice 99 (.int .i64 12) (.int .i64 12)).run Tryz.prog W = .ok (.slice (some ⟨W.heap.size, 0, none⟩) 12 12) (W.alloc (.cells (madeCells (Value.int .i64 0).cells (12 * j0.size)) 3)) := fun W => run_make_rowN (P := Tryz.prog) 99 3 j0 _ Tryz.underlying99 hj hy0 .i64 .i64 12 12 (Nat.le_refl _) (by rw [hy2]; decide) (by decide) W
  rw [hy1] at hmk
  have hmk' : ∀ W : World, (Instr.makeSlice 99 (.int .i64 12) (.int .i64 12)).run Tryz.prog W = .ok (.slice (some ⟨W.heap.size, 0, none⟩) 12 12) (W.alloc (.cells (madeCells #[Value.int .i64 0] 12) 3)) := hmk
  have hB0 : Below w.heap.size w (w.alloc (.cells (madeCells #[Value.int .i64 0] 12) 3)) := (Below.refl _ _).alloc (Nat.le_refl _) _
  have hW0 := (Wd.start w).congr (g := fun j => ((wdAt rows 0 0 j : Nat) : Int)) (fun j => by rw [wdAt_zero]; rfl)
  have hTOK := tab_ok h12 hsz
  clear hmk hj hy0 hy1 hy2
  go_enter Tryz.func33, Tryz.ntmps33
  go_wp2
  go_loopw [4] (fun i wr => ∃ k : Nat, k ≤ rows.length ∧ i = .int .i64 k ∧ Wd wr w.heap.size (fun j => ((wdAt rows k 0 j : Nat) : Int)) ∧ Below w.heap.size w wr) (fun i _ => rows.length - (intOf i).toNat)
  case atStart => exact ⟨0, Nat.zero_le _, rfl, hW0, hB0⟩
  case round =>
    clear hW0 hB0
    obtain ⟨k, hk, rfl, hwd, hb⟩ := hrel
    by_cases hlt : k < rows.length
    · obtain ⟨b, off, vk, fk, rfl, hc, hs0, _⟩ := hx.elem hlt
      obtain ⟨A1, cap1, rfl, hle1, hca1⟩ := hs0.form
      have hcb := block_lt_of_cell hc
      have hr12 := h12 rows[k] (List.getElem_mem hlt)
      go_wp2
      go_loopw [5] (fun i wq => ∃ j : Nat, j ≤ rows[k].length ∧ i = .int .i64 j ∧ Wd wq w.heap.size (fun i => ((wdAt rows k j i : Nat) : Int)) ∧ Below w.heap.size w wq) (fun i _ => rows[k].length - (intOf i).toNat)
      case atStart => exact ⟨0, Nat.zero_le _, rfl, hwd, hb⟩
      case round =>
        clear hwd hb
        obtain ⟨j, hj, rfl, hwd, hb⟩ := hrel
        have hc0 := (hb.cell (p := ⟨b, off + k, none⟩) hcb).trans hc
        by_cases hlt2 : j < rows[k].length
        · obtain ⟨b1, off1, rfl, _, hok, hcc, _⟩ := (hs0.below' hb).cell1 rfl hlt2 rfl
          have hwc := hwd.cell (j := j) (by omega)
          go_wp2
          have ghc0 := cell_regrown hc0
          have ghcc := cell_regrown hcc
          have ghwc := cell_regrown hwc
          refine wp_region_mix (C := fun w' => ∃ p : Regrown, w' = Go.Sort.grow (redrawn wr p.d) p.os) [true, true, true, true, true, true, true, true, true, true, true, true, true] (by kernel_rfl) (by kernel_rfl) (by kernel_rfl) (fun _ _ d _ _ h => by cases d <;> exact h) (regrown_of_below (Below.drew (Below.refl _ _))) ?_
          have hS0 : Below (wr.heap.size) wr wr.drew := Below.drew (Below.refl _ _)
          refine wpMix_pure (by kernel_rfl) (fun K hK => ?_); go_big_quiet_op; refine hK _ ?_; clear hK K
          refine wpMix_pure (by kernel_rfl) (fun K hK => ?_); go_big_quiet_op; refine hK _ ?_; clear hK K
          refine wpMix_pure (by kernel_rfl) (fun K hK => ?_); go_big_quiet_op; refine hK _ ?_; clear hK K
          refine wpMix_pure (by kernel_rfl) (fun K hK => ?_); go_big_quiet_op; refine hK _ ?_; clear hK K
          refine wpMix_pure (by kernel_rfl) (fun K hK => ?_); go_big_quiet_op; refine hK _ ?_; clear hK K
          refine wpMix_pure (by kernel_rfl) (fun K hK => ?_); go_big_quiet_op; refine hK _ ?_; clear hK K
          refine wpMix_pure (by kernel_rfl) (fun K hK => ?_); go_big_quiet_op; refine hK _ ?_; clear hK K
          refine wpMix_pure (by kernel_rfl) (fun K hK => ?_); go_big_quiet_op; refine hK _ ?_; clear hK K
          refine wpMix_pure (by kernel_rfl) (fun K hK => ?_); go_big_quiet_op; refine hK _ ?_; clear hK K
          refine wpMix_pure (by kernel_rfl) (fun K hK => ?_); go_big_quiet_op; refine hK _ ?_; clear hK K
          refine wpMix_pure (by kernel_rfl) (fun K hK => ?_); go_big_quiet_op; refine hK _ ?_; clear hK K
          refine wpMix_pure (by kernel_rfl) (fun K hK => ?_); go_big_quiet_op; refine hK _ ?_; clear hK K
          refine wpMix_pure (by kernel_rfl) (fun K hK => ?_); go_big_quiet_op; refine hK _ ?_; clear hK K
          refine wpMix_nil ?_
          have hbd : Below w.heap.size w wr.drew := hb.trans (hS0.mono hb.size)
          have hwdd := hwd.below hS0
          have hc0d : wr.drew.cell? ⟨b, off + k, none⟩ = some (.slice (some ⟨b1, off1, none⟩) rows[k].length cap1) := hc0
          have hccd : wr.drew.cell? ⟨b1, off1 + j, none⟩ = some (.string rows[k][j]) := hcc
          have hwcd := hwdd.cell (j := j) (by omega)
          have hwz := hwdd.frozen j
          clear hwd hwc hc0 hcc hb ghc0 ghcc ghwc hS0
          by_cases hbig : wdAt rows k j j < rows[k][j].size
          · have hw2 := (hwdd.set j ((rows[k][j].size : Nat) : Int)).congr (fun i => wdAt_more hlt hlt2 hbig i)
            have hb2 : Below w.heap.size w (wr.drew.setCell ⟨w.heap.size, j, none⟩ (.int .i64 ((rows[k][j].size : Nat) : Int))) := hbd.setCell (Nat.le_refl _) _
            go_wp2
            go_roundw
            case rel => exact ⟨j + 1, by omega, by go_num, hw2, hb2⟩
            case measure => simp [intOf]; omega
          · have hw2 := hwdd.congr (g := fun i => ((wdAt rows k (j + 1) i : Nat) : Int)) (fun i => by rw [wdAt_same hlt hlt2 (by omega)])
            go_wp2
            go_roundw
            case rel => exact ⟨j + 1, by omega, by go_num, hw2, hbd⟩
            case measure => simp [intOf]; omega
        · have hw2 := hwd.congr (g := fun i => ((wdAt rows (k + 1) 0 i : Nat) : Int)) (fun i => by rw [wdAt_full hlt (by omega), wdAt_zero])
          go_wp2
          go_roundw
          case rel => exact ⟨k + 1, by omega, by go_num, hw2, hb⟩
          case measure => simp [intOf]; omega
    · replace hwd := hwd.congr (g := fun j => ((wdN rows j : Nat) : Int)) (fun j => by rw [wdN_all (by omega)])
      have hwl0 := hwd.lt
      go_wp2
      go_loopw [6, 7] (fun l i wr => ∃ k : Nat, k ≤ rows.length ∧ i = .int .i64 k ∧ Own fStr wr (w.heap.size + 1) 9 l ((rows.take k).map (lineF (wdN rows))) ∧ Wd wr w.heap.size (fun j => ((wdN rows j : Nat) : Int)) ∧ Below w.heap.size w wr) (fun _ i _ => rows.length - (intOf i).toNat)
      case atStart => exact ⟨0, Nat.zero_le _, rfl, Own.lit0m fStr (by omega), hwd.below ((Below.refl _ _).alloc (Nat.le_refl _) _), hb.alloc hb.size _⟩
      case round =>
        clear hwd hb hk hwl0
        obtain ⟨k, hk, rfl, ho, hwd, hb⟩ := hrel
        have hbs := hb.size
        have hwl := hwd.lt
        by_cases hlt : k < rows.length
        · obtain ⟨b, off, vk, fk, rfl, hc, hs0, _⟩ := hx.elem hlt
          obtain ⟨A1, cap1, rfl, hle1, hca1⟩ := hs0.form
          have hcb := block_lt_of_cell hc
          have hc0 := (hb.cell (p := ⟨b, off + k, none⟩) hcb).trans hc
          have hr12 := h12 rows[k] (List.getElem_mem hlt)
          have hkl : ((rows.take k).map (lineF (wdN rows))).length = k := by simp; omega
          have HKL := Lib.hid hkl
          have ho3 : wr.ownsRow (w.heap.size + 1) 9 1 u6 k (((rows.take k).map (lineF (wdN rows))).flatMap fStr.enc) := by have := ho; unfold Own at this; rw [hkl] at this; exact this
          have hs1 := hs0.below' hb
          have hraw : ∀ j, j ≤ rows[k].length → (rawS (wdN rows) rows[k] j).length ≤ 30000000 := fun j hj => by
            have h1 := rawS_len (wd := wdN rows) (r := rows[k]) (fun j => wdN_le hsz j) (fun i => cellA_le (hsz rows[k] (List.getElem_mem hlt)) i) j
            have : (2 * 1048576 + 2) * j ≤ (2 * 1048576 + 2) * 12 := Nat.mul_le_mul_left _ (by omega)
            omega
          clear hkl ho
          go_wp2
          go_loop [8, 9] (fun l i => ∃ j : Nat, j ≤ rows[k].length ∧ i = .int .i64 j ∧ l = .string (stS (rawS (wdN rows) rows[k] j))) (fun _ i => rows[k].length - (intOf i).toNat)
          case atStart => exact ⟨0, Nat.zero_le _, rfl, rfl⟩
          case round =>
            obtain ⟨j, hj, rfl, rfl⟩ := hrel
            by_cases hlt2 : j < rows[k].length
            · obtain ⟨b1, off1, rfl, _, hok, hcc, _⟩ := hs1.cell1 rfl hlt2 rfl
              have hcs := hsz rows[k] (List.getElem_mem hlt) rows[k][j] (List.getElem_mem hlt2)
              have hwm : rows[k][j].size ≤ wdN rows j := by have := wdN_mem (List.getElem_mem hlt) j; rw [cellA_at hlt2] at this; exact this
              have hwB := wdN_le hsz j
              have hwc := hwd.cell (j := j) (by omega)
              have hr0 := hraw j hj
              have hr1 := hraw (j + 1) hlt2
              have HPC : Hid (∀ n, n = wdN rows j - rows[k][j].size → preC (wdN rows) rows[k] j ++ spN n = rawS (wdN rows) rows[k] (j + 1)) := fun n hn => preC_full (by rw [cellA_at hlt2]; exact hn)
              have hpl : (preC (wdN rows) rows[k] j).length ≤ 31100000 := by
                unfold preC
                rw [List.length_append, List.length_append, cellA_at hlt2]
                have e1 : rows[k][j].data.toList.length = rows[k][j].size := by simp
                split <;> simp only [List.length_nil, List.length_cons] <;> omega
              have HSP := Lib.hid spN_succ
              obtain ⟨t0, ht0⟩ : ∃ t0, t0 = stS (rawS (wdN rows) rows[k] j) := ⟨_, rfl⟩
              have hts0 : t0.size ≤ 30000000 := by rw [ht0, stS_size]; exact hr0
              rw [← ht0]
              rcases Nat.eq_zero_or_pos j with hj0 | hj0
              · subst hj0
                have hcc' : wr.cell? ⟨b1, off1, none⟩ = some (.string rows[k][0]) := by simpa using hcc
                have HPR : Hid (t0 ++ rows[k][0] = stS (preC (wdN rows) rows[k] 0)) := by
                  show _ = _; rw [ht0, stS_app]; unfold preC; rw [cellA_at hlt2]; simp
                clear ht0
                go_wp2
                go_loop [8, 10] (fun l i => ∃ n : Nat, n ≤ wdN rows 0 - rows[k][0].size ∧ i = .int .i64 ((rows[k][0].size + n : Nat) : Int) ∧ l = .string (stS (preC (wdN rows) rows[k] 0 ++ spN n))) (fun _ i => wdN rows 0 - (intOf i).toNat)
                case atStart => exact ⟨0, Nat.zero_le _, by simp, by rw [HPR.out, show spN 0 = [] from rfl, List.append_nil]⟩
                case round =>
                  obtain ⟨n, hn, rfl, rfl⟩ := hrel
                  by_cases hlt3 : n < wdN rows 0 - rows[k][0].size
                  · have HSS : Hid (stS (preC (wdN rows) rows[k] 0 ++ spN n) ++ ⟨#[32]⟩ = stS (preC (wdN rows) rows[k] 0 ++ spN (n + 1))) := by
                      show _ = _; rw [stS_app, List.append_assoc, show (⟨#[32]⟩ : ByteArray).data.toList = [32] from rfl, HSP.out]
                    obtain ⟨t1, ht1⟩ : ∃ t1, t1 = stS (preC (wdN rows) rows[k] 0 ++ spN n) := ⟨_, rfl⟩
                    have hts2 : t1.size ≤ 40000000 := by rw [ht1, stS_size, List.length_append]; unfold spN; rw [List.length_replicate]; omega
                    rw [← ht1] at HSS ⊢
                    clear ht1
                    go_wp2
                    go_round
                    case rel => exact ⟨n + 1, by omega, by go_num, by rw [HSS.out]⟩
                    case measure => simp [intOf]; omega
                  · obtain rfl : n = wdN rows 0 - rows[k][0].size := by omega
                    rw [HPC.out _ rfl]
                    go_wp2
                    go_round
                    case rel => exact ⟨0 + 1, by omega, by go_num, rfl⟩
                    case measure => simp [intOf]; omega
              · have HPR : Hid (t0 ++ ⟨#[32, 32]⟩ ++ rows[k][j] = stS (preC (wdN rows) rows[k] j)) := by
                  show _ = _; rw [ht0, stS_app, stS_app]; unfold preC; rw [cellA_at hlt2, if_neg (by omega)]
                have hts1 : (t0 ++ ⟨#[32, 32]⟩).size ≤ 30000002 := by rw [ByteArray.size_append]; show _ + 2 ≤ _; omega
                clear ht0
                go_wp2
                go_loop [8, 10] (fun l i => ∃ n : Nat, n ≤ wdN rows j - rows[k][j].size ∧ i = .int .i64 ((rows[k][j].size + n : Nat) : Int) ∧ l = .string (stS (preC (wdN rows) rows[k] j ++ spN n))) (fun _ i => wdN rows j - (intOf i).toNat)
                case atStart => exact ⟨0, Nat.zero_le _, by simp, by rw [HPR.out, show spN 0 = [] from rfl, List.append_nil]⟩
                case round =>
                  obtain ⟨n, hn, rfl, rfl⟩ := hrel
                  by_cases hlt3 : n < wdN rows j - rows[k][j].size
                  · have HSS : Hid (stS (preC (wdN rows) rows[k] j ++ spN n) ++ ⟨#[32]⟩ = stS (preC (wdN rows) rows[k] j ++ spN (n + 1))) := by
                      show _ = _; rw [stS_app, List.append_assoc, show (⟨#[32]⟩ : ByteArray).data.toList = [32] from rfl, HSP.out]
                    obtain ⟨t1, ht1⟩ : ∃ t1, t1 = stS (preC (wdN rows) rows[k] j ++ spN n) := ⟨_, rfl⟩
                    have hts2 : t1.size ≤ 40000000 := by rw [ht1, stS_size, List.length_append]; unfold spN; rw [List.length_replicate]; omega
                    rw [← ht1] at HSS ⊢
                    clear ht1
                    go_wp2
                    go_round
                    case rel => exact ⟨n + 1, by omega, by go_num, by rw [HSS.out]⟩
                    case measure => simp [intOf]; omega
                  · obtain rfl : n = wdN rows j - rows[k][j].size := by omega
                    rw [HPC.out _ rfl]
                    go_wp2
                    go_round
                    case rel => exact ⟨j + 1, by omega, by go_num, rfl⟩
                    case measure => simp [intOf]; omega
            · obtain rfl : j = rows[k].length := by omega
              have HLF : Hid (lineF (wdN rows) rows[k] = stS (Lib.trimRightB (rawS (wdN rows) rows[k] rows[k].length) 32)) := lineS_eq _ _
              have hr0 := hraw _ (Nat.le_refl _)
              clear hraw hs1
              generalize rawS (wdN rows) rows[k] rows[k].length = raw at *
              go_wp2
              go_loop [8] (fun l => ∃ m : Nat, m ≤ raw.length ∧ l = .string (stS (raw.take m)) ∧ Hid (Lib.trimRightB raw 32 = Lib.trimRightB (raw.take m) 32)) (fun l => szOf l)
              case atStart => exact ⟨raw.length, Nat.le_refl _, by rw [List.take_length], by show _ = _; rw [List.take_length]⟩
              case round =>
                obtain ⟨m, hm, rfl, HT⟩ := hrel
                have hts : (stS (raw.take m)).size = m := by rw [stS_size, List.length_take]; omega
                have htd : (stS (raw.take m)).data.toList = raw.take m := rfl
                have HTE : Hid (stS (raw.take m) = stS (raw.take m)) := rfl
                generalize hT : stS (raw.take m) = t at hts htd HTE ⊢
                have HTT := Lib.hid hT
                clear hT
                have HEND : Hid (Lib.trimRightB (raw.take m) 32 = raw.take m → t = lineF (wdN rows) rows[k]) := fun e => by rw [HLF.out, HT.out, e]; exact HTT.out.symm
                rcases Nat.eq_zero_or_pos m with hm0 | hm0
                · have hz : t.size = 0 := by omega
                  have hend := HEND.out (by subst hm0; rfl)
                  have HEN := Lib.hid hend
                  have HTD := Lib.hid htd
                  have e0 : (t.size : Int) = 0 := by omega
                  clear hts hz hend HEND htd
                  go_wp2_with (at_builtin; refine wpList_append_one rfl _ _ 24 rfl (w.heap.size + 1) 9 i0 (.string ⟨#[]⟩) 1 16 Tryz.underlying24 hi hz0 hz1 hz2 rfl (by decide) u6 k _ rfl ho3 [.string t] rfl (by intro u hu; rw [List.mem_singleton] at hu; subst hu; rfl) rfl (by omega) (by decide) (by omega) ?_)
                  intro v' u hown hbu _ _
                  have hbu' := hb.trans (hbu.mono (by omega))
                  rw [HEN.out] at hown
                  have ho4 : Own fStr u (w.heap.size + 1) 9 v' ((rows.take (k + 1)).map (lineF (wdN rows))) := by rw [List.take_succ_eq_append_getElem hlt, List.map_append]; exact Own.push _ (by rw [HKL.out]) (by rw [← List.map_take] at hown; exact hown)
                  have hwd5 := hwd.belowB hbu (by omega)
                  clear hown
                  go_wp2
                  go_roundw
                  case rel => exact ⟨k + 1, by omega, by go_num, ho4, hwd5, hbu'⟩
                  case measure => simp [intOf]; omega
                · obtain ⟨m', rfl⟩ : ∃ m', m = m' + 1 := ⟨m - 1, by omega⟩
                  have hlm : m' < t.size := by omega
                  have es : ((t.size : Nat) : Int) - 1 = ((m' : Nat) : Int) := by omega
                  have hget : raw[m']? = some t[m'] := by
                    have h1 : t.data.toList[m']? = some t[m'] := by
                      rw [List.getElem?_eq_getElem (by simpa using hlm)]
                      simp
                      rfl
                    rw [htd, List.getElem?_take_of_lt (by omega)] at h1
                    exact h1
                  by_cases hbl : t[m'] = 32
                  · have e32 : ((t[m'].toNat : Int) == 32) = true := by rw [hbl]; rfl
                    have HT2 : Hid (Lib.trimRightB raw 32 = Lib.trimRightB (raw.take m') 32) := by show _ = _; rw [HT.out, trim_cut (by rw [hget, hbl])]
                    have HEX : Hid (t.extract 0 m' = stS (raw.take m')) := by
                      show _ = _
                      refine data_inj ?_
                      rw [extract_toList, htd, List.drop_zero, List.take_take]
                      show _ = raw.take m'
                      congr 1; omega
                    have hex : (t.extract 0 m').size = m' := by rw [HEX.out, stS_size, List.length_take]; omega
                    have HTD := Lib.hid htd
                    clear hbl hget htd HEND HTE
                    go_wp2
                    go_round
                    case rel => exact ⟨m', by omega, by rw [HEX.out], HT2⟩
                    case measure => simp [szOf]; omega
                  · have e32 : ((t[m'].toNat : Int) == 32) = false := by
                      rw [beq_eq_false_iff_ne]; intro e
                      exact hbl (UInt8.toNat_inj.1 (by have : (32 : UInt8).toNat = 32 := rfl; omega))
                    have HEN := Lib.hid (HEND.out (trim_stop hget hbl))
                    have HTD := Lib.hid htd
                    clear hbl hget htd HEND HTE
                    go_wp2_with (at_builtin; refine wpList_append_one rfl _ _ 24 rfl (w.heap.size + 1) 9 i0 (.string ⟨#[]⟩) 1 16 Tryz.underlying24 hi hz0 hz1 hz2 rfl (by decide) u6 k _ rfl ho3 [.string t] rfl (by intro u hu; rw [List.mem_singleton] at hu; subst hu; rfl) rfl (by omega) (by decide) (by omega) ?_)
                    intro v' u hown hbu _ _
                    have hbu' := hb.trans (hbu.mono (by omega))
                    rw [HEN.out] at hown
                    have ho4 : Own fStr u (w.heap.size + 1) 9 v' ((rows.take (k + 1)).map (lineF (wdN rows))) := by rw [List.take_succ_eq_append_getElem hlt, List.map_append]; exact Own.push _ (by rw [HKL.out]) (by rw [← List.map_take] at hown; exact hown)
                    have hwd5 := hwd.belowB hbu (by omega)
                    clear hown
                    go_wp2
                    go_roundw
                    case rel => exact ⟨k + 1, by omega, by go_num, ho4, hwd5, hbu'⟩
                    case measure => simp [intOf]; omega
        · have ho2 : Own fStr wr (w.heap.size + 1) 9 u6 (tabF rows) := by
            have e : (rows.take k) = rows := List.take_of_length_le (by omega)
            rw [e] at ho; exact ho
          clear ho
          have hn := Own.newB ho2 (by omega) hb hTOK
          go_wp2
          go_ret
          exact ⟨_, rfl, hn⟩

end Go.Proofs.YtgnbhcgagdfaiaaGreatDoor

namespace Go.Proofs.YtgnbhcgagdfaiaaGreatDoor
open Go.RowKit
set_option linter.unusedVariables false

/-- The text of a day that is in range. -/
noncomputable def dayP (n : Int) : Int × Int × Int := Classical.epsilon (fun p : Int × Int × Int => dateOk p.1 p.2.1 p.2.2 ∧ n = numD p.1 p.2.1 p.2.2)
noncomputable def dayT (n : Int) : ByteArray := dayS (dayP n).1 (dayP n).2.1 (dayP n).2.2
theorem dayP_ok {n : Int} (h0 : 0 ≤ n) (h1 : n ≤ 36524) : dateOk (dayP n).1 (dayP n).2.1 (dayP n).2.2 ∧ n = numD (dayP n).1 (dayP n).2.1 (dayP n).2.2 := by
  have h : ∃ p : Int × Int × Int, dateOk p.1 p.2.1 p.2.2 ∧ n = numD p.1 p.2.1 p.2.2 := by
    obtain ⟨y, m, d, h2, h3⟩ := day_has h0 h1
    exact ⟨(y, m, d), h2, h3⟩
  exact Classical.epsilon_spec h
def hdI : List ByteArray := [⟨#[100, 97, 121]⟩, ⟨#[112, 108, 97, 99, 101]⟩, ⟨#[108, 101, 118, 101, 108]⟩, ⟨#[99, 97, 117, 103, 104, 116]⟩, ⟨#[98, 117, 114, 105, 101, 100]⟩]
noncomputable def rowI (x : DIncident) : List ByteArray := [dayT x.day, x.place, decS x.level, decS x.caught, decS x.buried]
noncomputable def rowsI (xs : List DIncident) (k : Nat) : List (List ByteArray) := hdI :: (xs.take k).map rowI
theorem rowsI_zero (xs : List DIncident) : rowsI xs 0 = [hdI] := rfl
theorem rowsI_step {xs : List DIncident} {k : Nat} (h : k < xs.length) : rowsI xs (k + 1) = rowsI xs k ++ [rowI xs[k]] := by
  unfold rowsI; rw [List.take_succ_eq_append_getElem h, List.map_append]; rfl
theorem rowsI_len {xs : List DIncident} {k : Nat} (h : k ≤ xs.length) : (rowsI xs k).length = k + 1 := by unfold rowsI; simp; omega
noncomputable def irF (xs : List DIncident) : List ByteArray := if incsB xs then doneF (tabF (rowsI xs xs.length)) else []
noncomputable def irC (xs : List DIncident) : Int := if incsB xs then doneC (tabF (rowsI xs xs.length)) else 1
structure IncP (x : DIncident) : Prop where
  day : 0 ≤ x.day ∧ x.day ≤ 36524
  place : nameB x.place = true
  level : 1 ≤ x.level ∧ x.level ≤ 5
  caught : 0 ≤ x.caught ∧ x.caught ≤ 20
  buried : 0 ≤ x.buried ∧ x.buried ≤ 20
theorem incP_of {x : DIncident} (h : incB x = true) : IncP x := by
  unfold incB at h
  simp only [Bool.and_eq_true, inB_true] at h
  obtain ⟨⟨⟨⟨⟨h1, h2⟩, h3⟩, h4⟩, h5⟩, h6⟩ := h
  exact ⟨h1, h2, h4, h5, by omega⟩
theorem nameB_sizeP {s : ByteArray} (h : nameB s = true) : s.size ≤ 10 := by
  by_cases h1 : 10 < s.size
  · rw [nameB_long h1] at h; cases h
  · omega
theorem dec_cell : ∀ k : Fin 21, cellOk (decS (k.1 : Int)) = true := by decide +kernel
theorem dec_cellOk {n : Int} (h0 : 0 ≤ n) (h1 : n ≤ 20) : cellOk (decS n) = true := by
  have := dec_cell ⟨n.toNat, by omega⟩
  simp only [Int.toNat_of_nonneg h0] at this
  exact this
theorem dig_okB {k : Nat} (h : k < 10) : okByte 33 126 (UInt8.ofNat (48 + k)) = true := by
  have e : (UInt8.ofNat (48 + k)).toNat = 48 + k := by rw [UInt8.toNat_ofNat']; omega
  unfold okByte
  rw [e]; simp; omega
theorem day_cellOk {y m d : Int} (h : dateOk y m d) : cellOk (dayS y m d) = true := by
  obtain ⟨⟨hy0, hy1⟩, ⟨hm0, hm1⟩, hd0, hd1⟩ := id h
  have hl := lenM_pos y hm0 hm1
  unfold cellOk bwAll
  show (dayL y m d).all _ = true
  unfold dayL
  rw [yearL hy0 hy1]
  unfold two
  have e45 : okByte 33 126 45 = true := by decide
  simp only [List.cons_append, List.nil_append, List.all_cons, List.all_nil, e45]
  rw [dig_okB (k := y.toNat / 1000) (by omega), dig_okB (k := y.toNat / 100 % 10) (by omega), dig_okB (k := y.toNat / 10 % 10) (by omega), dig_okB (k := y.toNat % 10) (by omega), dig_okB (k := m.toNat / 10) (by omega), dig_okB (k := m.toNat % 10) (by omega), dig_okB (k := d.toNat / 10) (by omega), dig_okB (k := d.toNat % 10) (by omega)]
  rfl
theorem name_cellOk {s : ByteArray} (h : nameB s = true) : cellOk s = true := by
  unfold nameB at h
  simp only [Bool.and_eq_true] at h
  have ha : allNm s.data.toList = true := by first | exact h.2 | exact h.1.2 | exact h.1.1.2 | exact h.1.1.1
  unfold cellOk bwAll
  refine List.all_eq_true.2 fun b hb => ?_
  unfold allNm at ha
  have := List.all_eq_true.1 ha b hb
  simp only [okNm, smallB, digitB, Bool.or_eq_true, inB_true] at this
  unfold okByte
  simp only [Bool.and_eq_true, decide_eq_true_eq]
  omega
theorem hd_ok : rowOk hdI = true := by decide
theorem row_ok {x : DIncident} (h : incB x = true) : rowOk (rowI x) = true := by
  have p := incP_of h
  unfold rowOk rowI
  have h1 : cellOk (dayT x.day) = true := day_cellOk (dayP_ok p.day.1 p.day.2).1
  simp only [List.all_cons, List.all_nil, h1, name_cellOk p.place, dec_cellOk (n := x.level) (by have := p.level; omega) (by have := p.level; omega), dec_cellOk p.caught.1 p.caught.2, dec_cellOk p.buried.1 p.buried.2]
  rfl
theorem rows_ok {xs : List DIncident} (h : incsB xs = true) (k : Nat) : rowsOk (rowsI xs k) = true := by
  unfold rowsOk rowsI
  rw [List.all_cons, hd_ok, Bool.true_and]
  refine List.all_eq_true.2 fun r hr => ?_
  obtain ⟨x, hx, rfl⟩ := List.mem_map.1 hr
  obtain ⟨m, hm, rfl⟩ := List.getElem_of_mem (List.mem_of_mem_take hx)
  exact row_ok (incsB_one h hm)
theorem row_size {x : DIncident} (h : incB x = true) : ∀ c ∈ rowI x, c.size ≤ 1048576 := by
  have p := incP_of h
  have h1 : (dayT x.day).size = 10 := dayS_size (dayP_ok p.day.1 p.day.2).1
  have h2 := nameB_sizeP p.place
  have hd : ∀ n : Int, 0 ≤ n → n ≤ 20 → (decS n).size ≤ 30 := fun n a b => by rw [decS_size]; have := itoa_len20 (n := n) (by omega) (by omega); omega
  intro c hc
  unfold rowI at hc
  simp only [List.mem_cons, List.not_mem_nil, or_false] at hc
  rcases hc with rfl | rfl | rfl | rfl | rfl
  · omega
  · omega
  · have := hd x.level (by have := p.level; omega) (by have := p.level; omega); omega
  · have := hd x.caught p.caught.1 p.caught.2; omega
  · have := hd x.buried p.buried.1 p.buried.2; omega
theorem rows_size {xs : List DIncident} (h : incsB xs = true) (k : Nat) : ∀ r ∈ rowsI xs k, ∀ c ∈ r, c.size ≤ 1048576 := by
  intro r hr
  unfold rowsI at hr
  rcases List.mem_cons.1 hr with rfl | hr
  · decide
  · obtain ⟨x, hx, rfl⟩ := List.mem_map.1 hr
    obtain ⟨m, hm, rfl⟩ := List.getElem_of_mem (List.mem_of_mem_take hx)
    exact row_size (incsB_one h hm)
theorem irF_len {xs : List DIncident} (h : xs.length ≤ 1048576) : (irF xs).length ≤ 100000000000 := by
  unfold irF doneF tabF rowsI
  (repeat' split) <;> simp <;> omega
theorem rowI_oks {x : DIncident} (h : incB x = true) : ∀ c ∈ rowI x, fStr.ok c := fun c hc => by have := row_size h c hc; show _ ≤ _; omega
theorem hd_oks : ∀ c ∈ hdI, fStr.ok c := by
  intro c hc
  have : c.size ≤ 10 := by revert c; decide
  show _ ≤ _; omega
theorem PIncident.keptI {w w' : World} {g off : Nat} {x : DIncident} (h : PIncident w g off x) (hb : ∀ j, w'.cell? ⟨g, j, none⟩ = w.cell? ⟨g, j, none⟩) : PIncident w' g off x :=
  ⟨(hb _).trans h.c0, (hb _).trans h.c1, (hb _).trans h.c2, (hb _).trans h.c3, (hb _).trans h.c4, (hb _).trans h.c5⟩
theorem W_le {B : Nat} {a b : World} (h : Below B a b) : a.heap.size ≤ b.heap.size := h.size
set_option maxRecDepth 100000 in
set_option maxHeartbeats 8000000 in
theorem implIncidentReport_any (v : Value) (xs : List DIncident) (fp : List Nat) (w : World) (hx : Sl fIncident.cod w v xs fp) (ht : Tab10 w) :
    Calls Tryz.prog 16 #[v] w fun e w' => NewR2 fStr.cod w (irF xs) (irC xs) e w' := by
  obtain ⟨A, cap, rfl, hle, hca⟩ := hx.form
  obtain ⟨i0, hi, hz0, hz1, hz2⟩ := info_parts infoSliceR
  have hlt0 := hx.lt
  go_enter Tryz.func16, Tryz.ntmps16
  go_wp2_with fail
  refine (ValidIncidents_any _ xs fp _ hx).mono ?_
  rintro e w1 ⟨rfl, hb1⟩
  cases h0 : incsB xs
  · go_wp2
    go_ret2
    exact ⟨_, by rw [irC, h0]; rfl, by rw [irF, h0]; exact New.nil hb1⟩
  · have HC := Lib.hid (show irC xs = doneC (tabF (rowsI xs xs.length)) from by rw [irC, h0]; rfl)
    have HF := Lib.hid (show irF xs = doneF (tabF (rowsI xs xs.length)) from by rw [irF, h0]; rfl)
    have hBa : Below w.heap.size w (w1.alloc (.cells #[.string ⟨#[100, 97, 121]⟩, .string ⟨#[112, 108, 97, 99, 101]⟩, .string ⟨#[108, 101, 118, 101, 108]⟩, .string ⟨#[99, 97, 117, 103, 104, 116]⟩, .string ⟨#[98, 117, 114, 105, 101, 100]⟩] 9)) := hb1.alloc hb1.size _
    have hB0 : Below w.heap.size w ((w1.alloc (.cells #[.string ⟨#[100, 97, 121]⟩, .string ⟨#[112, 108, 97, 99, 101]⟩, .string ⟨#[108, 101, 118, 101, 108]⟩, .string ⟨#[99, 97, 117, 103, 104, 116]⟩, .string ⟨#[98, 117, 114, 105, 101, 100]⟩] 9)).alloc (.cells #[.slice (some ⟨w1.heap.size, 0, none⟩) 5 5] 24)) := hBa.alloc hBa.size _
    have hs0 : Sl fStr.cod (w1.alloc (.cells #[.string ⟨#[100, 97, 121]⟩, .string ⟨#[112, 108, 97, 99, 101]⟩, .string ⟨#[108, 101, 118, 101, 108]⟩, .string ⟨#[99, 97, 117, 103, 104, 116]⟩, .string ⟨#[98, 117, 114, 105, 101, 100]⟩] 9)) (.slice (some ⟨w1.heap.size, 0, none⟩) 5 5) hdI [w1.heap.size] := Sl.lit2 (E := fStr) w1 hdI _ _ rfl hd_oks (by show 0 < 5; decide) (by show 5 ≤ _; decide)
    have hr0 := RowsV.first (B := w.heap.size) hBa.size hs0 (fun b hb => by rw [List.mem_singleton] at hb; subst hb; exact hb1.size)
    rw [← rowsI_zero xs, World.size_alloc] at hr0
    have H0 := Lib.hid h0
    have hl48 := incsB_len h0
    clear h0 hs0 hBa
    go_wp2
    go_loopw [4, 14] (fun v i wr => ∃ k : Nat, k ≤ xs.length ∧ i = .int .i64 k ∧ (∃ V F, RowsV wr w.heap.size v (rowsI xs k) V F) ∧ Below w.heap.size w wr) (fun _ i _ => xs.length - (intOf i).toNat)
    case atStart => exact ⟨0, Nat.zero_le _, rfl, ⟨_, _, hr0⟩, hB0⟩
    case round =>
      clear hr0 hB0
      obtain ⟨k, hk, rfl, ⟨V, F, hrw⟩, hb⟩ := hrel
      by_cases hlt : k < xs.length
      · obtain ⟨b, off, rfl, hbm0, hok, hp⟩ := PIncident.elem (hx.below' hb) hlt
        have hbm := hlt0 b hbm0
        have hv := incsB_one H0.out hlt
        have hpp := incP_of hv
        have HDO := Lib.hid (dayP_ok hpp.day.1 hpp.day.2)
        have HRO := Lib.hid (rowI_oks hv)
        have HST : Hid (rowsI xs (k + 1) = rowsI xs k ++ [rowI xs[k]]) := rowsI_step hlt
        obtain ⟨_, _, hlv, hcg, hbd⟩ := hpp
        obtain ⟨c0, c1, c2, c3, c4, c5⟩ := id hp
        have hrow : u4.ownBlock ≠ some wr.heap.size := fun e => by have := (World.ownsRow.lt hrw.own _ e).2; omega
        go_wp2
        refine at_world (fun W => Below w.heap.size w W ∧ PIncident W wr.heap.size 0 xs[k] ∧ RowsV W w.heap.size u4 (rowsI xs k) V F) ⟨hb.alloc hb.size _, PIncident.box wr xs[k] _, hrw.below ((Below.refl _ _).alloc (Nat.le_refl _) _)⟩ ?_
        clear c0 c1 c2 c3 c4 c5 hp hrw
        generalize wr.heap.size = wq at *
        rintro W ⟨hBW, hpW, hrW⟩
        have hbW := hBW.size
        have hrowne : some wq = u4.ownBlock → False := fun e => hrow e.symm
        have gk0 : ∀ p : KeptW (w.heap.size) W (fun N => PIncident N wq 0 xs[k]), p.v.cell? ⟨wq, 0, none⟩ = some (.int .i64 xs[k].day) := fun p => p.x.c0
        have gk1 : ∀ p : KeptW (w.heap.size) W (fun N => PIncident N wq 0 xs[k]), p.v.cell? ⟨wq, 1, none⟩ = some (.string xs[k].place) := fun p => p.x.c1
        have gk3 : ∀ p : KeptW (w.heap.size) W (fun N => PIncident N wq 0 xs[k]), p.v.cell? ⟨wq, 3, none⟩ = some (.int .i64 xs[k].level) := fun p => p.x.c3
        have gk4 : ∀ p : KeptW (w.heap.size) W (fun N => PIncident N wq 0 xs[k]), p.v.cell? ⟨wq, 4, none⟩ = some (.int .i64 xs[k].caught) := fun p => p.x.c4
        have gk5 : ∀ p : KeptW (w.heap.size) W (fun N => PIncident N wq 0 xs[k]), p.v.cell? ⟨wq, 5, none⟩ = some (.int .i64 xs[k].buried) := fun p => p.x.c5
        haveI hKne : Nonempty (KeptW (w.heap.size) W (fun N => PIncident N wq 0 xs[k])) := ⟨⟨_, Below.drew (Below.refl _ _), (hpW.below' (Below.drew (Below.refl _ _)))⟩⟩
        refine wp_region_mixed [0, 1, 2, 4, 5, 6, 7, 9, 10, 12, 13, 3, 8, 11, 14, 15, 16, 17, 18] (C := fun w' => ∃ p : KeptW (w.heap.size) W (fun N => PIncident N wq 0 xs[k]), w' = p.v) [true, true, true, true, true, true, true, true, true, true, true, false, false, false, false, false, false, false, true] (by kernel_rfl) (by kernel_rfl) (by kernel_rfl) (fun _ _ d _ _ h => by cases d <;> exact h) ⟨⟨_, Below.drew (Below.refl _ _), (hpW.below' (Below.drew (Below.refl _ _)))⟩, rfl⟩ ?_
        simp only [List.map_cons, List.map_nil, List.getD_cons_zero, List.getD_cons_succ]
        have hS0 : Below (w.heap.size) W W.drew := Below.drew (Below.refl _ _)
        refine wpMix_pure (by kernel_rfl) (fun K hK => ?_); go_big_quiet_op; refine hK _ ?_; clear hK K
        refine wpMix_pure (by kernel_rfl) (fun K hK => ?_); go_big_quiet_op; refine hK _ ?_; clear hK K
        refine wpMix_pure (by kernel_rfl) (fun K hK => ?_); go_big_quiet_op; refine hK _ ?_; clear hK K
        refine wpMix_pure (by kernel_rfl) (fun K hK => ?_); go_big_quiet_op; refine hK _ ?_; clear hK K
        refine wpMix_pure (by kernel_rfl) (fun K hK => ?_); go_big_quiet_op; refine hK _ ?_; clear hK K
        refine wpMix_pure (by kernel_rfl) (fun K hK => ?_); go_big_quiet_op; refine hK _ ?_; clear hK K
        refine wpMix_pure (by kernel_rfl) (fun K hK => ?_); go_big_quiet_op; refine hK _ ?_; clear hK K
        refine wpMix_pure (by kernel_rfl) (fun K hK => ?_); go_big_quiet_op; refine hK _ ?_; clear hK K
        refine wpMix_pure (by kernel_rfl) (fun K hK => ?_); go_big_quiet_op; refine hK _ ?_; clear hK K
        refine wpMix_pure (by kernel_rfl) (fun K hK => ?_); go_big_quiet_op; refine hK _ ?_; clear hK K
        refine wpMix_pure (by kernel_rfl) (fun K hK => ?_); go_big_quiet_op; refine hK _ ?_; clear hK K
        refine wpMix_act (by kernel_rfl) (fun K hK => ?_)
        go_big_op
        refine (DateText_any (dayP xs[k].day).1 (dayP xs[k].day).2.1 (dayP xs[k].day).2.2 xs[k].day _ HDO.out.1 HDO.out.2 (ht.below (hBW.trans hS0))).mono ?_
        rintro e wr1 ⟨rfl, hbr1⟩
        have hbr1S : Below (w.heap.size) W wr1 := hS0.trans (hbr1.mono (Nat.le_trans hbW hS0.size))
        refine hK _ _ ⟨⟨_, hbr1S, (((hpW.below' (Below.drew (Below.refl _ _)))).below' hbr1)⟩, rfl⟩ ?_
        clear hK K
        refine wpMix_act (by kernel_rfl) (fun K hK => ?_)
        go_big_op
        refine (Decimal_any xs[k].level _ (by omega) (by omega) (ht.below (hBW.trans hbr1S))).mono ?_
        rintro e wr2 ⟨rfl, hbr2⟩
        have hbr2S : Below (w.heap.size) W wr2 := hbr1S.trans (hbr2.mono (Nat.le_trans hbW hbr1S.size))
        refine hK _ _ ⟨⟨_, hbr2S, (((((hpW.below' (Below.drew (Below.refl _ _)))).below' hbr1)).below' hbr2)⟩, rfl⟩ ?_
        clear hK K
        refine wpMix_act (by kernel_rfl) (fun K hK => ?_)
        go_big_op
        refine (Decimal_any xs[k].caught _ (by omega) (by omega) (ht.below (hBW.trans hbr2S))).mono ?_
        rintro e wr3 ⟨rfl, hbr3⟩
        have hbr3S : Below (w.heap.size) W wr3 := hbr2S.trans (hbr3.mono (Nat.le_trans hbW hbr2S.size))
        refine hK _ _ ⟨⟨_, hbr3S, (((((((hpW.below' (Below.drew (Below.refl _ _)))).below' hbr1)).below' hbr2)).below' hbr3)⟩, rfl⟩ ?_
        clear hK K
        refine wpMix_act (by kernel_rfl) (fun K hK => ?_)
        go_big_op
        refine (Decimal_any xs[k].buried _ (by omega) (by omega) (ht.below (hBW.trans hbr3S))).mono ?_
        rintro e wr4 ⟨rfl, hbr4⟩
        have hbr4S : Below (w.heap.size) W wr4 := hbr3S.trans (hbr4.mono (Nat.le_trans hbW hbr3S.size))
        refine hK _ _ ⟨⟨_, hbr4S, (((((((((hpW.below' (Below.drew (Below.refl _ _)))).below' hbr1)).below' hbr2)).below' hbr3)).below' hbr4)⟩, rfl⟩ ?_
        clear hK K
        refine wpMix_act (by kernel_rfl) (fun K hK => ?_)
        go_big_op
        refine hK _ _ ⟨⟨_, (hbr4S.alloc (Nat.le_trans hbW hbr4S.size) _), (((((((((((hpW.below' (Below.drew (Below.refl _ _)))).below' hbr1)).below' hbr2)).below' hbr3)).below' hbr4)).below' ((Below.refl _ _).alloc (Nat.le_refl _) _))⟩, rfl⟩ ?_
        clear hK K
        refine mix_world (fun N => Below (w.heap.size) W N ∧ PIncident N wq 0 xs[k] ∧ RowsV N w.heap.size u4 (rowsI xs k) V F ∧ Sl fStr.cod N (.slice (some ⟨wr4.heap.size, 0, none⟩) 5 5) (rowI xs[k]) [wr4.heap.size] ∧ wr4.heap.size < N.heap.size) ⟨hbr4S.alloc (Nat.le_trans hbW hbr4S.size) _, ⟨(((((hpW.below' (Below.drew (Below.refl _ _))).below' hbr1).below' hbr2).below' hbr3).below' hbr4).below' ((Below.refl _ _).alloc (Nat.le_refl _) _), (((((hrW.below (Below.drew (Below.refl _ _))).below hbr1).below hbr2).below hbr3).below hbr4).below ((Below.refl _ _).alloc (Nat.le_refl _) _), Sl.lit2 (E := fStr) wr4 (rowI xs[k]) _ _ rfl HRO.out (by show 0 < 5; decide) (by show 5 ≤ _; decide), by simp⟩⟩ ?_
        rintro wr5 ⟨hbr5S, hbr5F⟩
        refine wpMix_act (by kernel_rfl) (fun K hK => ?_)
        go_big_op
        refine hK _ _ ⟨⟨_, (hbr5S.alloc (Nat.le_trans hbW hbr5S.size) _), ((hbr5F.1).below' ((Below.refl _ _).alloc (Nat.le_refl _) _))⟩, rfl⟩ ?_
        clear hK K
        refine mix_world (fun N => Below (w.heap.size) W N ∧ PIncident N wq 0 xs[k] ∧ RowsV N w.heap.size u4 (rowsI xs k) V F ∧ Sl fStr.cod N (.slice (some ⟨wr4.heap.size, 0, none⟩) 5 5) (rowI xs[k]) [wr4.heap.size] ∧ wr4.heap.size < N.heap.size ∧ N.cell? ⟨wr5.heap.size, 0, none⟩ = some (.slice (some ⟨wr4.heap.size, 0, none⟩) 5 5)) ⟨hbr5S.alloc (Nat.le_trans hbW hbr5S.size) _, ⟨hbr5F.1.below' ((Below.refl _ _).alloc (Nat.le_refl _) _), hbr5F.2.1.below ((Below.refl _ _).alloc (Nat.le_refl _) _), hbr5F.2.2.1.below' ((Below.refl _ _).alloc (Nat.le_refl _) _), by have := hbr5F.2.2.2; simp; omega, by simp⟩⟩ ?_
        rintro wr6 ⟨hbr6S, hbr6F⟩
        refine wpMix_act (by kernel_rfl) (fun K hK => ?_)
        obtain ⟨hp6, hr6, hs6, hlt6, hc6⟩ := hbr6F
        refine wp_append_at2 _ _ _ 61 rfl w.heap.size 24 i0 (.slice none 0 0) 1 24 Tryz.underlying61 hi hz0 hz1 hz2 rfl (by decide) u4 (rowsI xs k).length _ rfl hr6.own [.slice (some ⟨wr4.heap.size, 0, none⟩) 5 5] rfl (by intro u hu; rw [List.mem_singleton] at hu; subst hu; rfl) wr5.heap.size rfl (by intro j u hj; match j, hj with | 0, hj => (injection hj with hj; subst hj; exact hc6) | j + 1, hj => (simp at hj)) (by rw [rowsI_len hk]; omega) (by decide) (Nat.le_trans hbW hbr6S.size) ?_
        intro v' u hown hbu hgr hli
        have hr7 := hr6.push hs6 (fun b hb => by rw [List.mem_singleton] at hb; subst hb; exact ⟨Nat.le_trans hbW hbr4S.size, fun e => by have := hrW.lt _ e; have := hbr4S.size; have h5 := hS0.size; exact Nat.lt_irrefl _ (Nat.lt_of_lt_of_le (hrW.lt _ e) (W_le hbr4S))⟩) hown hgr hli
        rw [← HST.out] at hr7
        clear hown
        have hpu : PIncident u wq 0 xs[k] := hp6.keptI (fun j => World.cell?_of_block (a := ⟨wq, j, none⟩) (hgr.block wq hp6.lt (fun e => hrowne e)))
        have hbuS : Below (w.heap.size) W u := hbr6S.trans hbu
        try simp only [Act.put, List.setIfInBounds_toArray, List.set_cons_zero, List.set_cons_succ]
        refine hK _ _ ⟨⟨_, hbuS, hpu⟩, rfl⟩ ?_
        clear hK K
        refine wpMix_pure (by kernel_rfl) (fun K hK => ?_); go_big_quiet_op; refine hK _ ?_; clear hK K
        refine wpMix_nil ?_
        have hb9 := hBW.trans hbuS
        go_wp2
        go_roundw
        case rel => exact ⟨k + 1, by omega, by go_num, ⟨_, _, hr7⟩, hb9⟩
        case measure => simp [intOf]; omega
      · have hke : k = xs.length := by omega
        subst hke
        have hrl : (rowsI xs xs.length).length = xs.length + 1 := rowsI_len (Nat.le_refl _)
        obtain ⟨fpr, hsl⟩ := hrw.sl (by omega)
        have hrs := rows_size H0.out xs.length
        have hro := rows_ok H0.out xs.length
        have h12 := rowsOk_12 hro
        have HTC := Lib.hid (show tlC (rowsI xs xs.length) = doneC (tabF (rowsI xs xs.length)) from by rw [tlC, hro]; rfl)
        have HTF := Lib.hid (show tlF (rowsI xs xs.length) = doneF (tabF (rowsI xs xs.length)) from by rw [tlF, hro]; rfl)
        have hlen7 : (rowsI xs xs.length).length ≤ 1048577 := by omega
        clear hro hrw
        generalize rowsI xs xs.length = R at *
        clear hrl
        go_wp2_with fail
        refine (implTableLines_any _ R fpr _ hsl hlen7 hrs).mono ?_
        rintro e w2 ⟨v2, rfl, hn⟩
        have hn2 := hn.later hb
        rw [HTF.out] at hn2
        go_wp2
        go_ret2
        exact ⟨_, by rw [HC.out, ← HTC.out]; rfl, by rw [HF.out]; exact hn2⟩

end Go.Proofs.YtgnbhcgagdfaiaaGreatDoor

namespace Go.Proofs.YtgnbhcgagdfaiaaGreatDoor
open Go.RowKit
set_option linter.unusedVariables false

noncomputable def grL (xs : List DRegion) : List (List Nat) := groupsL xs.length (adjR xs) xs.length
/-- The group of a region: the first one that holds it. -/
def grpF (L : List (List Nat)) (i : Nat) : Nat := L.findIdx (fun g => memN i g)
theorem groups_unique {n : Nat} {adj : Nat → Nat → Bool} (hg : Graph adj n) {k a b i : Nat} (ha : a < (groupsL n adj k).length) (hb : b < (groupsL n adj k).length) (h1 : i ∈ (groupsL n adj k)[a]) (h2 : i ∈ (groupsL n adj k)[b]) : a = b := by
  have key : ∀ a b (ha : a < (groupsL n adj k).length) (hb : b < (groupsL n adj k).length), a < b → i ∈ (groupsL n adj k)[a] → i ∈ (groupsL n adj k)[b] → False := by
    intro a b ha hb hab h1 h2
    have hp : ((List.range k).filter (fun i => !seenB adj i i)).Pairwise (· < ·) := (List.pairwise_lt_range).filter _
    have hla : a < ((List.range k).filter (fun i => !seenB adj i i)).length := by unfold groupsL at ha; rw [List.length_map] at ha; exact ha
    have hlb : b < ((List.range k).filter (fun i => !seenB adj i i)).length := by unfold groupsL at hb; rw [List.length_map] at hb; exact hb
    have hlt := List.pairwise_iff_getElem.1 hp a b hla hlb hab
    have e1 : (groupsL n adj k)[a] = compL n adj ((List.range k).filter (fun i => !seenB adj i i))[a] := List.getElem_map _
    have e2 : (groupsL n adj k)[b] = compL n adj ((List.range k).filter (fun i => !seenB adj i i))[b] := List.getElem_map _
    rw [e1] at h1
    rw [e2] at h2
    have r1 := (compL_mem.1 h1).2
    have r2 := (compL_mem.1 h2).2
    have hm := List.getElem_mem hlb
    rw [List.mem_filter] at hm
    have hs : seenB adj ((List.range k).filter (fun i => !seenB adj i i))[b] ((List.range k).filter (fun i => !seenB adj i i))[b] = true := seenB_true.2 ⟨_, hlt, r1.trans (r2.symm hg)⟩
    rw [hs] at hm
    exact absurd hm.2 (by decide)
  rcases Nat.lt_trichotomy a b with h | h | h
  · exact (key a b ha hb h h1 h2).elim
  · exact h
  · exact (key b a hb ha h h2 h1).elim
theorem groups_cover {n : Nat} {adj : Nat → Nat → Bool} : ∀ (m i : Nat), i ≤ m → i < n → ∃ r, r < n ∧ seenB adj r r = false ∧ Rch adj r i := by
  intro m
  induction m with
  | zero =>
    intro i hi hn
    refine ⟨i, hn, ?_, Rch.refl _ _⟩
    cases h : seenB adj i i
    · rfl
    · obtain ⟨j, hj, _⟩ := seenB_true.1 h; omega
  | succ m ih =>
    intro i hi hn
    cases h : seenB adj i i
    · exact ⟨i, hn, h, Rch.refl _ _⟩
    · obtain ⟨j, hj, hr⟩ := seenB_true.1 h
      obtain ⟨r, h1, h2, h3⟩ := ih j (by omega) (by omega)
      exact ⟨r, h1, h2, h3.trans hr⟩
theorem groups_has {n : Nat} {adj : Nat → Nat → Bool} {i : Nat} (hi : i < n) : ∃ a, ∃ ha : a < (groupsL n adj n).length, i ∈ (groupsL n adj n)[a] := by
  obtain ⟨r, h1, h2, h3⟩ := groups_cover (adj := adj) i i (Nat.le_refl _) hi
  have hm : compL n adj r ∈ groupsL n adj n := List.mem_map.2 ⟨r, List.mem_filter.2 ⟨List.mem_range.2 h1, by rw [h2]; rfl⟩, rfl⟩
  obtain ⟨a, ha, e⟩ := List.getElem_of_mem hm
  exact ⟨a, ha, by rw [e]; exact compL_mem.2 ⟨hi, h3⟩⟩
theorem grpF_lt {xs : List DRegion} {i : Nat} (hi : i < xs.length) : grpF (grL xs) i < (grL xs).length := by
  obtain ⟨a, ha, h⟩ := groups_has (adj := adjR xs) hi
  exact List.findIdx_lt_length_of_exists ⟨_, List.getElem_mem ha, memN_true.2 h⟩
theorem grpF_has {xs : List DRegion} {i : Nat} (hi : i < xs.length) : i ∈ (grL xs)[grpF (grL xs) i]'(grpF_lt hi) := memN_true.1 (List.findIdx_getElem (p := fun g => memN i g) (w := grpF_lt hi))
theorem grpF_is {xs : List DRegion} (hv : regionsB xs = true) {i a : Nat} (ha : a < (grL xs).length) (h : i ∈ (grL xs)[a]) (hi : i < xs.length) : grpF (grL xs) i = a :=
  groups_unique (adjR_graph hv) (grpF_lt hi) ha (grpF_has hi) h
theorem grpF_not {xs : List DRegion} {i a : Nat} (ha : a < (grL xs).length) (h : a < grpF (grL xs) i) : memN i (grL xs)[a] = false := by
  have := List.not_of_lt_findIdx (p := fun g => memN i g) (xs := grL xs) h
  simpa using this
theorem grL_len {xs : List DRegion} : (grL xs).length ≤ xs.length := groupsL_len
theorem grL_lt {xs : List DRegion} {a : Nat} (ha : a < (grL xs).length) : ∀ x ∈ (grL xs)[a], x < xs.length := fun x hx => by
  have hm := List.getElem_mem ha
  unfold grL groupsL at hm
  obtain ⟨r, _, e⟩ := List.mem_map.1 hm
  have e2 : (grL xs)[a] = compL xs.length (adjR xs) r := e.symm
  rw [e2] at hx
  exact (compL_mem.1 hx).1
def hdR : List ByteArray := [⟨#[114, 101, 103, 105, 111, 110]⟩, ⟨#[108, 101, 118, 101, 108]⟩, ⟨#[103, 114, 111, 117, 112]⟩]
noncomputable def rowR (xs : List DRegion) (i : Nat) : List ByteArray := [(xs.getD i rg0).id, decS (xs.getD i rg0).level, decS ((grpF (grL xs) i : Nat) : Int)]
noncomputable def rowsR (xs : List DRegion) (k : Nat) : List (List ByteArray) := hdR :: (List.range k).map (rowR xs)
noncomputable def rrF (xs : List DRegion) : List ByteArray := if regionsB xs then doneF (tabF (rowsR xs xs.length)) else []
noncomputable def rrC (xs : List DRegion) : Int := if regionsB xs then doneC (tabF (rowsR xs xs.length)) else 1
theorem rowsR_zero (xs : List DRegion) : rowsR xs 0 = [hdR] := rfl
theorem rowsR_step {xs : List DRegion} (k : Nat) : rowsR xs (k + 1) = rowsR xs k ++ [rowR xs k] := by
  unfold rowsR
  rw [List.range_succ, List.map_append]; rfl
theorem rowsR_len (xs : List DRegion) (k : Nat) : (rowsR xs k).length = k + 1 := by unfold rowsR; rw [List.length_cons, List.length_map, List.length_range]
structure RowP (xs : List DRegion) (i : Nat) : Prop where
  name : nameB (xs.getD i rg0).id = true
  lv : 1 ≤ (xs.getD i rg0).level ∧ (xs.getD i rg0).level ≤ 5
  gr : grpF (grL xs) i ≤ 8
theorem rowP_of {xs : List DRegion} (hv : regionsB xs = true) {i : Nat} (hi : i < xs.length) : RowP xs i := by
  have h1 := regs_len hv
  have h2 := grpF_lt hi
  have h3 := grL_len (xs := xs)
  exact ⟨by rw [getD_of_lt hi]; exact regs_name hv hi, by rw [getD_of_lt hi]; exact regs_level hv hi, by omega⟩
theorem rowR_ok {xs : List DRegion} {i : Nat} (p : RowP xs i) : rowOk (rowR xs i) = true := by
  have := p.gr
  have := p.lv
  unfold rowOk rowR
  simp only [List.all_cons, List.all_nil, name_cellOk p.name, dec_cellOk (n := (xs.getD i rg0).level) (by omega) (by omega), dec_cellOk (n := ((grpF (grL xs) i : Nat) : Int)) (by omega) (by omega)]
  rfl
theorem hdR_ok : rowOk hdR = true := by decide
theorem rowsR_ok {xs : List DRegion} (hv : regionsB xs = true) : rowsOk (rowsR xs xs.length) = true := by
  unfold rowsOk rowsR
  rw [List.all_cons, hdR_ok, Bool.true_and]
  refine List.all_eq_true.2 fun r hr => ?_
  obtain ⟨i, hi, rfl⟩ := List.mem_map.1 hr
  exact rowR_ok (rowP_of hv (List.mem_range.1 hi))
theorem dec_small {n : Int} (a : 0 ≤ n) (b : n ≤ 20) : (decS n).size ≤ 30 := by rw [decS_size]; have := itoa_len20 (n := n) (by omega) (by omega); omega
theorem rowR_size {xs : List DRegion} {i : Nat} (p : RowP xs i) : ∀ c ∈ rowR xs i, c.size ≤ 30 := by
  have h1 := nameB_sizeP p.name
  have := p.gr
  have := p.lv
  have h2 := dec_small (n := (xs.getD i rg0).level) (by omega) (by omega)
  have h3 := dec_small (n := ((grpF (grL xs) i : Nat) : Int)) (by omega) (by omega)
  intro c hc
  unfold rowR at hc
  simp only [List.mem_cons, List.not_mem_nil, or_false] at hc
  rcases hc with rfl | rfl | rfl <;> omega
theorem rowsR_size {xs : List DRegion} (hv : regionsB xs = true) : ∀ r ∈ rowsR xs xs.length, ∀ c ∈ r, c.size ≤ 1048576 := by
  intro r hr
  unfold rowsR at hr
  rcases List.mem_cons.1 hr with rfl | hr
  · decide
  · obtain ⟨i, hi, rfl⟩ := List.mem_map.1 hr
    intro c hc
    have := rowR_size (rowP_of hv (List.mem_range.1 hi)) c hc
    omega
theorem rowR_oks {xs : List DRegion} {i : Nat} (p : RowP xs i) : ∀ c ∈ rowR xs i, fStr.ok c := fun c hc => by have := rowR_size p c hc; show _ ≤ _; omega
theorem hdR_oks : ∀ c ∈ hdR, fStr.ok c := by
  intro c hc
  have : c.size ≤ 10 := by revert c; decide
  show _ ≤ _; omega
theorem lensR_leJ : ∀ xs : List DRegion, xs.length + (lensR xs).sum ≤ totRegionS xs := by
  intro xs
  unfold totRegionS lensR
  induction xs with
  | nil => simp
  | cons r xs ih =>
    have h : r.near.length ≤ totRegion r := by unfold totRegion totStringS; omega
    simp only [List.map_cons, List.sum_cons, List.length_cons]
    omega
theorem rrF_len {xs : List DRegion} (h : xs.length ≤ 1048576) : (rrF xs).length ≤ 100000000000 := by
  unfold rrF doneF tabF rowsR
  (repeat' split) <;> simp <;> omega

end Go.Proofs.YtgnbhcgagdfaiaaGreatDoor

namespace Go.Proofs.YtgnbhcgagdfaiaaGreatDoor
open Go.RowKit
set_option linter.unusedVariables false

/-- A region's name and level. -/
structure RgC (w : World) (b o : Nat) (x : DRegion) : Prop where
  c0 : w.cell? ⟨b, o, none⟩ = some (.string x.id)
  c1 : w.cell? ⟨b, o + 1, none⟩ = some (.int .i64 x.level)
theorem RgC.below' {w w' : World} {b o : Nat} {x : DRegion} (h : RgC w b o x) (hb : Below w.heap.size w w') : RgC w' b o x :=
  ⟨(hb.cell (p := ⟨b, o, none⟩) (block_lt_of_cell h.c0)).trans h.c0, (hb.cell (p := ⟨b, o + 1, none⟩) (block_lt_of_cell h.c1)).trans h.c1⟩
theorem RgC.lt {w : World} {b o : Nat} {x : DRegion} (h : RgC w b o x) : b < w.heap.size := block_lt_of_cell h.c0
theorem RgC.keptI {w w' : World} {b o : Nat} {x : DRegion} (h : RgC w b o x) (hk : ∀ j, w'.cell? ⟨b, j, none⟩ = w.cell? ⟨b, j, none⟩) : RgC w' b o x := ⟨(hk _).trans h.c0, (hk _).trans h.c1⟩
theorem memI_ints (k : Nat) (g : List Nat) : memI (k : Int) (ints g) = memN k g := by
  rw [Bool.eq_iff_iff, memI_true, memN_true, ints_mem]
set_option maxRecDepth 100000 in
set_option maxHeartbeats 8000000 in
theorem specRegionReport_any (v : Value) (xs : List DRegion) (fp : List Nat) (w : World) (hx : Sl cRegion w v xs fp) :
    Calls Tryz.prog 6 #[v] w fun e w' => NewR2 fStr.cod w (rrF xs) (rrC xs) e w' := by
  obtain ⟨A, cap, rfl, hle, hca⟩ := hx.form
  obtain ⟨i0, hi, hz0, hz1, hz2⟩ := info_parts infoSliceR
  go_enter Tryz.func6, Tryz.ntmps6
  go_wp2_with fail
  refine (l18Ok_any _ xs fp _ hx).mono ?_
  rintro e w1 ⟨rfl, hb1⟩
  have hx1 := hx.below' hb1
  cases h0 : regionsB xs
  · go_wp2
    go_ret2
    exact ⟨_, by rw [rrC, h0]; rfl, by rw [rrF, h0]; exact New.nil hb1⟩
  have HC := Lib.hid (show rrC xs = doneC (tabF (rowsR xs xs.length)) from by rw [rrC, h0]; rfl)
  have HF := Lib.hid (show rrF xs = doneF (tabF (rowsR xs xs.length)) from by rw [rrF, h0]; rfl)
  have hn8 := regs_len h0
  have H0 := Lib.hid h0
  have HGL := Lib.hid (show grL xs = groupsL xs.length (adjR xs) xs.length from rfl)
  clear h0 hx
  go_wp2_with fail
  refine (l18Levels_any _ xs fp _ hx1 (by omega)).mono ?_
  rintro e w2 ⟨vl, rfl, hol, hb2⟩
  have hx2 := hx1.below' hb2
  have hoks : ∀ y ∈ xs.map (·.level), fInt.ok y := fun y hy => by
    obtain ⟨x, hx, rfl⟩ := List.mem_map.1 hy
    obtain ⟨i, hi, rfl⟩ := List.getElem_of_mem hx
    have := regs_level H0.out hi
    show _ ∧ _; omega
  obtain ⟨fl, hsl, _, _⟩ := Sl.of_own (E := fInt) (xs := xs.map (fun x : DRegion => x.level)) (n := (xs.map (fun x : DRegion => x.level)).length) rfl hol hoks
  clear hol hoks
  go_wp2_with fail
  refine (l18Groups_any _ xs fp _ fl _ hx2 hsl H0.out).mono ?_
  rintro e wg ⟨vg, fq, rfl, hgr, _, hb3⟩
  rw [← HGL.out] at hgr
  have hxg := hx2.below' hb3
  have hBg : Below w.heap.size w wg := hb1.trans ((hb2.trans (hb3.mono hb2.size)).mono hb1.size)
  have hlt0 := hxg.lt
  obtain ⟨Ag, cg, rfl, _, _⟩ := hgr.form
  have hgn := grL_len (xs := xs)
  have hgl : ((grL xs).map ints).length = (grL xs).length := List.length_map _
  rw [hgl] at hgr ⊢
  have hgq := hgr.lt
  clear hx1 hx2 hsl hb1 hb2 hb3 hgl
  have hBa : Below wg.heap.size wg (wg.alloc (.cells #[.string ⟨#[114, 101, 103, 105, 111, 110]⟩, .string ⟨#[108, 101, 118, 101, 108]⟩, .string ⟨#[103, 114, 111, 117, 112]⟩] 9)) := (Below.refl _ _).alloc (Nat.le_refl _) _
  have hB0 : Below wg.heap.size wg ((wg.alloc (.cells #[.string ⟨#[114, 101, 103, 105, 111, 110]⟩, .string ⟨#[108, 101, 118, 101, 108]⟩, .string ⟨#[103, 114, 111, 117, 112]⟩] 9)).alloc (.cells #[.slice (some ⟨wg.heap.size, 0, none⟩) 3 3] 24)) := hBa.alloc hBa.size _
  have hs0 : Sl fStr.cod (wg.alloc (.cells #[.string ⟨#[114, 101, 103, 105, 111, 110]⟩, .string ⟨#[108, 101, 118, 101, 108]⟩, .string ⟨#[103, 114, 111, 117, 112]⟩] 9)) (.slice (some ⟨wg.heap.size, 0, none⟩) 3 3) hdR [wg.heap.size] := Sl.lit2 (E := fStr) wg hdR _ _ rfl hdR_oks (by show 0 < 3; decide) (by show 3 ≤ _; decide)
  have hr0 := RowsV.first (B := wg.heap.size) hBa.size hs0 (fun b hb => by rw [List.mem_singleton] at hb; subst hb; exact Nat.le_refl _)
  rw [← rowsR_zero xs, World.size_alloc] at hr0
  clear hs0 hBa
  go_wp2
  go_loopw [5, 6] (fun v i wr => ∃ k : Nat, k ≤ xs.length ∧ i = .int .i64 k ∧ (∃ V F, RowsV wr wg.heap.size v (rowsR xs k) V F) ∧ Below wg.heap.size wg wr) (fun _ i _ => xs.length - (intOf i).toNat)
  case atStart => exact ⟨0, Nat.zero_le _, rfl, ⟨_, _, hr0⟩, hB0⟩
  case round => as_aux_lemma =>
    clear hr0 hB0
    obtain ⟨k, hk, rfl, ⟨V, F, hrw⟩, hb⟩ := hrel
    by_cases hlt : k < xs.length
    · have hki : (k : Int) < (xs.length : Int) := by omega
      obtain ⟨b, off, vk, fk, rfl, r0, r1, _, _, hbm0, _, hidok, _⟩ := (hxg.below' hb).reg hlt
      have hbm := hlt0 b hbm0
      have hP := rowP_of H0.out hlt
      have hlv := hP.lv
      have hgr8 := hP.gr
      have HRO := Lib.hid (rowR_oks hP)
      have HST := Lib.hid (rowsR_step (xs := xs) k)
      have hgD : xs.getD k rg0 = xs[k] := getD_of_lt hlt
      have HRW : Hid (rowR xs k = [xs[k].id, decS xs[k].level, decS ((grpF (grL xs) k : Nat) : Int)]) := by show _ = _; unfold rowR; rw [hgD]
      rw [hgD] at hlv
      have hp : RgC wr b (off + k * 3) xs[k] := ⟨r0, r1⟩
      have hgw := hgr.below' hb
      have hGlt := grpF_lt hlt
      have hrow : u5.ownBlock ≠ some b := fun e => by have := (World.ownsRow.lt hrw.own _ e).1; omega
      clear hgD hP
      go_wp2
      go_loop [7] (fun a => ∃ m : Nat, m ≤ grpF (grL xs) k ∧ a = .int .i64 m) (fun a => (grL xs).length - (intOf a).toNat)
      case atStart => exact ⟨0, Nat.zero_le _, rfl⟩
      case round => as_aux_lemma =>
        obtain ⟨m, hm, rfl⟩ := hrel
        have hml : m < (grL xs).length := by omega
        have hmi : (m : Int) < ((grL xs).length : Int) := by omega
        obtain ⟨bP, oP, vP, fP, rfl, hcP, hrP, _⟩ := hgw.elem (k := m) (by rw [List.length_map]; exact hml)
        rw [List.getElem_map] at hrP
        go_wp2_with fail
        refine (l00Has_any _ (ints (grL xs)[m]) fP (k : Int) _ hrP).mono ?_
        rintro e w' ⟨rfl, rfl⟩
        rw [memI_ints]
        by_cases he : m < grpF (grL xs) k
        · rw [grpF_not hml he]
          clear hrP hcP
          go_wp2
          go_round
          case rel => exact ⟨m + 1, by omega, by go_num⟩
          case measure => simp [intOf]; omega
        · obtain rfl : m = grpF (grL xs) k := by omega
          rw [memN_true.2 (grpF_has hlt)]
          clear hrP hcP he hm
          generalize hgk : grpF (grL xs) k = gk at *
          clear hgk
          go_wp2
          have hrowne : some b = u5.ownBlock → False := fun e => hrow e.symm
          rename World => W
          have hBW := hb
          have hpW := hp
          have hrW := hrw
          have hbW := hBW.size
          clear hb hp hrw hbm0 r0 r1
          have gk0 : ∀ p : KeptW (wg.heap.size) W (fun N => RgC N b (off + k * 3) xs[k]), p.v.cell? ⟨b, off + k * 3, none⟩ = some (.string xs[k].id) := fun p => p.x.c0
          have gk1 : ∀ p : KeptW (wg.heap.size) W (fun N => RgC N b (off + k * 3) xs[k]), p.v.cell? ⟨b, off + k * 3 + 1, none⟩ = some (.int .i64 xs[k].level) := fun p => p.x.c1
          haveI hKne : Nonempty (KeptW (wg.heap.size) W (fun N => RgC N b (off + k * 3) xs[k])) := ⟨⟨_, Below.drew (Below.refl _ _), (hpW.below' (Below.drew (Below.refl _ _)))⟩⟩
          refine wp_region_mixed [0, 1, 2, 3, 4, 5, 6, 7, 8, 9, 10, 12, 11, 13, 14, 15, 16, 17] (C := fun w' => ∃ p : KeptW (wg.heap.size) W (fun N => RgC N b (off + k * 3) xs[k]), w' = p.v) [true, true, true, true, true, true, true, true, true, true, true, true, false, false, false, false, false, true] (by kernel_rfl) (by kernel_rfl) (by kernel_rfl) (fun _ _ d _ _ h => by cases d <;> exact h) ⟨⟨_, Below.drew (Below.refl _ _), (hpW.below' (Below.drew (Below.refl _ _)))⟩, rfl⟩ ?_
          simp only [List.map_cons, List.map_nil, List.getD_cons_zero, List.getD_cons_succ]
          have hS0 : Below (wg.heap.size) W W.drew := Below.drew (Below.refl _ _)
          refine wpMix_pure (by kernel_rfl) (fun K hK => ?_); go_big_quiet_op; refine hK _ ?_; clear hK K
          refine wpMix_pure (by kernel_rfl) (fun K hK => ?_); go_big_quiet_op; refine hK _ ?_; clear hK K
          refine wpMix_pure (by kernel_rfl) (fun K hK => ?_); go_big_quiet_op; refine hK _ ?_; clear hK K
          refine wpMix_pure (by kernel_rfl) (fun K hK => ?_); go_big_quiet_op; refine hK _ ?_; clear hK K
          refine wpMix_pure (by kernel_rfl) (fun K hK => ?_); go_big_quiet_op; refine hK _ ?_; clear hK K
          refine wpMix_pure (by kernel_rfl) (fun K hK => ?_); go_big_quiet_op; refine hK _ ?_; clear hK K
          refine wpMix_pure (by kernel_rfl) (fun K hK => ?_); go_big_quiet_op; refine hK _ ?_; clear hK K
          refine wpMix_pure (by kernel_rfl) (fun K hK => ?_); go_big_quiet_op; refine hK _ ?_; clear hK K
          refine wpMix_pure (by kernel_rfl) (fun K hK => ?_); go_big_quiet_op; refine hK _ ?_; clear hK K
          refine wpMix_pure (by kernel_rfl) (fun K hK => ?_); go_big_quiet_op; refine hK _ ?_; clear hK K
          refine wpMix_pure (by kernel_rfl) (fun K hK => ?_); go_big_quiet_op; refine hK _ ?_; clear hK K
          refine wpMix_pure (by kernel_rfl) (fun K hK => ?_); go_big_quiet_op; refine hK _ ?_; clear hK K
          refine wpMix_act (by kernel_rfl) (fun K hK => ?_)
          go_big_op
          refine (l01Dec_any xs[k].level _ (by omega) (by omega)).mono ?_
          rintro e wr1 ⟨rfl, hbr1⟩
          have hbr1S : Below (wg.heap.size) W wr1 := hS0.trans (hbr1.mono (Nat.le_trans hbW hS0.size))
          refine hK _ _ ⟨⟨_, hbr1S, (((hpW.below' (Below.drew (Below.refl _ _)))).below' hbr1)⟩, rfl⟩ ?_
          clear hK K
          refine wpMix_act (by kernel_rfl) (fun K hK => ?_)
          go_big_op
          refine (l01Dec_any (gk : Int) _ (by omega) (by omega)).mono ?_
          rintro e wr2 ⟨rfl, hbr2⟩
          have hbr2S : Below (wg.heap.size) W wr2 := hbr1S.trans (hbr2.mono (Nat.le_trans hbW hbr1S.size))
          refine hK _ _ ⟨⟨_, hbr2S, (((((hpW.below' (Below.drew (Below.refl _ _)))).below' hbr1)).below' hbr2)⟩, rfl⟩ ?_
          clear hK K
          refine wpMix_act (by kernel_rfl) (fun K hK => ?_)
          go_big_op
          refine hK _ _ ⟨⟨_, (hbr2S.alloc (Nat.le_trans hbW hbr2S.size) _), (((((((hpW.below' (Below.drew (Below.refl _ _)))).below' hbr1)).below' hbr2)).below' ((Below.refl _ _).alloc (Nat.le_refl _) _))⟩, rfl⟩ ?_
          clear hK K
          refine mix_world (fun N => Below (wg.heap.size) W N ∧ RgC N b (off + k * 3) xs[k] ∧ RowsV N wg.heap.size u5 (rowsR xs k) V F ∧ Sl fStr.cod N (.slice (some ⟨wr2.heap.size, 0, none⟩) 3 3) (rowR xs k) [wr2.heap.size] ∧ wr2.heap.size < N.heap.size) ⟨hbr2S.alloc (Nat.le_trans hbW hbr2S.size) _, ⟨(((hpW.below' (Below.drew (Below.refl _ _))).below' hbr1).below' hbr2).below' ((Below.refl _ _).alloc (Nat.le_refl _) _), (((hrW.below (Below.drew (Below.refl _ _))).below hbr1).below hbr2).below ((Below.refl _ _).alloc (Nat.le_refl _) _), Sl.lit2 (E := fStr) wr2 (rowR xs k) _ _ (by rw [HRW.out]; rfl) HRO.out (by show 0 < 3; decide) (by show 3 ≤ _; decide), by simp⟩⟩ ?_
          rintro wr3 ⟨hbr3S, hbr3F⟩
          refine wpMix_act (by kernel_rfl) (fun K hK => ?_)
          go_big_op
          refine hK _ _ ⟨⟨_, (hbr3S.alloc (Nat.le_trans hbW hbr3S.size) _), ((hbr3F.1).below' ((Below.refl _ _).alloc (Nat.le_refl _) _))⟩, rfl⟩ ?_
          clear hK K
          refine mix_world (fun N => Below (wg.heap.size) W N ∧ RgC N b (off + k * 3) xs[k] ∧ RowsV N wg.heap.size u5 (rowsR xs k) V F ∧ Sl fStr.cod N (.slice (some ⟨wr2.heap.size, 0, none⟩) 3 3) (rowR xs k) [wr2.heap.size] ∧ wr2.heap.size < N.heap.size ∧ N.cell? ⟨wr3.heap.size, 0, none⟩ = some (.slice (some ⟨wr2.heap.size, 0, none⟩) 3 3)) ⟨hbr3S.alloc (Nat.le_trans hbW hbr3S.size) _, ⟨hbr3F.1.below' ((Below.refl _ _).alloc (Nat.le_refl _) _), hbr3F.2.1.below ((Below.refl _ _).alloc (Nat.le_refl _) _), hbr3F.2.2.1.below' ((Below.refl _ _).alloc (Nat.le_refl _) _), by have := hbr3F.2.2.2; simp; omega, by simp⟩⟩ ?_
          rintro wr4 ⟨hbr4S, hbr4F⟩
          refine wpMix_act (by kernel_rfl) (fun K hK => ?_)
          obtain ⟨hp6, hr6, hs6, hlt6, hc6⟩ := hbr4F
          refine wp_append_at2 _ _ _ 61 rfl wg.heap.size 24 i0 (.slice none 0 0) 1 24 Tryz.underlying61 hi hz0 hz1 hz2 rfl (by decide) u5 (rowsR xs k).length _ rfl hr6.own [.slice (some ⟨wr2.heap.size, 0, none⟩) 3 3] rfl (by intro u hu; rw [List.mem_singleton] at hu; subst hu; rfl) wr3.heap.size rfl (by intro j u hj; match j, hj with | 0, hj => (injection hj with hj; subst hj; exact hc6) | j + 1, hj => (simp at hj)) (by rw [rowsR_len]; omega) (by decide) (Nat.le_trans hbW hbr4S.size) ?_
          intro v' u hown hbu hgr5 hli
          have hr7 := hr6.push hs6 (fun b hb => by rw [List.mem_singleton] at hb; subst hb; exact ⟨Nat.le_trans hbW hbr2S.size, fun e => by have := hrW.lt _ e; have := hbr2S.size; have h5 := hS0.size; exact Nat.lt_irrefl _ (Nat.lt_of_lt_of_le (hrW.lt _ e) (W_le hbr2S))⟩) hown hgr5 hli
          rw [← HST.out] at hr7
          clear hown
          have hpu : RgC u b (off + k * 3) xs[k] := hp6.keptI (fun j => World.cell?_of_block (a := ⟨b, j, none⟩) (hgr5.block b hp6.lt (fun e => hrowne e)))
          have hbuS : Below (wg.heap.size) W u := hbr4S.trans hbu
          try simp only [Act.put, List.setIfInBounds_toArray, List.set_cons_zero, List.set_cons_succ]
          refine hK _ _ ⟨⟨_, hbuS, hpu⟩, rfl⟩ ?_
          clear hK K
          refine wpMix_pure (by kernel_rfl) (fun K hK => ?_); go_big_quiet_op; refine hK _ ?_; clear hK K
          refine wpMix_nil ?_
          have hb9 := hBW.trans hbuS
          go_wp2
          go_roundw
          case rel => exact ⟨k + 1, by omega, by go_num, ⟨_, _, hr7⟩, hb9⟩
          case measure => simp [intOf]; omega
    · have hke : k = xs.length := by omega
      subst hke
      have hki : ¬ (xs.length : Int) < (xs.length : Int) := by omega
      have hrl : (rowsR xs xs.length).length = xs.length + 1 := rowsR_len _ _
      obtain ⟨fpr, hsl⟩ := hrw.sl (by omega)
      have hrs := rowsR_size H0.out
      have hro := rowsR_ok H0.out
      have h12 := rowsOk_12 hro
      have hlen7 : (rowsR xs xs.length).length ≤ 1048577 := by omega
      have hbW := hBg.trans (hb.mono hBg.size)
      clear hro hrw hgr
      generalize rowsR xs xs.length = R at *
      clear hrl
      go_wp2_with fail
      refine (l30Table_any _ R fpr _ hsl hlen7 hrs h12).mono ?_
      rintro e w2 ⟨v2, rfl, hn⟩
      have hn2 := hn.later hbW
      obtain ⟨⟨fpn, hsn, hlo, hnd⟩, _⟩ := id hn2
      go_wp2_with fail
      refine (l30Done_any _ (tabF R) fpn _ hsn).mono ?_
      rintro e w' ⟨rfl, rfl⟩
      go_wp2
      go_ret2
      exact ⟨_, by rw [HC.out]; rfl, by rw [HF.out]; exact hn2.done⟩

end Go.Proofs.YtgnbhcgagdfaiaaGreatDoor

namespace Go.Proofs.YtgnbhcgagdfaiaaGreatDoor
open Go.RowKit
section
variable {P : Program} {ops : Array Oper} {Q : Exit → Act → World → Prop} {md : Region.Mode} {C : World → Prop} {t : Nat}

/-- Whichever comes up: behind each but number 't' the class holds. -/
def wpSink (P : Program) (md : Region.Mode) (ops : Array Oper) (Q : Exit → Act → World → Prop) (C : World → Prop) (t : Nat) : Nat → Array Bool → Act → World → Prop
  | 0, L, a, w => Region.ready md ops L = [] ∧ Q .normal a w
  | n + 1, L, a, w => (Region.ready md ops L = [] → Q .normal a w) ∧ ∀ i, i ∈ Region.ready md ops L → wpOp P ops Q i (fun b v => (i ≠ t → C v) ∧ wpSink P md ops Q C t n (L.setIfInBounds i true) b v) a w
theorem any_of_sink : ∀ (n : Nat) (L : Array Bool) (a : Act) (w : World), wpSink P md ops Q C t n L a w → wpAny P md ops Q n L a w
  | 0, _, _, _, h => h
  | n + 1, _, _, _, h => And.intro h.1 fun i hi => wpOp_mono (fun b v g => any_of_sink n _ b v g.2) (h.2 i hi)
/-- Does number 't' wait for number 'i'? -/
def waitsOn (md : Region.Mode) (ops : Array Oper) (t i : Nat) : Bool := match ops[t]? with | some o => o.after.any (fun e => Region.binds md e && e.on == i) | none => false
theorem waitsOn_not {i : Nat} {L : Array Bool} (hw : waitsOn md ops t i = true) (hi : L.getD i true = false) : t ∉ Region.ready md ops L := by
  intro ht
  obtain ⟨_, o, ho, hall⟩ := mem_ready.1 ht
  unfold waitsOn at hw
  rw [ho] at hw
  simp only at hw
  obtain ⟨e, he, hb⟩ := Array.any_eq_true'.1 hw
  simp only [Bool.and_eq_true, beq_iff_eq] at hb
  have h1 := hall e he hb.1
  rw [hb.2] at h1
  rcases Nat.lt_or_ge i L.size with h' | h'
  · simp [h'] at hi h1; rw [hi] at h1; cases h1
  · simp [Array.getElem?_eq_none h'] at h1
theorem sink_first {i : Nat} {o : Oper} {v : Value} (ho : ops[i]? = some o) (hs : Region.noSelect ops = true) (hit : i ≠ t) (hwt : waitsOn md ops t i = true)
    (hQ : ∀ c a w, Q (.panic c) (a.put o.dst v) w → Q (.panic c) a w) : ∀ (n : Nat) (L : Array Bool) (a : Act) (w : World),
      (∀ j p, ops[j]? = some p → j ≠ i → L.getD j true = false → (∀ e ∈ p.after, Region.binds md e = true → e.on ≠ i) → o.apart ops p = true) →
      i ∈ Region.ready md ops L → YieldsIf P ops C o v a → C w → wpSink P md ops Q C t n (L.setIfInBounds i true) (a.put o.dst v) w → wpSink P md ops Q C t (n + 1) L a w := by
  intro n
  induction n with
  | zero =>
    intro L a w _ hr hy hC H
    constructor
    · intro h; rw [h] at hr; exact absurd hr List.not_mem_nil
    · intro j hj
      rcases Decidable.em (j = i) with rfl | e
      · exact hy.wpOp ho hC ⟨fun _ => hC, H⟩
      · have h2 := ready_mono hj e
        rw [H.1] at h2
        exact absurd h2 List.not_mem_nil
  | succ n ih =>
    intro L a w hf hr hy hC H
    constructor
    · intro h; rw [h] at hr; exact absurd hr List.not_mem_nil
    · intro j hj
      rcases Decidable.em (j = i) with rfl | e
      · exact hy.wpOp ho hC ⟨fun _ => hC, H⟩
      · have hun := (mem_ready.1 hr).1
        have hjt : j ≠ t := fun h => waitsOn_not hwt hun (h ▸ hj)
        obtain ⟨hju, p, hp, hall⟩ := mem_ready.1 hj
        have hno : ∀ e ∈ p.after, Region.binds md e = true → e.on ≠ i := fun e he hb h => by
          have h1 := hall e he hb
          rw [h] at h1
          rcases Nat.lt_or_ge i L.size with h' | h'
          · simp [h'] at hun h1; rw [hun] at h1; cases h1
          · simp [Array.getElem?_eq_none h'] at h1
        have h2 := wpOp_putIf hp (hf j p hp e hju hno) (fun cs b => Region.noSelect_spec hs i o cs b ho) (fun cs b => Region.noSelect_spec hs j p cs b hp) hQ hy (H.2 j (ready_mono hj e))
        refine wpOp_mono (fun b u g => ?_) h2
        have hCu := g.2.1 hjt
        refine ⟨fun _ => hCu, ih _ b u (fun k q hk hki hku hkn => ?_) (ready_mono hr (Ne.symm e)) g.1 hCu ?_⟩
        · refine hf k q hk hki ?_ hkn
          rcases Decidable.em (j = k) with rfl | hjk
          · exact hju
          · rw [getD_set_ne true hjk] at hku; exact hku
        · rw [Array.setIfInBounds_comm _ _ e]
          exact g.2.2

def wpMixS (P : Program) (ops : Array Oper) (Q : Exit → Act → World → Prop) (C : World → Prop) : List Bool → List Oper → Act → World → Prop
  | _, [], a, w => Q .normal a w
  | [], _ :: _, _, _ => False
  | true :: ks, o :: l, a, w => if Region.wanted o (yielded ops a.tmps) then o.quiet P a C (fun a' => wpMixS P ops Q C ks l a' w) else wpMixS P ops Q C ks l (a.put o.dst undef) w
  | false :: ks, o :: l, a, w => if Region.wanted o (yielded ops a.tmps) then o.wp P a w (fun a' w' => (l ≠ [] → C w') ∧ wpMixS P ops Q C ks l a' w') Q else wpMixS P ops Q C ks l (a.put o.dst undef) w
def mixSB (md : Region.Mode) (ops : Array Oper) (t : Nat) : List Nat → List Bool → Array Bool → Bool
  | [], _, L => (Region.ready md ops L).isEmpty
  | i :: is, true :: ks, L => (Region.ready md ops L).contains i && Region.free md ops L i && ((ops[i]?).map valueOnly).getD false && !(i == t) && waitsOn md ops t i && mixSB md ops t is ks (L.setIfInBounds i true)
  | i :: is, false :: ks, L => (Region.ready md ops L == [i]) && (is.isEmpty == (i == t)) && mixSB md ops t is ks (L.setIfInBounds i true)
  | _ :: _, [], _ => false
theorem sink_of_mix (hs : Region.noSelect ops = true) (hQ : ∀ (c : _) (a : Act) (d : Option Tmp) (v : Value) (w : World), Q (.panic c) (a.put d v) w → Q (.panic c) a w) :
    ∀ (is : List Nat) (ks : List Bool) (l : List Oper) (L : Array Bool) (a : Act) (w : World), (∀ j : Nat, l[j]? = (is[j]?).bind (fun i => ops[i]?)) → l.length = is.length →
      mixSB md ops t is ks L = true → (l ≠ [] → C w) → wpMixS P ops Q C ks l a w → wpSink P md ops Q C t is.length L a w := by
  intro is
  induction is with
  | nil =>
    intro ks l L a w _ hn hB _ h
    obtain rfl : l = [] := List.eq_nil_of_length_eq_zero hn
    have h' : Q .normal a w := by cases ks <;> exact h
    exact ⟨by simpa [mixSB] using hB, h'⟩
  | cons i is ih =>
    intro ks l L a w hl hn hB hC h
    cases l with
    | nil => simp at hn
    | cons o l =>
      have hC := hC (by simp)
      have ho : ops[i]? = some o := by simpa using (hl 0).symm
      have hl' : ∀ j : Nat, l[j]? = (is[j]?).bind (fun i => ops[i]?) := fun j => by simpa using hl (j + 1)
      have hn' : l.length = is.length := by simpa using hn
      cases ks with
      | nil => simp [mixSB] at hB
      | cons k ks =>
        cases k with
        | true =>
          simp only [mixSB, Bool.and_eq_true, ho, Option.map_some, Option.getD_some, Bool.not_eq_true', beq_eq_false_iff_ne] at hB
          obtain ⟨⟨⟨⟨⟨hr, hf⟩, hv⟩, hit⟩, hwt⟩, hB'⟩ := hB
          simp only [wpMixS] at h
          have hr' : i ∈ Region.ready md ops L := by simpa using hr
          by_cases hw : Region.wanted o (yielded ops a.tmps) = true
          · rw [if_pos hw] at h
            obtain ⟨v, h1, h2⟩ := yieldsIf_of_quiet hv h
            exact sink_first ho hs hit hwt (fun c a w => hQ c a _ _ w) _ L a w (Region.free_spec ho hf) hr' (.inl ⟨hw, h1⟩) hC (ih ks l _ _ w hl' hn' hB' (fun _ => hC) h2)
          · rw [if_neg hw] at h
            exact sink_first ho hs hit hwt (fun c a w => hQ c a _ _ w) _ L a w (Region.free_spec ho hf) hr' (.inr ⟨by simpa using hw, rfl⟩) hC (ih ks l _ _ w hl' hn' hB' (fun _ => hC) h)
        | false =>
          simp only [mixSB, Bool.and_eq_true, beq_iff_eq] at hB
          obtain ⟨⟨hr, he⟩, hB'⟩ := hB
          simp only [wpMixS] at h
          have hlt : i ≠ t → l ≠ [] := fun hne hl0 => by
            subst hl0
            have : is = [] := List.eq_nil_of_length_eq_zero hn'.symm
            rw [this] at he
            exact hne (by simpa using he.symm)
          refine ⟨fun h0 => by rw [h0] at hr; simp at hr, fun j hj => ?_⟩
          rw [hr, List.mem_singleton] at hj
          subst hj
          unfold wpOp
          simp only [ho]
          by_cases hw : Region.wanted o (yielded ops a.tmps) = true
          · rw [if_pos hw] at h ⊢
            exact .inl (Oper.wp_mono (fun a' w' hh => ⟨fun hne => hh.1 (hlt hne), ih ks l _ a' w' hl' hn' hB' hh.1 hh.2⟩) h)
          · rw [if_neg hw] at h ⊢
            exact ⟨fun _ => hC, ih ks l _ _ w hl' hn' hB' (fun _ => hC) h⟩
structure MixS (P : Program) (ops : Array Oper) (Q : Exit → Act → World → Prop) (C : World → Prop) (ks : List Bool) (l : List Oper) (a : Act) (w : World) : Prop where
  out : wpMixS P ops Q C ks l a w
theorem wp_region_sink {id : Nat} {l : List Oper} {a : Act} {w : World} (is : List Nat) (ks : List Bool) (t : Nat) (hm : P.follows .mixedOrders = true) (hs : Region.noSelect l.toArray = true)
    (hB : (is.all (fun i => decide (i < l.length)) && decide (is.length = l.length) && mixSB .any l.toArray t is ks (Array.replicate l.length false)) = true)
    (hQ : ∀ (c : _) (a : Act) (d : Option Tmp) (v : Value) (w : World), Q (.panic c) (a.put d v) w → Q (.panic c) a w) (hC : C w.drew) (h : MixS P l.toArray Q C ks (is.map fun i => l.getD i default) a w.drew) : (Code.region id l.toArray true).wp P Q a w := by
  simp only [Bool.and_eq_true, decide_eq_true_eq, List.all_eq_true] at hB
  obtain ⟨⟨h1, h2⟩, h3⟩ := hB
  refine wp_region_any hm (any_of_sink (C := C) (t := t) _ _ _ _ ?_)
  have := sink_of_mix (md := .any) hs hQ is ks (is.map fun i => l.getD i default) (Array.replicate l.length false) a w.drew (fun j => by
    rw [List.getElem?_map]
    cases hj : is[j]? with
    | none => rfl
    | some i =>
      have hi := h1 i (List.mem_of_getElem? hj)
      simp [hi, List.getD_eq_getElem?_getD]) (by simp) h3 (fun _ => hC) h.out
  rw [h2] at this
  simpa using this
theorem wpMixS_pure {ks : List Bool} {o : Oper} {l : List Oper} {a : Act} {w : World} (hw : Region.wanted o (yielded ops a.tmps) = true)
    (h : ∀ K : Act → Prop, (∀ a', MixS P ops Q C ks l a' w → K a') → o.quiet P a C K) : MixS P ops Q C (true :: ks) (o :: l) a w := by
  refine ⟨?_⟩
  simp only [wpMixS]; rw [if_pos hw]; exact h _ fun _ h => h.out
theorem wpMixS_skip {k : Bool} {ks : List Bool} {o : Oper} {l : List Oper} {a : Act} {w : World} (hw : Region.wanted o (yielded ops a.tmps) = false)
    (h : ∀ K : Act → Prop, (∀ a', MixS P ops Q C ks l a' w → K a') → K (a.put o.dst undef)) : MixS P ops Q C (k :: ks) (o :: l) a w := by
  have h' : wpMixS P ops Q C ks l (a.put o.dst undef) w := h _ fun _ h => h.out
  refine ⟨?_⟩
  cases k <;> (simp only [wpMixS]; rw [if_neg (by rw [hw]; exact Bool.false_ne_true)]; exact h')
theorem wpMixS_act {ks : List Bool} {o : Oper} {l : List Oper} {a : Act} {w : World} (hw : Region.wanted o (yielded ops a.tmps) = true)
    (h : ∀ K : Act → World → Prop, (∀ a' w', C w' → MixS P ops Q C ks l a' w' → K a' w') → o.wp P a w K Q) : MixS P ops Q C (false :: ks) (o :: l) a w := by
  refine ⟨?_⟩
  simp only [wpMixS]; rw [if_pos hw]; exact h _ fun _ _ hc h => ⟨fun _ => hc, h.out⟩
theorem wpMixS_last {ks : List Bool} {o : Oper} {a : Act} {w : World} (hw : Region.wanted o (yielded ops a.tmps) = true)
    (h : ∀ K : Act → World → Prop, (∀ a' w', Q .normal a' w' → K a' w') → o.wp P a w K Q) : MixS P ops Q C (false :: ks) [o] a w := by
  refine ⟨?_⟩
  simp only [wpMixS]; rw [if_pos hw]; exact h _ fun _ _ hq => ⟨fun h0 => absurd rfl h0, by cases ks <;> exact hq⟩
theorem mixS_world {ks : List Bool} {l : List Oper} {a : Act} {w : World} (X : World → Prop) (hX : X w) (h : ∀ N, X N → MixS P ops Q C ks l a N) : MixS P ops Q C ks l a w := h w hX
end
end Go.Proofs.YtgnbhcgagdfaiaaGreatDoor

namespace Go.Proofs.YtgnbhcgagdfaiaaGreatDoor
open Go.RowKit Go.Sort
set_option linter.unusedVariables false

set_option maxRecDepth 100000 in
set_option maxHeartbeats 1000000 in
theorem lessI_any (a b : Int) (w : World) : Calls Tryz.prog 144 #[.int .i64 a, .int .i64 b] w fun e w' => e = .returned (.bool (ltInt a b)) ∧ w = w' := by
  unfold ltInt
  go_enter Tryz.func144, Tryz.ntmps144
  go_wp2_with (go_at_call 156; refine (isNaNI_any _ _).mono ?_; rintro e w' ⟨rfl, rfl⟩)
  go_ret
  exact ⟨rfl, rfl⟩
/-- One swap. -/
def swpL (L : List Int) (j : Nat) : List Int := (L.set (j + 1) (L.getD j 0)).set j (L.getD (j + 1) 0)
theorem swpL_len (L : List Int) (j : Nat) : (swpL L j).length = L.length := by unfold swpL; rw [List.length_set, List.length_set]
theorem swpL_perm {L : List Int} {j : Nat} (h : j + 1 < L.length) : (swpL L j).Perm L := by
  unfold swpL
  rw [getD_of_lt (show j < L.length by omega), getD_of_lt h]
  exact List.set_set_perm h (by omega)
theorem swpL_get {L : List Int} {j : Nat} (h : j + 1 < L.length) (p : Nat) : (swpL L j).getD p 0 = if p = j then L.getD (j + 1) 0 else if p = j + 1 then L.getD j 0 else L.getD p 0 := by
  unfold swpL
  simp only [List.getD_eq_getElem?_getD, List.getElem?_set, List.length_set]
  by_cases e1 : p = j
  · subst e1
    rw [if_pos rfl, if_pos rfl, if_pos (by omega)]; rfl
  · have e1' : ¬ j = p := fun e => e1 e.symm
    simp only [if_neg e1, if_neg e1']
    by_cases e2 : p = j + 1
    · subst e2
      simp only [if_pos, if_pos h]; rfl
    · have e2' : ¬ j + 1 = p := fun e => e2 e.symm
      simp only [if_neg e2, if_neg e2']
/-- The first i + 1 are sorted but for the j-th, which may stand too far behind. -/
def Ins1 (L : List Int) (i j : Nat) : Prop := ∀ p q, p < q → q ≤ i → q ≠ j → L.getD p 0 ≤ L.getD q 0
def Srt1 (L : List Int) (i : Nat) : Prop := ∀ p q, p < q → q < i → L.getD p 0 ≤ L.getD q 0
theorem Ins1.start {L : List Int} {i : Nat} (h : Srt1 L i) : Ins1 L i i := fun p q h1 h2 h3 => h p q h1 (by omega)
theorem Ins1.zero {L : List Int} {i : Nat} (h : Ins1 L i 0) : Srt1 L (i + 1) := fun p q h1 h2 => h p q h1 (by omega) (by omega)
theorem Ins1.stop {L : List Int} {i j : Nat} (h : Ins1 L i (j + 1)) (hl : L.getD j 0 ≤ L.getD (j + 1) 0) : Srt1 L (i + 1) := fun p q h1 h2 => by
  by_cases e : q = j + 1
  · subst e
    rcases Nat.lt_or_eq_of_le (Nat.le_of_lt_succ h1) with h3 | rfl
    · have := h p j h3 (by omega) (by omega); omega
    · exact hl
  · exact h p q h1 (by omega) e
theorem Ins1.step {L : List Int} {i j : Nat} (h : Ins1 L i (j + 1)) (hl : L.getD (j + 1) 0 < L.getD j 0) (hj : j + 1 ≤ i) (hL : j + 1 < L.length) : Ins1 (swpL L j) i j := fun p q h1 h2 h3 => by
  rw [swpL_get hL, swpL_get hL, if_neg h3]
  by_cases e1 : p = j
  · rw [if_pos e1]
    by_cases e2 : q = j + 1
    · rw [if_pos e2]; omega
    · rw [if_neg e2]
      have := h (j + 1) q (by omega) h2 e2; omega
  · rw [if_neg e1]
    by_cases e2 : q = j + 1
    · rw [if_pos e2, if_neg (by omega)]
      exact h p j (by omega) (by omega) (by omega)
    · rw [if_neg e2]
      by_cases e3 : p = j + 1
      · rw [if_pos e3]
        exact h j q (by omega) h2 e2
      · rw [if_neg e3]; exact h p q h1 h2 e2
theorem srt_pairwise {L : List Int} (h : Srt1 L L.length) : L.Pairwise (· ≤ ·) := by
  rw [List.pairwise_iff_getElem]
  intro p q hp hq hpq
  have := h p q hpq hq
  rw [getD_of_lt hp, getD_of_lt hq] at this; exact this
theorem own_swp {w : World} {base g n cap : Nat} {L : List Int} {j : Nat} {x y : Int} (h : Own fInt w base 2 (.slice (some ⟨g, 0, none⟩) n cap) L) (hj : j + 1 < L.length) (hx : x = L.getD j 0) (hy : y = L.getD (j + 1) 0) :
    Own fInt ((w.setCell ⟨g, j + 1, none⟩ (.int .i64 x)).setCell ⟨g, j, none⟩ (.int .i64 y)) base 2 (.slice (some ⟨g, 0, none⟩) n cap) (swpL L j) := by
  subst hx hy
  exact (h.set1 rfl (j + 1) _ _ rfl).set1 rfl j _ _ rfl
set_option maxRecDepth 100000 in
set_option maxHeartbeats 8000000 in
theorem insSortI_any (g cap base : Nat) (xs : List Int) (w : World) (ho : Own fInt w base 2 (.slice (some ⟨g, 0, none⟩) xs.length cap) xs) (hl : xs.length ≤ 12) :
    Calls Tryz.prog 138 #[.slice (some ⟨g, 0, none⟩) xs.length cap, .int .i64 0, .int .i64 xs.length] w fun e w' =>
      e = .returned (.tuple #[]) ∧ ∃ L, Own fInt w' base 2 (.slice (some ⟨g, 0, none⟩) xs.length cap) L ∧ L.Perm xs ∧ L.Pairwise (· ≤ ·) ∧ Only [g] w w' := by
  obtain ⟨hgB, hgl, _, hnc, _⟩ := ho.blk
  obtain ⟨n, hn⟩ : ∃ n, n = xs.length := ⟨_, rfl⟩
  have HN := Lib.hid hn
  rw [← hn] at ho hl hnc ⊢
  clear hn
  go_enter Tryz.func138, Tryz.ntmps138
  go_wp2
  go_loopw [6] (fun vi wr => ∃ (i : Nat) (L : List Int), vi = .int .i64 (i + 1 : Nat) ∧ (i + 1 ≤ n ∨ i = 0) ∧ Own fInt wr base 2 (.slice (some ⟨g, 0, none⟩) n cap) L ∧ Hid (L.Perm xs ∧ Srt1 L (i + 1)) ∧ Only [g] w wr) (fun vi _ => n + 1 - (intOf vi).toNat)
  case atStart => exact ⟨0, xs, by go_num, .inr rfl, ho, ⟨List.Perm.refl _, fun p q h1 h2 => by omega⟩, Only.refl _ _⟩
  case round => as_aux_lemma =>
    clear ho
    obtain ⟨i, L, rfl, hi, ho, HP, hor⟩ := hrel
    rename World => wo
    by_cases hlt : i + 1 < n
    rotate_left
    · have hlt' : ¬ (i : Int) + 1 < (n : Int) := by omega
      have hLn : L.length = xs.length := HP.out.1.length_eq
      go_wp2
      go_end0
      refine ⟨rfl, L, ho, HP.out.1, srt_pairwise (fun p q h1 h2 => HP.out.2 p q h1 (by have := HN.out; omega)), hor⟩
    have hlt' : (i : Int) + 1 < (n : Int) := by omega
    go_wp2
    go_loopw [7] (fun vj wr => ∃ (j : Nat) (M : List Int), vj = .int .i64 j ∧ j ≤ i + 1 ∧ Own fInt wr base 2 (.slice (some ⟨g, 0, none⟩) n cap) M ∧ Hid (M.Perm xs ∧ Ins1 M (i + 1) j) ∧ Only [g] w wr) (fun vj _ => (intOf vj).toNat)
    case atStart => exact ⟨i + 1, L, by go_num, Nat.le_refl _, ho, ⟨HP.out.1, Ins1.start HP.out.2⟩, hor⟩
    case round => as_aux_lemma =>
      clear ho hor HP
      obtain ⟨j, M, rfl, hj, ho, HP, hor⟩ := hrel
      have hMn : M.length = n := HP.out.1.length_eq.trans HN.out.symm
      cases j with
      | zero =>
        clear hMn
        have HS : Hid (M.Perm xs ∧ Srt1 M (i + 1 + 1)) := ⟨HP.out.1, Ins1.zero HP.out.2⟩
        go_wp2
        refine wp_region_mix (C := fun w' => ∃ p : Regrown, w' = Go.Sort.grow (redrawn wr p.d) p.os) [true, true, true, true, true, true, true, true, true, true, true, true, true, false, true] (by kernel_rfl) (by kernel_rfl) (by kernel_rfl) (fun _ _ d _ _ h => by cases d <;> exact h) (regrown_of_below (Below.drew (Below.refl _ _))) ?_
        have hS0 : Below (wr.heap.size) wr wr.drew := Below.drew (Below.refl _ _)
        refine wpMix_pure (by kernel_rfl) (fun K hK => ?_); go_big_quiet_op; refine hK _ ?_; clear hK K
        refine wpMix_pure (by kernel_rfl) (fun K hK => ?_); go_big_quiet_op; refine hK _ ?_; clear hK K
        refine wpMix_pure (by kernel_rfl) (fun K hK => ?_); go_big_quiet_op; refine hK _ ?_; clear hK K
        refine wpMix_pure (by kernel_rfl) (fun K hK => ?_); go_big_quiet_op; refine hK _ ?_; clear hK K
        refine wpMix_skip (by kernel_rfl) (fun K hK => ?_)
        simp only [Act.put, List.setIfInBounds_toArray, List.set_cons_zero, List.set_cons_succ]
        refine hK _ ?_; clear hK K
        refine wpMix_skip (by kernel_rfl) (fun K hK => ?_)
        simp only [Act.put, List.setIfInBounds_toArray, List.set_cons_zero, List.set_cons_succ]
        refine hK _ ?_; clear hK K
        refine wpMix_skip (by kernel_rfl) (fun K hK => ?_)
        simp only [Act.put, List.setIfInBounds_toArray, List.set_cons_zero, List.set_cons_succ]
        refine hK _ ?_; clear hK K
        refine wpMix_skip (by kernel_rfl) (fun K hK => ?_)
        simp only [Act.put, List.setIfInBounds_toArray, List.set_cons_zero, List.set_cons_succ]
        refine hK _ ?_; clear hK K
        refine wpMix_skip (by kernel_rfl) (fun K hK => ?_)
        simp only [Act.put, List.setIfInBounds_toArray, List.set_cons_zero, List.set_cons_succ]
        refine hK _ ?_; clear hK K
        refine wpMix_skip (by kernel_rfl) (fun K hK => ?_)
        simp only [Act.put, List.setIfInBounds_toArray, List.set_cons_zero, List.set_cons_succ]
        refine hK _ ?_; clear hK K
        refine wpMix_skip (by kernel_rfl) (fun K hK => ?_)
        simp only [Act.put, List.setIfInBounds_toArray, List.set_cons_zero, List.set_cons_succ]
        refine hK _ ?_; clear hK K
        refine wpMix_skip (by kernel_rfl) (fun K hK => ?_)
        simp only [Act.put, List.setIfInBounds_toArray, List.set_cons_zero, List.set_cons_succ]
        refine hK _ ?_; clear hK K
        refine wpMix_skip (by kernel_rfl) (fun K hK => ?_)
        simp only [Act.put, List.setIfInBounds_toArray, List.set_cons_zero, List.set_cons_succ]
        refine hK _ ?_; clear hK K
        refine wpMix_skip (by kernel_rfl) (fun K hK => ?_)
        simp only [Act.put, List.setIfInBounds_toArray, List.set_cons_zero, List.set_cons_succ]
        refine hK _ ?_; clear hK K
        refine wpMix_pure (by kernel_rfl) (fun K hK => ?_); go_big_quiet_op; refine hK _ ?_; clear hK K
        refine wpMix_nil ?_
        go_wp2
        go_roundw
        case rel => exact ⟨i + 1, M, by go_num, by omega, ho.below (hS0), HS, Only.trans hor (Only.of_below (hS0))⟩
        case measure => simp [intOf]; omega
      | succ j =>
        have hj1 : j + 1 < M.length := by omega
        have c1 : wr.cell? ⟨g, j + 1, none⟩ = some (.int .i64 (M.getD (j + 1) 0)) := ho.cellI (by rw [List.getElem?_eq_getElem hj1, getD_of_lt hj1])
        have c2 : wr.cell? ⟨g, j, none⟩ = some (.int .i64 (M.getD j 0)) := ho.cellI (by rw [List.getElem?_eq_getElem (show j < M.length by omega), getD_of_lt (show j < M.length by omega)])
        obtain ⟨y, hy⟩ : ∃ y, y = M.getD (j + 1) 0 := ⟨_, rfl⟩
        obtain ⟨x, hx⟩ : ∃ x, x = M.getD j 0 := ⟨_, rfl⟩
        rw [← hy] at c1
        rw [← hx] at c2
        have HX := Lib.hid hx
        have HY := Lib.hid hy
        have HMN := Lib.hid hMn
        have hjn : j + 1 < n := by omega
        have hjn1 : (j : Int) + 1 < (n : Int) := by omega
        have hjn2 : (j : Int) < (n : Int) := by omega
        clear hx hy hMn
        rw [show ((j + 1 : Nat) : Int) = (j : Int) + 1 by omega]
        go_wp2
        have gc1 := cell_regrown c1
        have gc2 := cell_regrown c2
        refine wp_region_mix (C := fun w' => ∃ p : Regrown, w' = Go.Sort.grow (redrawn wr p.d) p.os) [true, true, true, true, true, true, true, true, true, true, true, true, true, false, true] (by kernel_rfl) (by kernel_rfl) (by kernel_rfl) (fun _ _ d _ _ h => by cases d <;> exact h) (regrown_of_below (Below.drew (Below.refl _ _))) ?_
        have hS0 : Below (wr.heap.size) wr wr.drew := Below.drew (Below.refl _ _)
        refine wpMix_pure (by kernel_rfl) (fun K hK => ?_); go_big_quiet_op; refine hK _ ?_; clear hK K
        refine wpMix_pure (by kernel_rfl) (fun K hK => ?_); go_big_quiet_op; refine hK _ ?_; clear hK K
        refine wpMix_pure (by kernel_rfl) (fun K hK => ?_); go_big_quiet_op; refine hK _ ?_; clear hK K
        refine wpMix_pure (by kernel_rfl) (fun K hK => ?_); go_big_quiet_op; refine hK _ ?_; clear hK K
        refine wpMix_pure (by kernel_rfl) (fun K hK => ?_); go_big_quiet_op; refine hK _ ?_; clear hK K
        refine wpMix_pure (by kernel_rfl) (fun K hK => ?_); go_big_quiet_op; refine hK _ ?_; clear hK K
        refine wpMix_pure (by kernel_rfl) (fun K hK => ?_); go_big_quiet_op; refine hK _ ?_; clear hK K
        refine wpMix_pure (by kernel_rfl) (fun K hK => ?_); go_big_quiet_op; refine hK _ ?_; clear hK K
        refine wpMix_pure (by kernel_rfl) (fun K hK => ?_); go_big_quiet_op; refine hK _ ?_; clear hK K
        refine wpMix_pure (by kernel_rfl) (fun K hK => ?_); go_big_quiet_op; refine hK _ ?_; clear hK K
        refine wpMix_pure (by kernel_rfl) (fun K hK => ?_); go_big_quiet_op; refine hK _ ?_; clear hK K
        refine wpMix_pure (by kernel_rfl) (fun K hK => ?_); go_big_quiet_op; refine hK _ ?_; clear hK K
        refine wpMix_pure (by kernel_rfl) (fun K hK => ?_); go_big_quiet_op; refine hK _ ?_; clear hK K
        refine wpMix_act (by kernel_rfl) (fun K hK => ?_)
        go_big_op
        refine (lessI_any _ _ _).mono ?_
        rintro e w' ⟨rfl, rfl⟩
        refine hK _ _ (regrown_of_below hS0) ?_
        clear hK K
        cases hq13 : ltInt y x
        · skip
          refine wpMix_pure (by kernel_rfl) (fun K hK => ?_); go_big_quiet_op; refine hK _ ?_; clear hK K
          refine wpMix_nil ?_
          have HS : Hid (M.Perm xs ∧ Srt1 M (i + 1 + 1)) := ⟨HP.out.1, Ins1.stop HP.out.2 (by rw [← HX.out, ← HY.out]; have := hq13; unfold ltInt at this; have := of_decide_eq_false this; omega)⟩
          have ho9 := ho.below (hS0)
          have hor9 := Only.trans hor (Only.of_below (hS0))
          clear HP c1 c2 gc1 gc2 hS0
          go_wp2
          go_roundw
          case rel => exact ⟨i + 1, M, by go_num, by omega, ho9, HS, hor9⟩
          case measure => simp [intOf]; omega
        · skip
          refine wpMix_pure (by kernel_rfl) (fun K hK => ?_); go_big_quiet_op; refine hK _ ?_; clear hK K
          refine wpMix_nil ?_
          have HS : Hid ((swpL M j).Perm xs ∧ Ins1 (swpL M j) (i + 1) j) := ⟨(swpL_perm hj1).trans HP.out.1, Ins1.step HP.out.2 (by rw [← HX.out, ← HY.out]; have := hq13; unfold ltInt at this; exact of_decide_eq_true this) (by omega) hj1⟩
          have hS9 : Below wr.heap.size wr wr.drew := hS0
          have ho9 := ho.below hS9
          have hor9 := Only.trans hor (Only.of_below hS9)
          have d1 : wr.drew.cell? ⟨g, j + 1, none⟩ = some (.int .i64 y) := (hS9.cell (p := ⟨g, j + 1, none⟩) (block_lt_of_cell c1)).trans c1
          have d2 : wr.drew.cell? ⟨g, j, none⟩ = some (.int .i64 x) := (hS9.cell (p := ⟨g, j, none⟩) (block_lt_of_cell c2)).trans c2
          have z1 := ho9.frozenS (j + 1)
          have z2 := ho9.frozenS j
          have HO2 := Lib.hid (own_swp ho9 hj1 HX.out HY.out)
          have HR2 := Lib.hid ((hor9.set (j + 1) (.int .i64 x)).set j (.int .i64 y))
          clear HP c1 c2 gc1 gc2 hS0 hS9 ho9 hor9
          generalize wr.drew = W9 at *
          go_wp2
          refine wp_region_fork (C := fun _ => True) [0, 1, 2, 3, 4, 5, 6, 7, 8, 10, 11, 12] 9 [13, 14, 15, 16, 17] [false, true, false, true, false] 13 [9, 14, 15, 16, 17] [false, true, false, true, false] (by kernel_rfl) (by kernel_rfl) (by kernel_rfl) (fun _ _ d _ _ h => by cases d <;> exact h) trivial ?_
          simp only [List.map_cons, List.map_nil, List.getD_cons_zero, List.getD_cons_succ]
          have hS0 : Below (W9.heap.size) W9 W9.drew := Below.drew (Below.refl _ _)
          refine wpFork_pure (by kernel_rfl) (fun K hK => ?_)
          go_big_quiet_op
          refine hK _ ?_; clear hK K
          refine wpFork_pure (by kernel_rfl) (fun K hK => ?_)
          go_big_quiet_op
          refine hK _ ?_; clear hK K
          refine wpFork_pure (by kernel_rfl) (fun K hK => ?_)
          go_big_quiet_op
          refine hK _ ?_; clear hK K
          refine wpFork_pure (by kernel_rfl) (fun K hK => ?_)
          go_big_quiet_op
          refine hK _ ?_; clear hK K
          refine wpFork_pure (by kernel_rfl) (fun K hK => ?_)
          go_big_quiet_op
          refine hK _ ?_; clear hK K
          refine wpFork_pure (by kernel_rfl) (fun K hK => ?_)
          go_big_quiet_op
          refine hK _ ?_; clear hK K
          refine wpFork_pure (by kernel_rfl) (fun K hK => ?_)
          go_big_quiet_op
          refine hK _ ?_; clear hK K
          refine wpFork_pure (by kernel_rfl) (fun K hK => ?_)
          go_big_quiet_op
          refine hK _ ?_; clear hK K
          refine wpFork_pure (by kernel_rfl) (fun K hK => ?_)
          go_big_quiet_op
          refine hK _ ?_; clear hK K
          refine wpFork_pure (by kernel_rfl) (fun K hK => ?_)
          go_big_quiet_op
          refine hK _ ?_; clear hK K
          refine wpFork_pure (by kernel_rfl) (fun K hK => ?_)
          go_big_quiet_op
          refine hK _ ?_; clear hK K
          refine wpFork_pure (by kernel_rfl) (fun K hK => ?_)
          go_big_quiet_op
          refine hK _ ?_; clear hK K
          refine wpFork_split ?_ ?_
          · skip
            refine wpMix_act (by kernel_rfl) (fun K hK => ?_)
            go_big_op
            try simp only [Act.put, List.setIfInBounds_toArray, List.set_cons_zero, List.set_cons_succ]
            refine hK _ _ trivial ?_
            clear hK K
            refine wpMix_act (by kernel_rfl) (fun K hK => ?_)
            go_big_op
            try simp only [Act.put, List.setIfInBounds_toArray, List.set_cons_zero, List.set_cons_succ]
            refine hK _ _ trivial ?_
            clear hK K
            refine wpMix_pure (by kernel_rfl) (fun K hK => ?_); go_big_quiet_op; refine hK _ ?_; clear hK K
            refine wpMix_act (by kernel_rfl) (fun K hK => ?_)
            go_big_op
            try simp only [Act.put, List.setIfInBounds_toArray, List.set_cons_zero, List.set_cons_succ]
            refine hK _ _ trivial ?_
            clear hK K
            refine wpMix_pure (by kernel_rfl) (fun K hK => ?_); go_big_quiet_op; refine hK _ ?_; clear hK K
            refine wpMix_act (by kernel_rfl) (fun K hK => ?_)
            go_big_op
            try simp only [Act.put, List.setIfInBounds_toArray, List.set_cons_zero, List.set_cons_succ]
            refine hK _ _ trivial ?_
            clear hK K
            refine wpMix_nil ?_
            have hj12 : (j : Int) ≤ 12 := by omega
            clear hq13 HX HY
            go_wp2
            go_roundw
            case rel => exact ⟨j, swpL M j, by go_num, by omega, HO2.out.below (Below.drew (Below.refl _ _)), HS, Only.trans HR2.out (Only.of_below (Below.drew (Below.refl _ _)))⟩
            case measure => simp [intOf]
          · skip
            refine wpMix_act (by kernel_rfl) (fun K hK => ?_)
            go_big_op
            try simp only [Act.put, List.setIfInBounds_toArray, List.set_cons_zero, List.set_cons_succ]
            refine hK _ _ trivial ?_
            clear hK K
            refine wpMix_act (by kernel_rfl) (fun K hK => ?_)
            go_big_op
            try simp only [Act.put, List.setIfInBounds_toArray, List.set_cons_zero, List.set_cons_succ]
            refine hK _ _ trivial ?_
            clear hK K
            refine wpMix_pure (by kernel_rfl) (fun K hK => ?_); go_big_quiet_op; refine hK _ ?_; clear hK K
            refine wpMix_act (by kernel_rfl) (fun K hK => ?_)
            go_big_op
            try simp only [Act.put, List.setIfInBounds_toArray, List.set_cons_zero, List.set_cons_succ]
            refine hK _ _ trivial ?_
            clear hK K
            refine wpMix_pure (by kernel_rfl) (fun K hK => ?_); go_big_quiet_op; refine hK _ ?_; clear hK K
            refine wpMix_act (by kernel_rfl) (fun K hK => ?_)
            go_big_op
            try simp only [Act.put, List.setIfInBounds_toArray, List.set_cons_zero, List.set_cons_succ]
            refine hK _ _ trivial ?_
            clear hK K
            refine wpMix_nil ?_
            have hj12 : (j : Int) ≤ 12 := by omega
            clear hq13 HX HY
            go_wp2
            go_roundw
            case rel => exact ⟨j, swpL M j, by go_num, by omega, HO2.out.below (Below.drew (Below.refl _ _)), HS, Only.trans HR2.out (Only.of_below (Below.drew (Below.refl _ _)))⟩
            case measure => simp [intOf]
set_option maxRecDepth 100000 in
set_option maxHeartbeats 4000000 in
theorem pdqI_any (g cap base : Nat) (xs : List Int) (lim : Int) (w : World) (ho : Own fInt w base 2 (.slice (some ⟨g, 0, none⟩) xs.length cap) xs) (hl : xs.length ≤ 12) :
    Calls Tryz.prog 106 #[.slice (some ⟨g, 0, none⟩) xs.length cap, .int .i64 0, .int .i64 xs.length, .int .i64 lim] w fun e w' =>
      e = .returned (.tuple #[]) ∧ ∃ L, Own fInt w' base 2 (.slice (some ⟨g, 0, none⟩) xs.length cap) L ∧ L.Perm xs ∧ L.Pairwise (· ≤ ·) ∧ Only [g] w w' := by
  have hl' : (xs.length : Int) ≤ 12 := by omega
  go_enter Tryz.func106, Tryz.ntmps106
  go_wp2
  go_loopw [1, 2] (fun a b wr => a = .int .i64 0 ∧ b = .int .i64 xs.length ∧ wr = w) (fun _ _ _ => 0)
  case atStart => exact ⟨rfl, rfl, rfl⟩
  case round =>
    obtain ⟨rfl, rfl, rfl⟩ := hrel
    go_wp2_with fail
    refine (insSortI_any g cap base xs _ ho hl).mono ?_
    rintro e w1 ⟨rfl, h⟩
    go_wp2
    exact bodyPost_ret (v := .tuple #[]) (by simp [results, Tryz.results106, go_sem]) rfl ⟨rfl, h⟩
set_option maxRecDepth 100000 in
set_option maxHeartbeats 4000000 in
theorem sortI_any (g cap base : Nat) (xs : List Int) (w : World) (ho : Own fInt w base 2 (.slice (some ⟨g, 0, none⟩) xs.length cap) xs) (hl : xs.length ≤ 12) :
    Calls Tryz.prog 70 #[.slice (some ⟨g, 0, none⟩) xs.length cap] w fun e w' =>
      e = .returned (.tuple #[]) ∧ ∃ L, Own fInt w' base 2 (.slice (some ⟨g, 0, none⟩) xs.length cap) L ∧ L.Perm xs ∧ L.Pairwise (· ≤ ·) ∧ Only [g] w w' := by
  go_enter Tryz.func70, Tryz.ntmps70
  go_wp2_with fail
  refine (Tryz.bits_Len (xs.length : Int) _ (by omega) (by omega)).mono ?_
  rintro e w' ⟨rfl, rfl⟩
  go_wp2_with fail
  refine (pdqI_any g cap base xs _ _ ho hl).mono ?_
  rintro e w1 ⟨rfl, h⟩
  go_wp2
  go_end0
  exact ⟨rfl, h⟩

end Go.Proofs.YtgnbhcgagdfaiaaGreatDoor
