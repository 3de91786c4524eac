/- Parts of the proof: Tb, Bu, TGate, PGate, Gt, Sp, TInt64, Lt, Ge, Gr, Gq, Gl, Gp, Gm. -/
import Derived.Test.YtdpeffaplkbkgaaGreatDoorG02
import Derived.Test.YtdpeffaplkbkgaaGreatDoorG03
import Derived.LaidSub
import Derived.MakeChecks
import Derived.Lib.LaidTab
import Derived.Lib.AppendIntMem
import Derived.Lib.SmallJoins
import Derived.Test.YtdpeffaplkbkgaaGreatDoorG01
import Derived.Lib.Builder
import Derived.Lib.AppendStr
import Derived.Lib.UnsafeStr
import Derived.Lib.MakeNoZero
import Derived.Laws.Externs
import Derived.Lib.SplitLaws
import Derived.StillTailTactics
namespace Go.Proofs.YtdpeffaplkbkgaaGreatDoor
open Go.RowKit
set_option linter.unusedVariables false

def Tab10 (w : World) : Prop := Lib.TabIs Tryz.prog w "internal/strconv.uint64pow10" .u64 Lib.pow10Tab
theorem Tab10.below {w w' : World} (h : Tab10 w) (hb : Below w.heap.size w w') : Tab10 w' :=
  Go.Joins.var_stays (g := 3) (by kernel_rfl) h hb (Nat.le_refl _)
theorem tab10_of {laid : List (String × DataW Unit)} {W : World} (h : laidMetH Tryz.prog laid W) (hl : laid.filter (fun x => x.1 == "internal/strconv.uint64pow10") = [("internal/strconv.uint64pow10", Lib.tabData .u64 Lib.pow10Tab)]) : Tab10 W := by
  have h1 := h.filter (fun x => x.1 == "internal/strconv.uint64pow10")
  rw [hl] at h1
  have h1 := Eq.mp (MakeChecks.laidMetH_plain _ _ _ rfl) h1
  exact Lib.tabIs_of_head (g := 3) (t := 141) (n := 20) (e := 74) (by kernel_rfl) (by kernel_rfl) Tryz.underlying141 Tryz.underlying74 (by kernel_rfl) (by kernel_rfl) h1
theorem itoa_len5 (n : Nat) (h : n < 65536) : (Lib.itoa (n : Int)).length ≤ 5 := by
  by_cases h0 : n = 0
  · subst h0; rw [← decS_size, show ((0 : Nat) : Int) = 0 from rfl, decS_zero]; decide
  · rw [itoa_ne (by omega), if_neg (by omega)]
    have := dig_len 5 n (by omega)
    simpa using this
theorem Decimal_any (n : Int) (w : World) (h0 : -9223372036854775808 ≤ n) (h1 : n ≤ 9223372036854775807) (ht : Tab10 w) :
    Calls Tryz.prog 54 #[.int .i64 n] w fun e w' => e = .returned (.string (decS n)) ∧ Below w.heap.size w w' := by
  go_enter Tryz.func54, Tryz.ntmps54
  go_wp2_with fail
  refine (Tryz.strconv_FormatInt_10 n h0 h1 _ ht).mono ?_
  rintro e w1 ⟨rfl, k, os, rfl⟩
  have hb := Lib.below_grow w.heap.size w (Nat.le_refl _) k os
  generalize Go.Sort.grow (w.drewN k) os = w1 at *
  go_wp2
  go_ret
  exact ⟨rfl, hb⟩

end Go.Proofs.YtdpeffaplkbkgaaGreatDoor

namespace Go.Proofs.YtdpeffaplkbkgaaGreatDoor
open Go.RowKit

theorem infoBuilder : (Tryz.prog.info? 103).map (·.size) = some 2 := by kernel_rfl
theorem liesBuilder : liesAt Tryz.prog Tryz.prog.depth 103 (2 / Tryz.prog.cellsOf 103) 0 103 1 = true := by kernel_rfl
theorem infoU8 : (Tryz.prog.info? 5).map (fun i => (i.zero, i.size, i.bytes)) = some (some (.int .u8 0), 1, 1) := by kernel_rfl

set_option maxRecDepth 100000 in
set_option maxRecDepth 100000 in
set_option maxHeartbeats 1000000 in
theorem copyCheck_used (b : Nat) (w : World) (h0 : w.cell? ⟨b, 0, none⟩ = some (.pointer (some ⟨b, 0, none⟩))) :
    Calls Tryz.prog 78 #[.pointer (some ⟨b, 0, none⟩)] w fun e w' => e = .returned (.tuple #[]) ∧ w' = w := by
  obtain ⟨j, hj, _⟩ := Option.map_eq_some_iff.1 infoBuilder
  go_enter Tryz.func78, Tryz.ntmps78
  go_wp2
  rw [Lib.run_neq_ptr_same w _ Tryz.underlying101 hj]
  go_wp2
  go_end0
  exact ⟨rfl, rfl⟩

set_option maxRecDepth 100000 in
set_option maxRecDepth 100000 in
set_option maxHeartbeats 1000000 in
theorem copyCheck_fresh (b : Nat) (w : World) (h0 : w.cell? ⟨b, 0, none⟩ = some (.pointer none)) (hsh : w.shape? b = some (103, 2)) (hfz : w.frozen? ⟨b, 0, none⟩ = false) :
    Calls Tryz.prog 78 #[.pointer (some ⟨b, 0, none⟩)] w fun e w' => e = .returned (.tuple #[]) ∧ w' = w.setCell ⟨b, 0, none⟩ (.pointer (some ⟨b, 0, none⟩)) := by
  obtain ⟨j, hj, hjs⟩ := Option.map_eq_some_iff.1 infoBuilder
  go_enter Tryz.func78, Tryz.ntmps78
  go_wp2
  rw [Lib.run_to_unsafe w ⟨b, 0, none⟩ Tryz.underlying101 Tryz.underlying132 hj (by rw [hjs]; decide) hsh (Nat.zero_lt_succ 1)]
  simp only [Result.andThen]
  rw [Oper.upon_value]
  go_wp2
  rw [run_callFunc_extern Tryz.func95 (by kernel_rfl) (by kernel_rfl) (by kernel_rfl) (e := Extern.AbiNoEscape.same) (by kernel_rfl)]
  rw [Lib.run_noEscape]
  simp only [Result.andThen]
  rw [Oper.upon_value]
  go_wp2
  rw [Lib.run_from_unsafe w ⟨b, 0, none⟩ Tryz.underlying132 Tryz.underlying101 hj hsh liesBuilder]
  simp only [Result.andThen]
  rw [Oper.upon_value]
  go_wp2
  go_end0
  exact ⟨rfl, rfl⟩

theorem copyCheck_any (B b : Nat) (bs : List Value) (w : World) (h : Lib.IsBuilder 103 5 B b bs w) :
    Calls Tryz.prog 78 #[.pointer (some ⟨b, 0, none⟩)] w fun e w' => e = .returned (.tuple #[]) ∧ (Lib.BuilderAt 103 5 B b (.pointer (some ⟨b, 0, none⟩)) bs w' ∧ Below B w w') := by
  rcases h with h | h
  · refine (copyCheck_fresh b w h.cell0 h.shape h.frozen0).mono ?_
    rintro e w' ⟨rfl, rfl⟩
    exact ⟨rfl, h.used _, (Below.refl B w).setCell (p := ⟨b, 0, none⟩) h.1 _⟩
  · refine (copyCheck_used b w h.cell0).mono ?_
    rintro e w' ⟨rfl, rfl⟩
    exact ⟨rfl, h, Below.refl B _⟩

set_option maxRecDepth 100000 in
set_option maxRecDepth 100000 in
set_option maxHeartbeats 2000000 in
theorem writeString_any (B b : Nat) (bs : List Value) (s : ByteArray) (w : World) (h : Lib.IsBuilder 103 5 B b bs w) (hlen : bs.length + s.size ≤ 140737488355328) (hBw : B ≤ w.heap.size) :
    Calls Tryz.prog 65 #[.pointer (some ⟨b, 0, none⟩), .string s] w fun e w' => e = .returned (.tuple #[.int .i64 s.size, .nilIface]) ∧ (Lib.IsBuilder 103 5 B b (bs ++ Lib.strCells s) w' ∧ Below B w w') := by
  obtain ⟨i0, hi, hz0, hz1, hz2⟩ := info_parts infoU8
  go_enter Tryz.func65, Tryz.ntmps65
  go_wp2_with (go_at_call 78; refine (copyCheck_any B b bs _ h).mono ?_)
  rintro e w1 ⟨rfl, h1, hb1⟩
  obtain ⟨hB, v, hbk, hown, hne⟩ := h1
  have c0 : w1.cell? ⟨b, 0, none⟩ = some (.pointer (some ⟨b, 0, none⟩)) := by rw [Lib.cell_of_heap hbk]; rfl
  have c1 : w1.cell? ⟨b, 1, none⟩ = some v := by rw [Lib.cell_of_heap hbk]; rfl
  go_wp2_with (at_builtin; refine Lib.wpList_append_own_string _ rfl _ _ 22 9 rfl B 5 i0 Tryz.underlying22 Tryz.underlying9 hi hz0 hz1 hz2 _ _ _ rfl hown s rfl ?c3 ?c4 ?c5 ?_)
  case c3 => unfold maxLen; omega
  case c4 => omega
  case c5 => have := hb1.size; omega
  intro v' w2 hown' hgrow _
  have hlt : b < w1.heap.size := by
    rcases Nat.lt_or_ge b w1.heap.size with h' | h'
    · exact h'
    · simp [Array.getElem?_eq_none h'] at hbk
  have hb2 : w2.heap[b]? = some (.cells #[.pointer (some ⟨b, 0, none⟩), v] 103 (0, 0)) := by
    rw [hgrow.block b hlt (fun e => hne e.symm)]
    exact hbk
  have d0 : w2.cell? ⟨b, 0, none⟩ = some (.pointer (some ⟨b, 0, none⟩)) := by rw [Lib.cell_of_heap hb2]; rfl
  have d1 : w2.cell? ⟨b, 1, none⟩ = some v := by rw [Lib.cell_of_heap hb2]; rfl
  have f1 : w2.frozen? ⟨b, 1, none⟩ = false := Lib.frozen_of_heap hb2 1
  obtain ⟨ao, n', cap, rfl⟩ : ∃ ao n' cap, v' = .slice ao n' cap := by
    rcases hown'.2 with ⟨hv, _⟩ | ⟨g, cap, cur, hv, _⟩
    · exact ⟨_, _, _, hv⟩
    · exact ⟨_, _, _, hv⟩
  go_wp2
  go_ret2
  refine ⟨rfl, .inr ?_, ?_⟩
  · exact Lib.BuilderAt.put (T := 103) (e := 5) hB hb2 (bs' := bs ++ Lib.strCells s) (by simpa [Lib.strCells_length] using hown') (by decide)
  · exact (hb1.grown hgrow (by have := hb1.size; omega) (fun k hk => (hown.lt k hk).1)).setCell (p := ⟨b, 1, none⟩) hB _

/-- 'var b strings.Builder' behind the alloc. -/
theorem builder_new (w : World) : Lib.IsBuilder 103 5 w.heap.size w.heap.size [] (w.alloc (.cells #[.pointer none, .slice none 0 0] 103)) :=
  .inl ⟨Nat.le_refl _, .slice none 0 0, heap_alloc_new w _, World.ownsRow_nil _ _ _ _, by simp [Value.ownBlock]⟩

theorem isB_below {B b : Nat} {bs : List Value} {w w' : World} (h : Lib.IsBuilder 103 5 B b bs w) (hb : Below w.heap.size w w') : Lib.IsBuilder 103 5 B b bs w' := by
  have key : ∀ p, Lib.BuilderAt 103 5 B b p bs w → Lib.BuilderAt 103 5 B b p bs w' := by
    rintro p ⟨hB, v, hbk, hown, hne⟩
    have hlt : b < w.heap.size := by
      rcases Nat.lt_or_ge b w.heap.size with h' | h'
      · exact h'
      · simp [Array.getElem?_eq_none h'] at hbk
    refine ⟨hB, v, by rw [hb.block _ hlt]; exact hbk, ?_, hne⟩
    obtain ⟨h1, h2⟩ := hown
    refine ⟨h1, ?_⟩
    rcases h2 with h2 | ⟨g, cap, cur, hv, hg, hh, r⟩
    · exact .inl h2
    · have hgl : g < w.heap.size := by
        rcases Nat.lt_or_ge g w.heap.size with hlt | hge
        · exact hlt
        · rw [Array.getElem?_eq_none hge] at hh; cases hh
      exact .inr ⟨g, cap, cur, hv, hg, by rw [hb.block _ hgl]; exact hh, r⟩
  rcases h with h | h
  · exact .inl (key _ h)
  · exact .inr (key _ h)
end Go.Proofs.YtdpeffaplkbkgaaGreatDoor

namespace Go.Proofs.YtdpeffaplkbkgaaGreatDoor
open Go.RowKit
set_option linter.unusedVariables false

structure DGate where
  id : ByteArray
  shut : Int
  open_ : Int
  hold : Int
  shuts : Bool
  calm : Int
  deriving DecidableEq

def fGate : Flat DGate where
  n := 6
  enc := fun x => [.string x.id, .int .i64 x.shut, .int .i64 x.open_, .int .i64 x.hold, .bool x.shuts, .int .i64 x.calm]
  ok := fun x => fStr.ok x.id ∧ fInt.ok x.shut ∧ fInt.ok x.open_ ∧ fInt.ok x.hold ∧ fBool.ok x.shuts ∧ fInt.ok x.calm
  pos := by omega
  len := fun _ => rfl
  one := by intro x v hv; simp at hv; rcases hv with rfl | rfl | rfl | rfl | rfl | rfl <;> rfl

def totGate (x : DGate) : Nat := x.id.size
def totGateS (xs : List DGate) : Nat := xs.length + (xs.map totGate).sum






def mkGate (k : Int) : DGate := ⟨mt (k), k + 1, k + 1 + 1, k + 1 + 1 + 1, ((k + 1 + 1 + 1 + 1) % 3 == 0), k + 1 + 1 + 1 + 1 + 1⟩
def marksGate (k : Int) (n : Nat) : List DGate := (List.range n).map fun (i : Nat) => mkGate (k + 6 * (i : Int))

theorem marksGate_get (k0 : Int) (n i : Nat) (h : i < (marksGate k0 n).length) : (marksGate k0 n)[i] = mkGate (k0 + 6 * (i : Int)) := by
  simp [marksGate]
theorem marksGate_len (k0 : Int) (n : Nat) : (marksGate k0 n).length = n := by simp [marksGate]



end Go.Proofs.YtdpeffaplkbkgaaGreatDoor

namespace Go.Proofs.YtdpeffaplkbkgaaGreatDoor
open Go.RowKit
set_option linter.unusedVariables false

/-- A pointer to a Gate that lies somewhere. -/
structure PGate (w : World) (pb po : Nat) (x : DGate) : Prop where
  c0 : w.cell? ⟨pb, po, none⟩ = some (.string x.id)
  c1 : w.cell? ⟨pb, po + 1, none⟩ = some (.int .i64 x.shut)
  c2 : w.cell? ⟨pb, po + 2, none⟩ = some (.int .i64 x.open_)
  c3 : w.cell? ⟨pb, po + 3, none⟩ = some (.int .i64 x.hold)
  c4 : w.cell? ⟨pb, po + 4, none⟩ = some (.bool x.shuts)
  c5 : w.cell? ⟨pb, po + 5, none⟩ = some (.int .i64 x.calm)
theorem PGate.below {w w' : World} {pb po : Nat} {x : DGate} {B : Nat} (h : PGate w pb po x) (hb : Below B w w') (hB : pb < B) : PGate w' pb po x :=
  ⟨(hb.cell (p := ⟨pb, _, none⟩) hB).trans h.c0, (hb.cell (p := ⟨pb, _, none⟩) hB).trans h.c1, (hb.cell (p := ⟨pb, _, none⟩) hB).trans h.c2, (hb.cell (p := ⟨pb, _, none⟩) hB).trans h.c3, (hb.cell (p := ⟨pb, _, none⟩) hB).trans h.c4, (hb.cell (p := ⟨pb, _, none⟩) hB).trans h.c5⟩
theorem PGate.drewN {w : World} {pb po : Nat} {x : DGate} (h : PGate w pb po x) (n : Nat) : PGate (w.drewN n) pb po x :=
  ⟨h.c0, h.c1, h.c2, h.c3, h.c4, h.c5⟩
theorem PGate.lt {w : World} {pb po : Nat} {x : DGate} (h : PGate w pb po x) : pb < w.heap.size := block_lt_of_cell h.c0
theorem PGate.below' {w w' : World} {pb po : Nat} {x : DGate} (h : PGate w pb po x) (hb : Below w.heap.size w w') : PGate w' pb po x := h.below hb h.lt
theorem PGate.box (w : World) (x : DGate) (T : TypeId) : PGate (w.alloc (.cells #[.string x.id, .int .i64 x.shut, .int .i64 x.open_, .int .i64 x.hold, .bool x.shuts, .int .i64 x.calm] T)) w.heap.size 0 x := by
  constructor <;> simp
theorem PGate.elem {w : World} {A : Option Addr} {len cap : Nat} {xs : List DGate} {fp : List Nat} (h : Sl fGate.cod w (.slice A len cap) xs fp) {k : Nat} (hk : k < xs.length) :
    ∃ b off, A = some ⟨b, off, none⟩ ∧ b ∈ fp ∧ fGate.ok xs[k] ∧ PGate w b (off + k * 6) xs[k] := by
  obtain ⟨b, off, hA, hm, hok, hc, _⟩ := h.at_ hk
  exact ⟨b, off, hA, hm, hok, ⟨hc 0 (by decide), hc 1 (by decide), hc 2 (by decide), hc 3 (by decide), hc 4 (by decide), hc 5 (by decide)⟩⟩
end Go.Proofs.YtdpeffaplkbkgaaGreatDoor

namespace Go.Proofs.YtdpeffaplkbkgaaGreatDoor
open Go.RowKit
set_option linter.unusedVariables false

def gateB (x : DGate) : Bool := nameB x.id && inB x.shut 1 1000 && inB x.open_ 0 x.shut && inB x.hold 1 48 && inB x.calm 0 (x.hold - 1) && (x.shuts || decide (x.calm = 0))
theorem getD_of_ltG {α : Type} {xs : List α} {k : Nat} {d : α} (h : k < xs.length) : xs.getD k d = xs[k] := by rw [List.getD_eq_getElem?_getD, List.getElem?_eq_getElem h]; rfl
def gt0 : DGate := ⟨⟨#[]⟩, 0, 0, 0, false, 0⟩
def gtOk (xs : List DGate) (i : Nat) : Bool := gateB (xs.getD i gt0) && (decide (i = 0) || ltS (xs.getD (i - 1) gt0).id (xs.getD i gt0).id)
def gatesB (xs : List DGate) : Bool := allIdx (gtOk xs) xs.length && decide (xs.length ≤ 8)
theorem gtOk_zero {xs : List DGate} (h : 0 < xs.length) : gtOk xs 0 = gateB xs[0] := by simp [gtOk, h]
theorem gtOk_succ {xs : List DGate} {m : Nat} (h : m + 1 < xs.length) : gtOk xs (m + 1) = (gateB xs[m + 1] && ltS xs[m].id xs[m + 1].id) := by
  have h1 : m < xs.length := by omega
  simp [gtOk, h, h1]
theorem gatesB_bad {xs : List DGate} {k : Nat} (h : k < xs.length) (h1 : gtOk xs k = false) : gatesB xs = false := by
  unfold gatesB; rw [allIdx_bad h h1]; rfl
theorem gatesB_one {xs : List DGate} (h : gatesB xs = true) {k : Nat} (hk : k < xs.length) : gateB xs[k] = true := by
  unfold gatesB at h
  simp only [Bool.and_eq_true] at h
  have := allIdx_true.1 h.1 k hk
  unfold gtOk at this
  simp only [Bool.and_eq_true] at this
  rw [getD_of_ltG hk] at this
  exact this.1
theorem gatesB_len {xs : List DGate} (h : gatesB xs = true) : xs.length ≤ 8 := by
  unfold gatesB at h; simp at h; exact h.2

end Go.Proofs.YtdpeffaplkbkgaaGreatDoor

namespace Go.Proofs.YtdpeffaplkbkgaaGreatDoor
open Go.RowKit
set_option linter.unusedVariables false

def splL (c : UInt8) : List UInt8 → List (List UInt8)
  | [] => [[]]
  | b :: l => if b = c then [] :: splL c l else match splL c l with | [] => [[b]] | q :: r => (b :: q) :: r
theorem splL_ne (c : UInt8) : ∀ l, splL c l ≠ []
  | [] => by simp [splL]
  | b :: l => by
    unfold splL
    split
    · simp
    · split <;> simp
theorem splL_snoc (c : UInt8) (b : UInt8) : ∀ (l : List UInt8) (P : List (List UInt8)) (q : List UInt8), splL c l = P ++ [q] → splL c (l ++ [b]) = if b = c then P ++ [q] ++ [[]] else P ++ [q ++ [b]]
  | [], P, q, h => by
    have h' : [[]] = P ++ [q] := h
    cases P with
    | nil =>
      injection h' with h1 _
      subst h1
      show splL c [b] = _
      by_cases e : b = c <;> simp [splL, e]
    | cons p P => cases P <;> simp at h'
  | x :: l, P, q, h => by
    rw [List.cons_append]
    obtain ⟨P1, q1, h1⟩ : ∃ P1 q1, splL c l = P1 ++ [q1] := ⟨_, _, (List.dropLast_concat_getLast (splL_ne c l)).symm⟩
    have ih := splL_snoc c b l P1 q1 h1
    unfold splL at h ⊢
    by_cases e : x = c
    · rw [if_pos e] at h ⊢
      rw [h1, ← List.cons_append] at h
      obtain ⟨h2, h3⟩ := List.append_inj' h rfl
      subst h2
      injection h3 with h3 _
      subst h3
      rw [ih]
      by_cases eb : b = c
      · simp [eb]
      · simp [eb]
    · rw [if_neg e] at h ⊢
      rw [ih]
      rw [h1] at h
      cases P1 with
      | nil =>
        have h4 : [x :: q1] = P ++ [q] := h
        cases P with
        | nil =>
          injection h4 with h4 _
          subst h4
          by_cases eb : b = c <;> simp [eb]
        | cons p P => cases P <;> simp at h4
      | cons p1 P1 =>
        have h4 : ((x :: p1) :: P1) ++ [q1] = P ++ [q] := h
        obtain ⟨h2, h3⟩ := List.append_inj' h4 rfl
        subst h2
        injection h3 with h3 _
        subst h3
        by_cases eb : b = c <;> simp [eb]
theorem splL_none {c : UInt8} : ∀ {l : List UInt8}, (∀ b ∈ l, b ≠ c) → splL c l = [l]
  | [], _ => rfl
  | b :: l, h => by
    unfold splL
    rw [if_neg (h b (by simp)), splL_none (fun x hx => h x (by simp [hx]))]
/-- The pieces, each with the byte behind it but the last one, are the text. -/
theorem splL_join (c : UInt8) : ∀ (l : List UInt8) (P : List (List UInt8)) (q : List UInt8), splL c l = P ++ [q] → (P.flatMap fun p => p ++ [c]) ++ q = l
  | [], P, q, h => by
    have h' : [[]] = P ++ [q] := h
    cases P with
    | nil => injection h' with h1 _; subst h1; rfl
    | cons p P => cases P <;> simp at h'
  | x :: l, P, q, h => by
    obtain ⟨P1, q1, h1⟩ : ∃ P1 q1, splL c l = P1 ++ [q1] := ⟨_, _, (List.dropLast_concat_getLast (splL_ne c l)).symm⟩
    have ih := splL_join c l P1 q1 h1
    unfold splL at h
    by_cases e : x = c
    · rw [if_pos e, h1, ← List.cons_append] at h
      obtain ⟨h2, h3⟩ := List.append_inj' h rfl
      subst h2
      injection h3 with h3 _
      subst h3
      rw [List.flatMap_cons, List.append_assoc, ih, e]; rfl
    · rw [if_neg e, h1] at h
      cases P1 with
      | nil =>
        have h4 : [x :: q1] = P ++ [q] := h
        cases P with
        | nil =>
          injection h4 with h4 _
          subst h4
          rw [← ih]; rfl
        | cons p P => cases P <;> simp at h4
      | cons p1 P1 =>
        have h4 : ((x :: p1) :: P1) ++ [q1] = P ++ [q] := h
        obtain ⟨h2, h3⟩ := List.append_inj' h4 rfl
        subst h2
        injection h3 with h3 _
        subst h3
        rw [← ih]; simp
open Go.Lib in
theorem index_one (c : UInt8) (b : UInt8) (l : List UInt8) : index (b :: l) [c] = if b = c then 0 else if index l [c] == -1 then -1 else index l [c] + 1 := by
  rw [index]
  by_cases e : b = c
  · simp [List.isPrefixOf, e]
  · have e' : ¬ c = b := fun h => e h.symm
    simp [List.isPrefixOf, e, e']
open Go.Lib in
theorem splitK_one (c : UInt8) : ∀ l : List UInt8, splitK [c] 0 (count l [c]) l = splL c l
  | [] => by
    have h : index ([] : List UInt8) [c] = -1 := rfl
    rw [count_miss h]; rfl
  | b :: l => by
    have ih := splitK_one c l
    have hne : [c] ≠ ([] : List UInt8) := by simp
    have hi := index_one c b l
    unfold splL
    by_cases e : b = c
    · rw [if_pos e] at hi ⊢
      have hc := count_hit (i := 0) hne hi
      simp only [List.length_singleton, Nat.zero_add, List.drop_succ_cons, List.drop_zero] at hc
      rw [hc, Nat.add_comm 1, splitK, hi]
      simp [ih]
    · rw [if_neg e] at hi ⊢
      rcases index_spec l [c] with ⟨h1, _⟩ | ⟨i, h1, _⟩
      · rw [h1] at hi
        have hm : index (b :: l) [c] = -1 := hi
        rw [count_miss h1] at ih
        have ih' : [l] = splL c l := ih
        rw [count_miss hm, ← ih']; rfl
      · have hm : index (b :: l) [c] = ((i + 1 : Nat) : Int) := by
          rw [hi, h1, if_neg (by rw [beq_iff_eq]; omega)]; omega
        have c1 := count_hit hne h1
        have c2 := count_hit hne hm
        rw [c1, Nat.add_comm 1, splitK, h1, if_neg (by rw [beq_iff_eq]; omega)] at ih
        rw [c2, Nat.add_comm 1, splitK, hm, if_neg (by rw [beq_iff_eq]; omega), ← ih]
        simp
def splS (c : UInt8) (s : ByteArray) : List ByteArray := (splL c s.data.toList).map (fun l => ⟨l.toArray⟩)
theorem splS_data (c : UInt8) (s : ByteArray) : (splS c s).map (fun x : ByteArray => x.data.toList) = splL c s.data.toList := by
  unfold splS; rw [List.map_map]; simp [Function.comp_def]
theorem splS_of {c : UInt8} {s : ByteArray} {L : List ByteArray} (h : L.map (fun x : ByteArray => x.data.toList) = splL c s.data.toList) : L = splS c s := by
  unfold splS; rw [← h, List.map_map]
  have : ((fun l : List UInt8 => (⟨l.toArray⟩ : ByteArray)) ∘ fun x : ByteArray => x.data.toList) = id := by funext x; cases x; simp
  rw [this, List.map_id]
theorem splS_split (c : UInt8) (s : ByteArray) : Lib.splitB ⟨#[c]⟩ 0 (Lib.countB s ⟨#[c]⟩) s = splS c s := by
  refine splS_of ?_
  have h := Lib.splitB_data ⟨#[c]⟩ 0 (Lib.countB s ⟨#[c]⟩) s
  exact h.trans (splitK_one c s.data.toList)
/-- All but the last piece, and the last one. -/
theorem splS_cut (c : UInt8) (s : ByteArray) : ∃ (P : List ByteArray) (q : ByteArray), splS c s = P ++ [q] ∧ (P.flatMap fun p : ByteArray => p.data.toList ++ [c]) ++ q.data.toList = s.data.toList := by
  have hne : splS c s ≠ [] := by unfold splS; rw [Ne, List.map_eq_nil_iff]; exact splL_ne c _
  refine ⟨(splS c s).dropLast, (splS c s).getLast hne, (List.dropLast_concat_getLast hne).symm, ?_⟩
  have h := splS_data c s
  rw [← List.dropLast_concat_getLast hne, List.map_append] at h
  have h2 := splL_join c s.data.toList _ _ h.symm
  rw [List.flatMap_map] at h2
  exact h2
theorem infoStr4 : (Tryz.prog.info? 9).map (fun i => (i.zero, i.size, i.bytes)) = some (some (.string ⟨#[]⟩), 1, 16) := by kernel_rfl
def OwnRT {α : Type} (E : Flat α) (T : TypeId) (w : World) (xs : List α) (e : Ending) (w' : World) : Prop := ∃ v, e = .returned v ∧ Own E w' w.heap.size T v xs ∧ Below w.heap.size w w'
theorem extract_toList (s : ByteArray) (f k : Nat) : (s.extract f k).data.toList = (s.data.toList.take k).drop f := by
  rw [Lib.extract_data, List.drop_take]

end Go.Proofs.YtdpeffaplkbkgaaGreatDoor

namespace Go.Proofs.YtdpeffaplkbkgaaGreatDoor
open Go.RowKit
set_option linter.unusedVariables false

def totInt64S (xs : List Int) : Nat := xs.length




def mkInt64 (k : Int) : Int := k
def marksInt64 (k : Int) (n : Nat) : List Int := (List.range n).map fun (i : Nat) => mkInt64 (k + 1 * (i : Int))

theorem marksInt64_get (k0 : Int) (n i : Nat) (h : i < (marksInt64 k0 n).length) : (marksInt64 k0 n)[i] = mkInt64 (k0 + 1 * (i : Int)) := by
  simp [marksInt64]
theorem marksInt64_len (k0 : Int) (n : Nat) : (marksInt64 k0 n).length = n := by simp [marksInt64]



end Go.Proofs.YtdpeffaplkbkgaaGreatDoor

namespace Go.Proofs.YtdpeffaplkbkgaaGreatDoor
open Go.RowKit
set_option linter.unusedVariables false

theorem bytesL_append (a b : List UInt8) : (ByteArray.mk a.toArray ++ ByteArray.mk b.toArray) = ⟨(a ++ b).toArray⟩ := ByteArray.mk_append_mk a b
theorem bytesL_self (s : ByteArray) : s = ⟨s.data.toList.toArray⟩ := by cases s; simp
theorem mkL_size (l : List UInt8) : (ByteArray.mk l.toArray).size = l.length := by show l.toArray.size = _; simp
theorem dataL_len (s : ByteArray) : s.data.toList.length = s.size := by simp
def joinX : List (List UInt8) → List UInt8
  | [] => []
  | x :: r => x ++ r.flatMap (fun y => 44 :: y)
theorem joinX_one (x : List UInt8) : joinX [x] = x := by simp [joinX]
theorem joinX_snoc {xs : List (List UInt8)} (h : xs ≠ []) (y : List UInt8) : joinX (xs ++ [y]) = joinX xs ++ 44 :: y := by
  cases xs with
  | nil => exact absurd rfl h
  | cons x r => simp [joinX]
theorem joinX_len {n : Nat} : ∀ xs : List (List UInt8), (∀ x ∈ xs, x.length ≤ n) → (joinX xs).length ≤ (n + 1) * xs.length
  | [], _ => by simp [joinX]
  | x :: r, h => by
    have hr : ∀ r : List (List UInt8), (∀ y ∈ r, y.length ≤ n) → (r.flatMap (fun y => 44 :: y)).length ≤ (n + 1) * r.length := by
      intro r hr
      induction r with
      | nil => simp
      | cons a r ih =>
        have h1 := hr a (by simp)
        have h2 := ih (fun y hy => hr y (by simp [hy]))
        rw [List.flatMap_cons, List.length_append, List.length_cons, List.length_cons, Nat.mul_succ]
        omega
    have h1 := h x (by simp)
    have h2 := hr r (fun y hy => h y (by simp [hy]))
    show (x ++ _).length ≤ _
    rw [List.length_append, List.length_cons, Nat.mul_succ]
    omega
def listS (xs : List Int) : ByteArray := ⟨(if xs = [] then [45] else joinX (xs.map Lib.itoa)).toArray⟩
theorem itoaL_len {x : Int} (h : fInt.ok x) : (Lib.itoa x).length ≤ 21 := itoa_len20 h.1 h.2
theorem listS_size {xs : List Int} (h : ∀ x ∈ xs, fInt.ok x) : (listS xs).size ≤ 22 * xs.length + 1 := by
  unfold listS; rw [mkL_size]
  split
  · simp
  · have := joinX_len (n := 21) (xs.map Lib.itoa) (fun y hy => by obtain ⟨x, hx, rfl⟩ := List.mem_map.1 hy; exact itoaL_len (h x hx))
    rw [List.length_map] at this
    omega
theorem take_map_step {α β : Type} (f : α → β) {xs : List α} {k : Nat} (hk : k < xs.length) : (xs.take (k + 1)).map f = (xs.take k).map f ++ [f xs[k]] := by
  rw [List.take_succ_eq_append_getElem hk, List.map_append]; rfl
theorem join_first {xs : List Int} (h : 0 < xs.length) {t : ByteArray} (ht : t = ⟨(joinX ((xs.take 0).map Lib.itoa)).toArray⟩) : t ++ decS xs[0] = ⟨(joinX ((xs.take 1).map Lib.itoa)).toArray⟩ := by
  rw [ht, take_map_step Lib.itoa h]
  exact bytesL_append [] _ |>.trans (by simp [joinX])
theorem join_next {xs : List Int} {k : Nat} (h : k < xs.length) (hk : 0 < k) {t : ByteArray} (ht : t = ⟨(joinX ((xs.take k).map Lib.itoa)).toArray⟩) : t ++ ⟨#[44]⟩ ++ decS xs[k] = ⟨(joinX ((xs.take (k + 1)).map Lib.itoa)).toArray⟩ := by
  rw [ht, take_map_step Lib.itoa h, joinX_snoc (by
    intro e
    have := congrArg List.length e
    rw [List.length_map, List.length_take, List.length_nil] at this
    omega)]
  rw [show (ByteArray.mk #[44]) = ⟨([44] : List UInt8).toArray⟩ from rfl, bytesL_append]
  exact (bytesL_append _ _).trans (by simp)
def dataX (Xs : List ByteArray) : List (List UInt8) := Xs.map (fun x : ByteArray => x.data.toList)
def joinS (Xs : List ByteArray) : ByteArray := ⟨(joinX (dataX Xs)).toArray⟩
theorem joinX_dlen {Xs : List ByteArray} (h : ∀ x ∈ Xs, x.size ≤ 1000) (k : Nat) : (joinX (dataX (Xs.take k))).length ≤ 1001 * k := by
  have h1 := joinX_len (n := 1000) (dataX (Xs.take k)) (fun y hy => by
    unfold dataX at hy
    obtain ⟨x, hx, rfl⟩ := List.mem_map.1 hy
    have := h x (List.mem_of_mem_take hx)
    rw [dataL_len]; exact this)
  have h2 : (dataX (Xs.take k)).length ≤ k := by unfold dataX; rw [List.length_map, List.length_take]; omega
  have h3 : (1000 + 1) * (dataX (Xs.take k)).length ≤ (1000 + 1) * k := Nat.mul_le_mul_left _ h2
  omega
theorem joinX_step {Xs : List ByteArray} {k : Nat} (hk : k < Xs.length) (h0 : 0 < k) : joinX (dataX (Xs.take (k + 1))) = (joinX (dataX (Xs.take k)) ++ [44]) ++ Xs[k].data.toList := by
  unfold dataX
  rw [take_map_step _ hk, joinX_snoc (by
    intro e
    have := congrArg List.length e
    rw [List.length_map, List.length_take, List.length_nil] at this
    omega)]
  simp
set_option maxRecDepth 100000 in
set_option maxHeartbeats 4000000 in
theorem join_any (v : Value) (Xs : List ByteArray) (fp : List Nat) (w : World) (hx : Sl fStr.cod w v Xs fp) (hl : Xs.length ≤ 1000) (hsz : ∀ x ∈ Xs, x.size ≤ 1000) :
    Calls Tryz.prog 55 #[v, .string ⟨#[44]⟩] w fun e w' => e = .returned (.string (joinS Xs)) ∧ Below w.heap.size w w' := by
  obtain ⟨A, cap, rfl, hle, hca⟩ := hx.form
  rcases Nat.lt_or_ge Xs.length 2 with h2 | h2
  · match Xs, h2 with
    | [], _ =>
      go_enter Tryz.func55, Tryz.ntmps55
      go_wp2
      go_ret
      exact ⟨rfl, Below.refl _ _⟩
    | [a], _ =>
      obtain ⟨b, off, rfl, _, hok, hc, _⟩ := hx.cell1 rfl (k := 0) (by simp) rfl
      have hc0 : w.cell? ⟨b, off, none⟩ = some (.string a) := by simpa using hc
      have hj : joinS [a] = a := by unfold joinS dataX; rw [List.map_cons, List.map_nil, joinX_one]
      have HJ := Lib.hid hj
      clear hc hj
      go_enter Tryz.func55, Tryz.ntmps55
      go_wp2
      go_ret
      exact ⟨by rw [HJ.out]; rfl, Below.refl _ _⟩
    | _ :: _ :: _, h => exact absurd h (by simp)
  · obtain ⟨p, hp⟩ : ∃ p, Xs.length = p + 1 := ⟨Xs.length - 1, by omega⟩
    have hx0 := hx
    obtain ⟨b, off, rfl, _, hok, hc, _⟩ := hx.cell1 rfl (k := 0) (by omega) rfl
    have hc0 : w.cell? ⟨b, off, none⟩ = some (.string Xs[0]) := by simpa using hc
    have hs0 := hsz Xs[0] (List.getElem_mem (by omega))
    rw [hp] at hx hle ⊢
    have e0 : (((p + 1 : Nat) : Int) == 0) = false := by rw [beq_eq_false_iff_ne]; omega
    have e1 : (((p + 1 : Nat) : Int) == 1) = false := by rw [beq_eq_false_iff_ne]; omega
    have e2 : ((p : Int) == 0) = false := by rw [beq_eq_false_iff_ne]; omega
    have hq : ¬ (9223372036854775807 : Int) / (p : Int) ≤ 1 := by
      have : (2 : Int) ≤ 9223372036854775807 / (p : Int) := Int.le_ediv_of_mul_le (by omega) (by omega)
      omega
    have hnp : ¬ (p : Int) = 0 := by omega
    clear hc
    go_enter Tryz.func55, Tryz.ntmps55
    go_wp2
    go_loop [5, 41] (fun n i => ∃ k : Nat, k ≤ p + 1 ∧ i = .int .i64 k ∧ ∃ u : Nat, n = .int .i64 u ∧ u ≤ p + 1000 * k) (fun _ i => p + 1 - (intOf i).toNat)
    case atStart => exact ⟨0, Nat.zero_le _, rfl, p, by first | rfl | (congr 1; omega), by omega⟩
    case round =>
      obtain ⟨k, hk, rfl, u, rfl, hu⟩ := hrel
      by_cases hlt : k < p + 1
      · obtain ⟨b', off', hA, _, _, hck, _⟩ := hx.cell1 rfl (k := k) (by omega) rfl
        injection hA with hA; injection hA with hA1 hA2 _; subst hA1 hA2
        have hsk := hsz Xs[k] (List.getElem_mem (by omega))
        go_wp2
        go_round
        case rel => exact ⟨k + 1, by omega, by go_num, u + Xs[k].size, by go_num, by omega⟩
        case measure => simp [intOf]; omega
      · obtain rfl : k = p + 1 := by omega
        have hbk : (w.alloc (.cells #[.pointer none, .slice none 0 0] 103)).heap[w.heap.size]? = some (.cells #[.pointer none, .slice none 0 0] 103 (0, 0)) := heap_alloc_new w _
        have hJ1 : Hid (joinX (dataX (Xs.take 1)) = Xs[0].data.toList) := by
          show _ = _
          unfold dataX
          rw [take_map_step _ (by omega : 0 < Xs.length)]
          simp [joinX]
        have hjl := joinX_dlen hsz
        have HJL := Lib.hid hjl
        have HSZ := Lib.hid hsz
        clear hjl hsz
        go_wp2_with fail
        refine (Tryz.Builder_Grow_fresh w.heap.size w.heap.size u _ (Nat.le_refl _) hbk (by simp) (by omega)).mono ?_
        rintro e w1 ⟨rfl, hI, hb1⟩
        have hB1 : Below w.heap.size w w1 := ((Below.refl _ _).alloc (Nat.le_refl _) _).trans hb1
        have hx1 := hx0.below' hB1
        obtain ⟨b', off', hA, _, _, hc1, _⟩ := hx1.cell1 rfl (k := 0) (by omega) rfl
        injection hA with hA; injection hA with hA1 hA2 _; subst hA1 hA2
        have hc01 : w1.cell? ⟨b, off, none⟩ = some (.string Xs[0]) := by simpa using hc1
        clear hc1
        go_wp2_with fail
        refine (writeString_any w.heap.size w.heap.size [] _ _ (.inr hI) (by simp; omega) hB1.size).mono ?_
        rintro e w2 ⟨rfl, hI2, hb2⟩
        have hB2 := hB1.trans hb2
        rw [List.nil_append, Lib.strCells_eq, ← hJ1.out] at hI2
        have hcap : ¬ cap = 1 := by omega
        go_wp2
        go_loopw [65] (fun i wr => ∃ j : Nat, j ≤ p ∧ i = .int .i64 j ∧ Lib.IsBuilder 103 5 w.heap.size w.heap.size (Lib.byteCells (joinX (dataX (Xs.take (j + 1))))) wr ∧ Below w.heap.size w wr) (fun i _ => p - (intOf i).toNat)
        case atStart => exact ⟨0, Nat.zero_le _, rfl, hI2, hB2⟩
        case round =>
          obtain ⟨j, hj, rfl, hI3, hb⟩ := hrel
          have hbs := hb.size
          by_cases hjp : j < p
          · obtain ⟨b', off', hA, _, _, hcj, _⟩ := (hx0.below' hb).cell1 rfl (k := j + 1) (by omega) rfl
            injection hA with hA; injection hA with hA1 hA2 _; subst hA1 hA2
            have hcj0 : wr.cell? ⟨b, off + 1 + j, none⟩ = some (.string Xs[j + 1]) := by rw [Nat.add_assoc, Nat.add_comm 1 j]; exact hcj
            have hsj := HSZ.out Xs[j + 1] (List.getElem_mem (by omega))
            have hl1 := HJL.out (j + 1)
            have HST := Lib.hid (joinX_step (Xs := Xs) (k := j + 1) (by omega) (by omega))
            clear hcj
            go_wp2_with fail
            refine (writeString_any w.heap.size w.heap.size _ _ _ hI3 (by rw [Lib.byteCells_length]; show _ + 1 ≤ _; omega) hbs).mono ?_
            rintro e w5 ⟨rfl, hI5, hb5⟩
            have hB5 := hb.trans hb5
            rw [Lib.strCells_eq, ← Lib.byteCells_append] at hI5
            go_wp2_with fail
            refine (writeString_any w.heap.size w.heap.size _ _ _ hI5 (by rw [Lib.byteCells_length, List.length_append]; show _ + 1 + _ ≤ _; omega) hB5.size).mono ?_
            rintro e w6 ⟨rfl, hI6, hb6⟩
            rw [Lib.strCells_eq, ← Lib.byteCells_append] at hI6
            have hI7 : Lib.IsBuilder 103 5 w.heap.size w.heap.size (Lib.byteCells (joinX (dataX (Xs.take (j + 1 + 1))))) w6 := by rw [HST.out]; exact hI6
            clear hI5 hI6
            go_wp2
            go_roundw
            case rel => exact ⟨j + 1, by omega, by go_num, hI7, hB5.trans hb6⟩
            case measure => simp [intOf]; omega
          · obtain rfl : j = p := by omega
            rw [← hp, List.take_length] at hI3
            go_wp2_with fail
            refine (Tryz.Builder_String_any w.heap.size w.heap.size _ _ hI3 hbs).mono ?_
            rintro e w5 ⟨rfl, hb5⟩
            go_wp2
            go_ret
            exact ⟨rfl, hb.trans hb5⟩
def fitsL (xs : List Int) : Bool := decide (xs.length ≤ 64) && xs.all (fun x => inB x (-1000000000000) 1000000000000)
def listT (xs : List Int) : ByteArray := if fitsL xs then listS xs else ⟨#[]⟩
def decL (xs : List Int) : List ByteArray := xs.map decS
theorem decL_data (xs : List Int) : dataX (decL xs) = xs.map Lib.itoa := by
  unfold dataX decL; rw [List.map_map]; congr 1
theorem infoStrL : (Tryz.prog.info? 9).map (fun i => (i.zero, i.size, i.bytes)) = some (some (.string ⟨#[]⟩), 1, 16) := by kernel_rfl
theorem own_made {α : Type} {E : Flat α} {w : World} {base : Nat} (hb : base ≤ w.heap.size) {e : TypeId} {z : Array Value} {c : Nat} (hc : c ≤ 9223372036854775807) :
    Own E (w.alloc (.cells (madeCells z (c * E.n)) e)) base e (.slice (some ⟨w.heap.size, 0, none⟩) 0 c) [] := by
  refine ⟨by simp, .inr ⟨w.heap.size, c, madeCells z (c * E.n), rfl, hb, heap_alloc_new w _, Nat.zero_le _, by unfold maxLen; exact hc, size_madeCells _ _, ?_⟩⟩
  simp
set_option maxRecDepth 100000 in
set_option maxHeartbeats 4000000 in
theorem ListText_any (v : Value) (xs : List Int) (fp : List Nat) (w : World) (hx : Sl fInt.cod w v xs fp) (ht : Tab10 w) :
    Calls Tryz.prog 43 #[v] w fun e w' => e = .returned (.string (listT xs)) ∧ Below w.heap.size w w' := by
  obtain ⟨A, cap, rfl, hle, hca⟩ := hx.form
  obtain ⟨i0, hi, hz0, hz1, hz2⟩ := info_parts infoStrL
  have hoks := hx.oks
  by_cases h64 : xs.length ≤ 64
  · rcases Nat.eq_zero_or_pos xs.length with h0 | h0
    · obtain rfl := List.eq_nil_of_length_eq_zero h0
      go_enter Tryz.func43, Tryz.ntmps43
      go_wp2
      go_ret
      exact ⟨rfl, Below.refl _ _⟩
    · have e0 : ((xs.length : Int) == 0) = false := by rw [beq_eq_false_iff_ne]; omega
      have hne : ¬ xs = [] := by intro e; subst e; simp at h0
      have HN := Lib.hid hne
      have hmk : ∀ W : World, (Instr.makeSlice 40 (.int .i64 0) (.int .i64 (xs.length : Int))).run Tryz.prog W = .ok (.slice (some ⟨W.heap.size, 0, none⟩) 0 xs.length) (W.alloc (.cells (madeCells (Value.string ⟨#[]⟩).cells (xs.length * i0.size)) 9)) := fun W => run_make_rowN (P := Tryz.prog) 40 9 i0 _ Tryz.underlying40 hi hz0 .i64 .i64 0 xs.length (Nat.zero_le _) (by rw [hz2]; omega) (by omega) W
      rw [hz1] at hmk
      have hB0 : Below w.heap.size w (w.alloc (.cells (madeCells #[Value.string ⟨#[]⟩] xs.length) 9)) := (Below.refl _ _).alloc (Nat.le_refl _) _
      have hO0 : Own fStr (w.alloc (.cells (madeCells #[Value.string ⟨#[]⟩] xs.length) 9)) w.heap.size 9 (.slice (some ⟨w.heap.size, 0, none⟩) 0 xs.length) (decL (xs.take 0)) := by
        have h := own_made (E := fStr) (w := w) (base := w.heap.size) (e := 9) (z := #[Value.string ⟨#[]⟩]) (c := xs.length) (Nat.le_refl _) (by omega)
        rw [show xs.length * fStr.n = xs.length from Nat.mul_one _] at h
        exact h
      clear hne
      go_enter Tryz.func43, Tryz.ntmps43
      go_wp2
      go_loopw [3, 17] (fun v i wr => ∃ k : Nat, k ≤ xs.length ∧ i = .int .i64 k ∧ Hid ((xs.take k).all (fun x => inB x (-1000000000000) 1000000000000) = true) ∧ Own fStr wr w.heap.size 9 v (decL (xs.take k)) ∧ Below w.heap.size w wr) (fun _ i _ => xs.length - (intOf i).toNat)
      case atStart => exact ⟨0, Nat.zero_le _, rfl, rfl, hO0, hB0⟩
      case round =>
        obtain ⟨k, hk, rfl, HA, ho, hb⟩ := hrel
        by_cases hlt : k < xs.length
        · obtain ⟨b, off, rfl, _, hok, hc, _⟩ := (hx.below' hb).cell1 rfl hlt rfl
          obtain ⟨hk0, hk1⟩ : -9223372036854775808 ≤ xs[k] ∧ xs[k] ≤ 9223372036854775807 := hok
          cases hin : inB xs[k] (-1000000000000) 1000000000000
          · have hno : listT xs = ⟨#[]⟩ := by
              unfold listT fitsL
              rw [if_neg]
              intro h
              simp only [Bool.and_eq_true] at h
              have := List.all_eq_true.1 h.2 xs[k] (List.getElem_mem hlt)
              rw [hin] at this; cases this
            have HNO := Lib.hid hno
            clear hno ho
            go_wp2_with (go_at_call 21; refine (withinB_any _ _ _ _).mono ?_; rintro e w' ⟨rfl, rfl⟩)
            go_ret
            exact ⟨by rw [HNO.out]; rfl, hb⟩
          · have HA2 : Hid ((xs.take (k + 1)).all (fun x => inB x (-1000000000000) 1000000000000) = true) := by
              show _ = _
              rw [List.take_succ_eq_append_getElem hlt, List.all_append, HA.out]; simp [hin]
            have hst := take_map_step decS hlt
            have HST : Hid (decL (xs.take (k + 1)) = decL (xs.take k) ++ [decS xs[k]]) := hst
            have hkl : (decL (xs.take k)).length ≤ 64 := by unfold decL; rw [List.length_map, List.length_take]; omega
            clear hst
            go_wp2_with (go_at_call 21; refine (withinB_any _ _ _ _).mono ?_; rintro e w' ⟨rfl, rfl⟩)
            refine (Decimal_any xs[k] _ hk0 hk1 (ht.below hb)).mono ?_
            rintro e w2 ⟨rfl, hb2⟩
            have hB2 := hb.trans (hb2.mono hb.size)
            have ho3 : w2.ownsRow w.heap.size 9 1 u3 (decL (xs.take k)).length ((decL (xs.take k)).flatMap fStr.enc) := ho.below hb2
            have hs2 := hB2.size
            clear ho
            go_wp2_with (at_builtin; refine wpList_append_one rfl _ _ 40 rfl w.heap.size 9 i0 (.string ⟨#[]⟩) 1 16 Tryz.underlying40 hi hz0 hz1 hz2 rfl (by decide) u3 (decL (xs.take k)).length _ rfl ho3 [.string (decS xs[k])] rfl (by intro u hu; rw [List.mem_singleton] at hu; subst hu; rfl) rfl (by omega) (by decide) hs2 ?_)
            intro v' u hown hbu _ _
            have hbu' := hB2.trans hbu
            have ho4 : Own fStr u w.heap.size 9 v' (decL (xs.take (k + 1))) := by rw [HST.out]; exact Own.push _ rfl hown
            clear hown
            go_wp2
            go_roundw
            case rel => exact ⟨k + 1, by omega, by go_num, HA2, ho4, hbu'⟩
            case measure => simp [intOf]; omega
        · have hke : k = xs.length := by omega
          subst hke
          rw [List.take_length] at ho
          have hyes : listT xs = joinS (decL xs) := by
            have h := HA.out
            rw [List.take_length] at h
            unfold listT fitsL
            rw [decide_eq_true h64, h, if_pos (by rfl)]
            unfold listS joinS
            rw [if_neg HN.out, decL_data]
          have HY := Lib.hid hyes
          have hds : ∀ y ∈ decL xs, y.size ≤ 1000 := by
            intro y hy
            unfold decL at hy
            obtain ⟨x, hxm, rfl⟩ := List.mem_map.1 hy
            rw [decS_size]
            have := itoaL_len (hoks x hxm)
            omega
          obtain ⟨fpy, hsy, _, _⟩ := Sl.of_own (n := (decL xs).length) rfl ho (fun y hy => by have := hds y hy; show y.size ≤ 9223372036854775807; omega)
          have hdl : (decL xs).length ≤ 1000 := by unfold decL; rw [List.length_map]; omega
          clear ho hyes
          go_wp2_with fail
          refine (join_any _ (decL xs) fpy _ hsy hdl hds).mono ?_
          rintro e w2 ⟨rfl, hb2⟩
          go_wp2
          go_ret
          exact ⟨by rw [HY.out]; rfl, hb.trans (hb2.mono hb.size)⟩
  · have hno : listT xs = ⟨#[]⟩ := by unfold listT fitsL; rw [decide_eq_false h64]; rfl
    have HNO := Lib.hid hno
    clear hno
    go_enter Tryz.func43, Tryz.ntmps43
    go_wp2
    go_ret
    exact ⟨by rw [HNO.out]; rfl, Below.refl _ _⟩
theorem listT_size {xs : List Int} (h : ∀ x ∈ xs, fInt.ok x) (hl : xs.length ≤ 1000) : (listT xs).size ≤ 22001 := by
  unfold listT; split
  · have := listS_size h; omega
  · show 0 ≤ _; omega
set_option maxRecDepth 100000 in
set_option maxHeartbeats 2000000 in
theorem withId_any (id_ : ByteArray) (v : Value) (xs : List Int) (fp : List Nat) (w : World) (hx : Sl fInt.cod w v xs fp) (hl : xs.length ≤ 1000) (hid : id_.size ≤ 1048576) (ht : Tab10 w) :
    Calls Tryz.prog 24 #[.string id_, v] w fun e w' => e = .returned (.string (id_ ++ ⟨#[32]⟩ ++ listT xs)) ∧ Below w.heap.size w w' := by
  have hls := listT_size hx.oks hl
  have h1 : (id_ ++ ⟨#[32]⟩).size ≤ 1048577 := by rw [ByteArray.size_append]; show _ + 1 ≤ _; omega
  go_enter Tryz.func24, Tryz.ntmps24
  go_wp2_with fail
  refine (ListText_any v xs fp _ hx ht).mono ?_
  rintro e w1 ⟨rfl, hb⟩
  obtain ⟨T, hT⟩ : ∃ T, T = listT xs := ⟨_, rfl⟩
  rw [← hT] at hls ⊢
  have HT := Lib.hid hT
  clear hT
  go_wp2
  go_ret
  exact ⟨ret_str (by rw [HT.out]), hb⟩
def gtN (x : DGate) : List Int := [x.shut, x.open_, x.hold]
def gtS (x : DGate) : ByteArray := if x.shuts then x.id ++ ⟨#[32]⟩ ++ listS (gtN x) ++ ⟨#[32, 115, 104, 117, 116, 32]⟩ ++ decS x.calm else x.id ++ ⟨#[32]⟩ ++ listS (gtN x) ++ ⟨#[32, 111, 112, 101, 110]⟩
theorem gateB_parts {x : DGate} (h : gateB x = true) : x.id.size ≤ 10 ∧ (1 ≤ x.shut ∧ x.shut ≤ 1000) ∧ (0 ≤ x.open_ ∧ x.open_ ≤ x.shut) ∧ (1 ≤ x.hold ∧ x.hold ≤ 48) ∧ (0 ≤ x.calm ∧ x.calm ≤ x.hold - 1) := by
  unfold gateB inB nameB at h
  simp only [Bool.and_eq_true, decide_eq_true_eq] at h
  obtain ⟨⟨⟨⟨⟨h1, h2⟩, h3⟩, h4⟩, h5⟩, _⟩ := h
  exact ⟨h1.1.1, h2, h3, h4, h5⟩
theorem gtN_ok {x : DGate} (h : gateB x = true) : ∀ y ∈ gtN x, fInt.ok y := by
  obtain ⟨_, h1, h2, h3, _⟩ := gateB_parts h
  intro y hy
  unfold gtN at hy
  simp at hy
  rcases hy with rfl | rfl | rfl <;> (show _ ∧ _; omega)
theorem gtN_fits {x : DGate} (h : gateB x = true) : listT (gtN x) = listS (gtN x) := by
  obtain ⟨_, h1, h2, h3, _⟩ := gateB_parts h
  unfold listT
  rw [if_pos]
  unfold fitsL gtN inB
  simp
  omega
theorem gtS_size {x : DGate} (h : gateB x = true) : (gtS x).size ≤ 200 := by
  have h0 := (gateB_parts h).1
  have h1 := listS_size (gtN_ok h)
  have h2 : (decS x.calm).size ≤ 21 := by rw [decS_size]; obtain ⟨_, _, _, _, h5⟩ := gateB_parts h; obtain ⟨_, _, _, h4, _⟩ := gateB_parts h; exact itoa_len20 (by omega) (by omega)
  have h3 : (gtN x).length = 3 := rfl
  unfold gtS
  split
  · simp only [ByteArray.size_append]
    show x.id.size + 1 + _ + 6 + _ ≤ _; omega
  · simp only [ByteArray.size_append]
    show x.id.size + 1 + _ + 5 ≤ _; omega

end Go.Proofs.YtdpeffaplkbkgaaGreatDoor

namespace Go.Proofs.YtdpeffaplkbkgaaGreatDoor
open Go.RowKit
set_option linter.unusedVariables false

def grpNames : List ByteArray := [⟨#[97, 110, 116, 115]⟩, ⟨#[98, 101, 97, 114, 115]⟩, ⟨#[99, 114, 111, 119, 115]⟩, ⟨#[100, 101, 101, 114]⟩, ⟨#[101, 108, 107, 115]⟩]
theorem grpNames_size (k : Nat) (hk : k < grpNames.length) : (grpNames[k]).size ≤ 5 := by
  have : ∀ x ∈ grpNames, x.size ≤ 5 := by decide
  exact this _ (List.getElem_mem hk)
theorem smallDec (k : Int) (h0 : 0 ≤ k) (h1 : k ≤ 100) : ((⟨#[110]⟩ : ByteArray) ++ decS k).size ≤ 30 := by
  rw [ByteArray.size_append, decS_size]
  have := itoa_len20 (n := k) (by omega) (by omega)
  show 1 + _ ≤ _; omega
theorem manyGroup (k : Nat) (h : k ≤ 100) : SmGroup ⟨⟨#[110]⟩ ++ decS k, 1 + (k : Int), 0, 0, 0, 0, 3⟩ := by
  have := smallDec k (by omega) (by omega)
  unfold SmGroup; simp only; omega
set_option maxRecDepth 100000 in
set_option maxHeartbeats 8000000 in
theorem l24Draw_any (n g : Nat) (w : World) (hs : SrcD n g w) (hn : n ≤ 999999970000) :
    Calls Tryz.prog 25 #[.pointer (some ⟨g, 0, none⟩)] w fun e w' => ∃ (v : Value) (xs : List DGroup) (fp : List Nat), e = .returned v ∧ Sl fGroup.cod w' v xs fp ∧ (∀ b ∈ fp, w.heap.size ≤ b) ∧ fp.Nodup ∧ (∀ x ∈ xs, SmGroup x) ∧ xs.length ≤ 70 ∧ SrcD (n + 1000) g w' ∧ Only [g] w w' := by
  have hg := hs.lt
  have hgB : g < w.heap.size + 1 := by omega
  obtain ⟨i0, hi, hz0, hz1, hz2⟩ := info_parts infoGroupD
  have hB0 : Below w.heap.size w (w.alloc (.cells #[.string ⟨#[97, 110, 116, 115]⟩, .string ⟨#[98, 101, 97, 114, 115]⟩, .string ⟨#[99, 114, 111, 119, 115]⟩, .string ⟨#[100, 101, 101, 114]⟩, .string ⟨#[101, 108, 107, 115]⟩] 9)) := (Below.refl _ _).alloc (Nat.le_refl _) _
  have hB1 : Below (w.heap.size + 1) (w.alloc (.cells #[.string ⟨#[97, 110, 116, 115]⟩, .string ⟨#[98, 101, 97, 114, 115]⟩, .string ⟨#[99, 114, 111, 119, 115]⟩, .string ⟨#[100, 101, 101, 114]⟩, .string ⟨#[101, 108, 107, 115]⟩] 9)) ((w.alloc (.cells #[.string ⟨#[97, 110, 116, 115]⟩, .string ⟨#[98, 101, 97, 114, 115]⟩, .string ⟨#[99, 114, 111, 119, 115]⟩, .string ⟨#[100, 101, 101, 114]⟩, .string ⟨#[101, 108, 107, 115]⟩] 9)).alloc (.cells #[] 25)) := (Below.refl _ _).alloc (by simp) _
  have hnm : Sl fStr.cod ((w.alloc (.cells #[.string ⟨#[97, 110, 116, 115]⟩, .string ⟨#[98, 101, 97, 114, 115]⟩, .string ⟨#[99, 114, 111, 119, 115]⟩, .string ⟨#[100, 101, 101, 114]⟩, .string ⟨#[101, 108, 107, 115]⟩] 9)).alloc (.cells #[] 25)) (.slice (some ⟨w.heap.size, 0, none⟩) 5 5) grpNames [w.heap.size] := (slLit w 9 grpNames _ rfl (by decide) (by decide) (by decide) _ _ rfl rfl).below hB1 (by simp)
  have hown : Own fGroup ((w.alloc (.cells #[.string ⟨#[97, 110, 116, 115]⟩, .string ⟨#[98, 101, 97, 114, 115]⟩, .string ⟨#[99, 114, 111, 119, 115]⟩, .string ⟨#[100, 101, 101, 114]⟩, .string ⟨#[101, 108, 107, 115]⟩] 9)).alloc (.cells #[] 25)) (w.heap.size + 1) 25 (.slice (some ⟨w.heap.size + 1, 0, none⟩) 0 0) [] := by
    have h := Own.lit0m fGroup (w := w.alloc (.cells #[.string ⟨#[97, 110, 116, 115]⟩, .string ⟨#[98, 101, 97, 114, 115]⟩, .string ⟨#[99, 114, 111, 119, 115]⟩, .string ⟨#[100, 101, 101, 114]⟩, .string ⟨#[101, 108, 107, 115]⟩] 9)) (base := w.heap.size + 1) (by simp) (e := 25)
    rw [World.size_alloc] at h
    exact h
  have hO0 : Only [g] w ((w.alloc (.cells #[.string ⟨#[97, 110, 116, 115]⟩, .string ⟨#[98, 101, 97, 114, 115]⟩, .string ⟨#[99, 114, 111, 119, 115]⟩, .string ⟨#[100, 101, 101, 114]⟩, .string ⟨#[101, 108, 107, 115]⟩] 9)).alloc (.cells #[] 25)) := Only.of_below (hB0.trans (hB1.mono (Nat.le_succ _)))
  have hs0 := hs.below (hB0.trans (hB1.mono (Nat.le_succ _)))
  clear hB0 hB1 hs
  go_enter Tryz.func25, Tryz.ntmps25
  go_wp2
  go_loopw [4, 5] (fun v kv wr => ∃ (k : Nat) (L : List DGroup), kv = .int .i64 k ∧ k ≤ 5 ∧ L.length ≤ k ∧ Sl fStr.cod wr (.slice (some ⟨w.heap.size, 0, none⟩) 5 5) grpNames [w.heap.size] ∧ Own fGroup wr (w.heap.size + 1) 25 v L ∧ (∀ x ∈ L, SmGroup x) ∧ SrcD (n + 30 * k) g wr ∧ Only [g] w wr) (fun _ kv _ => 5 - (intOf kv).toNat)
  case atStart => exact ⟨0, [], rfl, by omega, by simp, hnm, hown, by simp, hs0, hO0⟩
  case round =>
    clear hnm hown hs0 hO0
    obtain ⟨k, L, rfl, hk, hL, hnm, ho, hsm, hsr, hor⟩ := hrel
    have hnl := hnm.lt w.heap.size (by simp)
    by_cases hlt : k < 5
    · go_wp2_with fail
      refine (one_any _ g 3 _ hsr (by omega) (by omega)).mono ?_
      rintro e w3 ⟨b, rfl, hs3, ho3⟩
      have hor3 := hor.trans ho3
      have hnm3 := hnm.only ho3 (fun b hb => by simp at hb; subst hb; simp; omega)
      have ho3' := ho.only ho3 (fun b hb => by simp at hb; subst hb; exact hgB)
      clear hsr ho hor ho3 hnm
      cases b
      · obtain ⟨bb, off, hA, _, _, hcn, _⟩ := hnm3.cell1 rfl (show k < grpNames.length from hlt) rfl
        injection hA with hA
        injection hA with hA1 hA2 _
        subst hA1 hA2
        have hzn := grpNames_size k hlt
        generalize grpNames[k]'hlt = nm at *
        rw [Nat.zero_add] at hcn
        replace hcn : w3.cell? ⟨w.heap.size, k, none⟩ = some (.string nm) := hcn
        go_wp2_with fail
        refine (l24DrawOne_any _ g nm _ hs3 (by omega) (by omega)).mono ?_
        rintro e w4 ⟨x, rfl, ⟨HX, hq8, hq9⟩, hs4, ho4⟩
        clear hq8 hq9
        have hor4 := hor3.trans ho4
        have hnm4 := hnm3.only ho4 (fun b hb => by simp at hb; subst hb; simp; omega)
        have hsz2 : w.heap.size + 1 ≤ w4.heap.size := by have := hnm4.lt w.heap.size (by simp); omega
        have hoW : w4.ownsRow (w.heap.size + 1) 25 7 u4 L.length (L.flatMap fGroup.enc) := ho3'.only ho4 (fun b hb => by simp at hb; subst hb; exact hgB)
        clear ho3' hor3 hnm3 ho4 hs3 hcn
        unfold agGroup
        go_wp2_with (at_builtin; refine wpList_append_one rfl _ _ 28 rfl (w.heap.size + 1) 25 i0 (.agg #[.string ⟨#[]⟩, .int .i64 0, .int .i64 0, .int .i64 0, .int .i64 0, .int .i64 0, .int .i64 0]) 7 64 Tryz.underlying28 hi hz0 hz1 hz2 rfl (by decide) u4 L.length _ rfl hoW [.string x.id, .int .i64 x.people, .int .i64 x.guides, .int .i64 x.beacons, .int .i64 x.shovels, .int .i64 x.probes, .int .i64 x.skill] rfl (by intro u hu; simp only [List.mem_cons, List.not_mem_nil, or_false] at hu; rcases hu with rfl | rfl | rfl | rfl | rfl | rfl | rfl <;> rfl) rfl (by omega) (by decide) hsz2 ?_)
        intro v' u hown hbu _ _
        have hoD : Own fGroup u (w.heap.size + 1) 25 v' (L ++ [x]) := Own.push _ (by omega) hown
        clear hown
        have hs5 := hs4.belowB hbu hgB
        have hnm5 := hnm4.below hbu (fun b hb => by simp at hb; subst hb; omega)
        have hor5 := hor4.then (hbu.mono (Nat.le_succ _))
        clear hbu hs4 hnm4 hor4 hoW
        go_wp2
        go_roundw
        case rel => exact ⟨k + 1, _, by go_num, by omega, by rw [List.length_append, List.length_singleton]; omega, hnm5, hoD, fun y hy => by
          rcases List.mem_append.1 hy with hy | hy
          · exact hsm y hy
          · rw [List.mem_singleton] at hy; subst hy; exact HX, hs5.mono (by omega), hor5⟩
        case measure => simp [intOf]; omega
      · go_wp2
        go_roundw
        case rel => exact ⟨k + 1, L, by go_num, by omega, by omega, hnm3, ho3', hsm, hs3.mono (by omega), hor3⟩
        case measure => simp [intOf]; omega
    · go_wp2_with fail
      refine (pick_any _ g 18 _ hsr (by omega) (by omega)).mono ?_
      rintro e w3 ⟨q, rfl, ⟨q0, q1, _⟩, hs3, ho3⟩
      replace hor := hor.trans ho3
      replace ho := ho.only ho3 (fun b hb => by simp at hb; subst hb; exact hgB)
      have hsz2 : w.heap.size + 1 ≤ w3.heap.size := by have := ho3.size; omega
      clear ho3 hsr hnm
      by_cases hq0 : q = 0
      · subst hq0
        go_wp2_with fail
        refine (l24DrawOne_any _ g _ _ hs3 (by omega) (by decide)).mono ?_
        rintro e w4 ⟨x0, rfl, ⟨hx0, hq8, hx1⟩, hs4, ho4⟩
        clear hq8
        go_wp2_with fail
        refine (l24Bend_any _ g x0 _ hs4 (by omega) ⟨hx0, by omega⟩).mono ?_
        rintro e w5 ⟨x, rfl, HX, hs5, ho5⟩
        have hor2 := hor.trans (ho4.trans ho5)
        have hsz5 : w.heap.size + 1 ≤ w5.heap.size := by have := ho4.size; have := ho5.size; omega
        have hoW : w5.ownsRow (w.heap.size + 1) 25 7 u4 L.length (L.flatMap fGroup.enc) := (ho.only ho4 (fun b hb => by simp at hb; subst hb; exact hgB)).only ho5 (fun b hb => by simp at hb; subst hb; exact hgB)
        clear ho hor ho4 ho5 hs4 hs3
        unfold agGroup
        go_wp2_with (at_builtin; refine wpList_append_one rfl _ _ 28 rfl (w.heap.size + 1) 25 i0 (.agg #[.string ⟨#[]⟩, .int .i64 0, .int .i64 0, .int .i64 0, .int .i64 0, .int .i64 0, .int .i64 0]) 7 64 Tryz.underlying28 hi hz0 hz1 hz2 rfl (by decide) u4 L.length _ rfl hoW [.string x.id, .int .i64 x.people, .int .i64 x.guides, .int .i64 x.beacons, .int .i64 x.shovels, .int .i64 x.probes, .int .i64 x.skill] rfl (by intro u hu; simp only [List.mem_cons, List.not_mem_nil, or_false] at hu; rcases hu with rfl | rfl | rfl | rfl | rfl | rfl | rfl <;> rfl) rfl (by omega) (by decide) hsz5 ?_)
        intro v' u hown hbu _ _
        have hoD : Own fGroup u (w.heap.size + 1) 25 v' (L ++ [x]) := Own.push _ (by omega) hown
        clear hown
        go_wp2
        go_ret
        obtain ⟨fp, hsl, hlo, hnd⟩ := Sl.of_own (n := (L ++ [x]).length) rfl hoD (fun y hy => by
          rcases List.mem_append.1 hy with hy | hy
          · exact (hsm y hy).ok
          · rw [List.mem_singleton] at hy; subst hy; exact HX.ok)
        exact ⟨_, _, fp, rfl, hsl, fun b hb => Nat.le_trans (Nat.le_succ _) (hlo b hb), hnd, fun y hy => by
          rcases List.mem_append.1 hy with hy | hy
          · exact hsm y hy
          · rw [List.mem_singleton] at hy; subst hy; exact HX, by rw [List.length_append, List.length_singleton]; omega, (hs5.belowB hbu hgB).mono (by omega), hor2.then (hbu.mono (Nat.le_succ _))⟩
      · have e0 : (q == 0) = false := by rw [beq_eq_false_iff_ne]; exact hq0
        by_cases hq1 : q = 1
        · subst hq1
          have hBL : Below w3.heap.size w3 (w3.alloc (.cells #[.int .i64 8, .int .i64 9] 2)) := (Below.refl _ _).alloc (Nat.le_refl _) _
          have hgl := hs3.lt
          go_wp2_with fail
          refine (among_any _ g _ [8, 9] [w3.heap.size] _ (hs3.below hBL) (by omega) (slLitI w3 2 [8, 9] _ rfl (by decide) (by decide) (by decide) _ _ rfl rfl) (by simp; omega) (by decide) (by decide)).mono ?_
          rintro e w4 ⟨t, ht, rfl, hs4, ho4⟩
          have hor2 := hor.trans (Only.later hBL ho4)
          have hsz4 : w.heap.size + 1 ≤ w4.heap.size := by have := (Only.later hBL ho4).size; omega
          clear hBL hgl hor ho hs3 ho4
          obtain ⟨M, rfl⟩ : ∃ M : Nat, t = M := ⟨t.toNat, by simp at ht; omega⟩
          have hM : M ≤ 9 := by simp at ht; omega
          have hown : Own fGroup (w4.alloc (.cells #[] 25)) (w.heap.size + 1) 25 (.slice (some ⟨w4.heap.size, 0, none⟩) 0 0) [] := Own.lit0m fGroup hsz4
          have hB4 : Below w4.heap.size w4 (w4.alloc (.cells #[] 25)) := (Below.refl _ _).alloc (Nat.le_refl _) _
          replace hor2 := hor2.then (hB4.mono (Nat.le_trans (Nat.le_succ _) hsz4))
          replace hs4 := hs4.below hB4
          have hsz6 : w.heap.size + 1 ≤ (w4.alloc (.cells #[] 25)).heap.size := by simp; omega
          clear hB4 ht hsm hsz2 hsz4
          go_wp2
          rename World => wo
          go_loopw [4, 7] (fun v kv wr => ∃ (k : Nat) (X : List DGroup), kv = .int .i64 k ∧ k ≤ M ∧ X.length = k ∧ Own fGroup wr (w.heap.size + 1) 25 v X ∧ (∀ x ∈ X, SmGroup x) ∧ SrcD (n + 400) g wr ∧ Only [g] w wr ∧ w.heap.size + 1 ≤ wr.heap.size) (fun _ kv _ => M - (intOf kv).toNat)
          case atStart => exact ⟨0, [], rfl, Nat.zero_le _, rfl, hown, by simp, hs4.mono (by omega), hor2, hsz6⟩
          case round =>
            clear hown hs4 hor2 hsz6
            obtain ⟨k, X, rfl, hk, hX, ho, hsm, hsr, hor, hsz2⟩ := hrel
            by_cases hlt : k < M
            · have hsmk := Lib.hid (manyGroup k (by omega))
              have hk100 : k ≤ 100 := by omega
              go_wp2_with fail
              refine (l01Dec_any _ _ (by omega) (by omega)).mono ?_
              rintro e w5 ⟨rfl, hb5⟩
              have hdz := smallDec k (by omega) (by omega)
              have hdz2 : (decS (k : Int)).size ≤ 25 := by rw [decS_size]; have := itoa_len20 (n := (k : Int)) (by omega) (by omega); omega
              have hor5 := hor.then (hb5.mono hor.size)
              have hs5 := hsr.below hb5
              have hsz5 : w.heap.size + 1 ≤ w5.heap.size := Nat.le_trans hsz2 hb5.size
              have hoW : w5.ownsRow (w.heap.size + 1) 25 7 u4 X.length (X.flatMap fGroup.enc) := ho.below hb5
              clear ho hb5 hor hsr
              go_wp2_with (at_builtin; refine wpList_append_one rfl _ _ 28 rfl (w.heap.size + 1) 25 i0 (.agg #[.string ⟨#[]⟩, .int .i64 0, .int .i64 0, .int .i64 0, .int .i64 0, .int .i64 0, .int .i64 0]) 7 64 Tryz.underlying28 hi hz0 hz1 hz2 rfl (by decide) u4 X.length _ rfl hoW [.string (⟨#[110]⟩ ++ decS (k : Int)), .int .i64 (1 + (k : Int)), .int .i64 0, .int .i64 0, .int .i64 0, .int .i64 0, .int .i64 3] rfl (by intro u hu; simp only [List.mem_cons, List.not_mem_nil, or_false] at hu; rcases hu with rfl | rfl | rfl | rfl | rfl | rfl | rfl <;> rfl) rfl (by omega) (by decide) hsz5 ?_)
              intro v' u hown hbu _ _
              have hoD : Own fGroup u (w.heap.size + 1) 25 v' (X ++ [⟨⟨#[110]⟩ ++ decS (k : Int), 1 + (k : Int), 0, 0, 0, 0, 3⟩]) := Own.push _ (by omega) hown
              clear hown
              have hs6 := hs5.belowB hbu hgB
              have hor6 := hor5.then (hbu.mono (Nat.le_succ _))
              have hsz6 : w.heap.size + 1 ≤ u.heap.size := Nat.le_trans hsz5 hbu.size
              go_wp2
              go_roundw
              case rel => exact ⟨k + 1, _, by go_num, by omega, by rw [List.length_append, hX, List.length_singleton], hoD, fun y hy => by
                rcases List.mem_append.1 hy with hy | hy
                · exact hsm y hy
                · rw [List.mem_singleton] at hy; subst hy; exact hsmk.out, hs6, hor6, hsz6⟩
              case measure => simp [intOf]; omega
            · obtain ⟨fp, hsl, hlo, hnd⟩ := Sl.of_own (n := X.length) rfl ho (fun y hy => (hsm y hy).ok)
              go_wp2
              go_ret
              exact ⟨_, _, fp, rfl, hsl, fun b hb => Nat.le_trans (Nat.le_succ _) (hlo b hb), hnd, hsm, by omega, hsr.mono (by omega), hor⟩
        · have e1 : (q == 1) = false := by rw [beq_eq_false_iff_ne]; exact hq1
          obtain ⟨fp, hsl, hlo, hnd⟩ := Sl.of_own (n := L.length) rfl ho (fun y hy => (hsm y hy).ok)
          go_wp2
          go_ret
          exact ⟨_, _, fp, rfl, hsl, fun b hb => Nat.le_trans (Nat.le_succ _) (hlo b hb), hnd, hsm, by omega, hs3.mono (by omega), hor⟩

end Go.Proofs.YtdpeffaplkbkgaaGreatDoor

namespace Go.Proofs.YtdpeffaplkbkgaaGreatDoor
open Go.RowKit
set_option linter.unusedVariables false

def groupB (x : DGroup) : Bool := nameB x.id && inB x.people 1 30 && inB x.guides 0 x.people && inB x.beacons 0 30 && inB x.shovels 0 30 && inB x.probes 0 30 && inB x.skill 1 5
def levelB (n : Int) : Bool := inB n 1 5
set_option maxRecDepth 100000 in
set_option maxHeartbeats 4000000 in
theorem l24One_any (pb po : Nat) (x : DGroup) (w : World) (hp : PGroup w pb po x) (hok : x.id.size ≤ 9223372036854775807) :
    Calls Tryz.prog 34 #[.pointer (some ⟨pb, po, none⟩)] w fun e w' => e = .returned (.bool (groupB x)) ∧ Below w.heap.size w w' := by
  obtain ⟨c0, c1, c2, c3, c4, c5, c6⟩ := hp
  go_enter Tryz.func34, Tryz.ntmps34
  go_wp2
  have gc0 := cell_regrown c0
  have gc1 := cell_regrown c1
  have gc2 := cell_regrown c2
  have gc3 := cell_regrown c3
  have gc4 := cell_regrown c4
  have gc5 := cell_regrown c5
  have gc6 := cell_regrown c6
  refine wp_region_mix (C := fun w' => ∃ p : Regrown, w' = Go.Sort.grow (redrawn w p.d) p.os) [true, true, true, true, false, true, true, true, true, true, false, true, true, true, true, true, true, true, true, true, true, false, true, true, true, true, true, true, false, true, true, true, true, true, true, false, true, true, true, true, true, true, false, true, true, true, true, true, true, false, true, true] (by kernel_rfl) (by kernel_rfl) (by kernel_rfl) (fun _ _ d _ _ h => by cases d <;> exact h) (regrown_of_below (Below.drew (Below.refl _ _))) ?_
  have hS0 : Below w.heap.size w w.drew := Below.drew (Below.refl _ _)
  refine wpMix_pure (by kernel_rfl) (fun K hK => ?_); go_big_quiet_op; refine hK _ ?_; clear hK K
  refine wpMix_pure (by kernel_rfl) (fun K hK => ?_); go_big_quiet_op; refine hK _ ?_; clear hK K
  refine wpMix_pure (by kernel_rfl) (fun K hK => ?_); go_big_quiet_op; refine hK _ ?_; clear hK K
  refine wpMix_pure (by kernel_rfl) (fun K hK => ?_); go_big_quiet_op; refine hK _ ?_; clear hK K
  refine wpMix_act (by kernel_rfl) (fun K hK => ?_)
  go_big_op
  refine (l01Name_any _ _ hok).mono ?_
  rintro e w' ⟨rfl, rfl⟩
  refine hK _ _ (regrown_of_below hS0) ?_
  clear hK K
  cases hq4 : nameB x.id
  · skip
    refine wpMix_pure (by kernel_rfl) (fun K hK => ?_); go_big_quiet_op; refine hK _ ?_; clear hK K
    refine wpMix_skip (by kernel_rfl) (fun K hK => ?_)
    simp only [Act.put, List.setIfInBounds_toArray, List.set_cons_zero, List.set_cons_succ]
    refine hK _ ?_; clear hK K
    refine wpMix_skip (by kernel_rfl) (fun K hK => ?_)
    simp only [Act.put, List.setIfInBounds_toArray, List.set_cons_zero, List.set_cons_succ]
    refine hK _ ?_; clear hK K
    refine wpMix_skip (by kernel_rfl) (fun K hK => ?_)
    simp only [Act.put, List.setIfInBounds_toArray, List.set_cons_zero, List.set_cons_succ]
    refine hK _ ?_; clear hK K
    refine wpMix_skip (by kernel_rfl) (fun K hK => ?_)
    simp only [Act.put, List.setIfInBounds_toArray, List.set_cons_zero, List.set_cons_succ]
    refine hK _ ?_; clear hK K
    refine wpMix_skip (by kernel_rfl) (fun K hK => ?_)
    simp only [Act.put, List.setIfInBounds_toArray, List.set_cons_zero, List.set_cons_succ]
    refine hK _ ?_; clear hK K
    refine wpMix_pure (by kernel_rfl) (fun K hK => ?_); go_big_quiet_op; refine hK _ ?_; clear hK K
    refine wpMix_pure (by kernel_rfl) (fun K hK => ?_); go_big_quiet_op; refine hK _ ?_; clear hK K
    refine wpMix_skip (by kernel_rfl) (fun K hK => ?_)
    simp only [Act.put, List.setIfInBounds_toArray, List.set_cons_zero, List.set_cons_succ]
    refine hK _ ?_; clear hK K
    refine wpMix_skip (by kernel_rfl) (fun K hK => ?_)
    simp only [Act.put, List.setIfInBounds_toArray, List.set_cons_zero, List.set_cons_succ]
    refine hK _ ?_; clear hK K
    refine wpMix_skip (by kernel_rfl) (fun K hK => ?_)
    simp only [Act.put, List.setIfInBounds_toArray, List.set_cons_zero, List.set_cons_succ]
    refine hK _ ?_; clear hK K
    refine wpMix_skip (by kernel_rfl) (fun K hK => ?_)
    simp only [Act.put, List.setIfInBounds_toArray, List.set_cons_zero, List.set_cons_succ]
    refine hK _ ?_; clear hK K
    refine wpMix_skip (by kernel_rfl) (fun K hK => ?_)
    simp only [Act.put, List.setIfInBounds_toArray, List.set_cons_zero, List.set_cons_succ]
    refine hK _ ?_; clear hK K
    refine wpMix_skip (by kernel_rfl) (fun K hK => ?_)
    simp only [Act.put, List.setIfInBounds_toArray, List.set_cons_zero, List.set_cons_succ]
    refine hK _ ?_; clear hK K
    refine wpMix_skip (by kernel_rfl) (fun K hK => ?_)
    simp only [Act.put, List.setIfInBounds_toArray, List.set_cons_zero, List.set_cons_succ]
    refine hK _ ?_; clear hK K
    refine wpMix_skip (by kernel_rfl) (fun K hK => ?_)
    simp only [Act.put, List.setIfInBounds_toArray, List.set_cons_zero, List.set_cons_succ]
    refine hK _ ?_; clear hK K
    refine wpMix_skip (by kernel_rfl) (fun K hK => ?_)
    simp only [Act.put, List.setIfInBounds_toArray, List.set_cons_zero, List.set_cons_succ]
    refine hK _ ?_; clear hK K
    refine wpMix_pure (by kernel_rfl) (fun K hK => ?_); go_big_quiet_op; refine hK _ ?_; clear hK K
    refine wpMix_pure (by kernel_rfl) (fun K hK => ?_); go_big_quiet_op; refine hK _ ?_; clear hK K
    refine wpMix_skip (by kernel_rfl) (fun K hK => ?_)
    simp only [Act.put, List.setIfInBounds_toArray, List.set_cons_zero, List.set_cons_succ]
    refine hK _ ?_; clear hK K
    refine wpMix_skip (by kernel_rfl) (fun K hK => ?_)
    simp only [Act.put, List.setIfInBounds_toArray, List.set_cons_zero, List.set_cons_succ]
    refine hK _ ?_; clear hK K
    refine wpMix_skip (by kernel_rfl) (fun K hK => ?_)
    simp only [Act.put, List.setIfInBounds_toArray, List.set_cons_zero, List.set_cons_succ]
    refine hK _ ?_; clear hK K
    refine wpMix_skip (by kernel_rfl) (fun K hK => ?_)
    simp only [Act.put, List.setIfInBounds_toArray, List.set_cons_zero, List.set_cons_succ]
    refine hK _ ?_; clear hK K
    refine wpMix_skip (by kernel_rfl) (fun K hK => ?_)
    simp only [Act.put, List.setIfInBounds_toArray, List.set_cons_zero, List.set_cons_succ]
    refine hK _ ?_; clear hK K
    refine wpMix_pure (by kernel_rfl) (fun K hK => ?_); go_big_quiet_op; refine hK _ ?_; clear hK K
    refine wpMix_pure (by kernel_rfl) (fun K hK => ?_); go_big_quiet_op; refine hK _ ?_; clear hK K
    refine wpMix_skip (by kernel_rfl) (fun K hK => ?_)
    simp only [Act.put, List.setIfInBounds_toArray, List.set_cons_zero, List.set_cons_succ]
    refine hK _ ?_; clear hK K
    refine wpMix_skip (by kernel_rfl) (fun K hK => ?_)
    simp only [Act.put, List.setIfInBounds_toArray, List.set_cons_zero, List.set_cons_succ]
    refine hK _ ?_; clear hK K
    refine wpMix_skip (by kernel_rfl) (fun K hK => ?_)
    simp only [Act.put, List.setIfInBounds_toArray, List.set_cons_zero, List.set_cons_succ]
    refine hK _ ?_; clear hK K
    refine wpMix_skip (by kernel_rfl) (fun K hK => ?_)
    simp only [Act.put, List.setIfInBounds_toArray, List.set_cons_zero, List.set_cons_succ]
    refine hK _ ?_; clear hK K
    refine wpMix_skip (by kernel_rfl) (fun K hK => ?_)
    simp only [Act.put, List.setIfInBounds_toArray, List.set_cons_zero, List.set_cons_succ]
    refine hK _ ?_; clear hK K
    refine wpMix_pure (by kernel_rfl) (fun K hK => ?_); go_big_quiet_op; refine hK _ ?_; clear hK K
    refine wpMix_pure (by kernel_rfl) (fun K hK => ?_); go_big_quiet_op; refine hK _ ?_; clear hK K
    refine wpMix_skip (by kernel_rfl) (fun K hK => ?_)
    simp only [Act.put, List.setIfInBounds_toArray, List.set_cons_zero, List.set_cons_succ]
    refine hK _ ?_; clear hK K
    refine wpMix_skip (by kernel_rfl) (fun K hK => ?_)
    simp only [Act.put, List.setIfInBounds_toArray, List.set_cons_zero, List.set_cons_succ]
    refine hK _ ?_; clear hK K
    refine wpMix_skip (by kernel_rfl) (fun K hK => ?_)
    simp only [Act.put, List.setIfInBounds_toArray, List.set_cons_zero, List.set_cons_succ]
    refine hK _ ?_; clear hK K
    refine wpMix_skip (by kernel_rfl) (fun K hK => ?_)
    simp only [Act.put, List.setIfInBounds_toArray, List.set_cons_zero, List.set_cons_succ]
    refine hK _ ?_; clear hK K
    refine wpMix_skip (by kernel_rfl) (fun K hK => ?_)
    simp only [Act.put, List.setIfInBounds_toArray, List.set_cons_zero, List.set_cons_succ]
    refine hK _ ?_; clear hK K
    refine wpMix_pure (by kernel_rfl) (fun K hK => ?_); go_big_quiet_op; refine hK _ ?_; clear hK K
    refine wpMix_pure (by kernel_rfl) (fun K hK => ?_); go_big_quiet_op; refine hK _ ?_; clear hK K
    refine wpMix_skip (by kernel_rfl) (fun K hK => ?_)
    simp only [Act.put, List.setIfInBounds_toArray, List.set_cons_zero, List.set_cons_succ]
    refine hK _ ?_; clear hK K
    refine wpMix_skip (by kernel_rfl) (fun K hK => ?_)
    simp only [Act.put, List.setIfInBounds_toArray, List.set_cons_zero, List.set_cons_succ]
    refine hK _ ?_; clear hK K
    refine wpMix_skip (by kernel_rfl) (fun K hK => ?_)
    simp only [Act.put, List.setIfInBounds_toArray, List.set_cons_zero, List.set_cons_succ]
    refine hK _ ?_; clear hK K
    refine wpMix_skip (by kernel_rfl) (fun K hK => ?_)
    simp only [Act.put, List.setIfInBounds_toArray, List.set_cons_zero, List.set_cons_succ]
    refine hK _ ?_; clear hK K
    refine wpMix_skip (by kernel_rfl) (fun K hK => ?_)
    simp only [Act.put, List.setIfInBounds_toArray, List.set_cons_zero, List.set_cons_succ]
    refine hK _ ?_; clear hK K
    refine wpMix_pure (by kernel_rfl) (fun K hK => ?_); go_big_quiet_op; refine hK _ ?_; clear hK K
    refine wpMix_pure (by kernel_rfl) (fun K hK => ?_); go_big_quiet_op; refine hK _ ?_; clear hK K
    refine wpMix_nil ?_
    go_wp2
    go_ret
    exact ⟨ret_bool (by simp [groupB, *]), hS0⟩
  · skip
    refine wpMix_pure (by kernel_rfl) (fun K hK => ?_); go_big_quiet_op; refine hK _ ?_; clear hK K
    refine wpMix_pure (by kernel_rfl) (fun K hK => ?_); go_big_quiet_op; refine hK _ ?_; clear hK K
    refine wpMix_pure (by kernel_rfl) (fun K hK => ?_); go_big_quiet_op; refine hK _ ?_; clear hK K
    refine wpMix_pure (by kernel_rfl) (fun K hK => ?_); go_big_quiet_op; refine hK _ ?_; clear hK K
    refine wpMix_pure (by kernel_rfl) (fun K hK => ?_); go_big_quiet_op; refine hK _ ?_; clear hK K
    refine wpMix_act (by kernel_rfl) (fun K hK => ?_)
    go_big_op
    refine (l00InB_any _ _ _ _).mono ?_
    rintro e w' ⟨rfl, rfl⟩
    refine hK _ _ (regrown_of_below hS0) ?_
    clear hK K
    cases hq10 : inB x.people 1 30
    · skip
      refine wpMix_pure (by kernel_rfl) (fun K hK => ?_); go_big_quiet_op; refine hK _ ?_; clear hK K
      refine wpMix_pure (by kernel_rfl) (fun K hK => ?_); go_big_quiet_op; refine hK _ ?_; clear hK K
      refine wpMix_skip (by kernel_rfl) (fun K hK => ?_)
      simp only [Act.put, List.setIfInBounds_toArray, List.set_cons_zero, List.set_cons_succ]
      refine hK _ ?_; clear hK K
      refine wpMix_skip (by kernel_rfl) (fun K hK => ?_)
      simp only [Act.put, List.setIfInBounds_toArray, List.set_cons_zero, List.set_cons_succ]
      refine hK _ ?_; clear hK K
      refine wpMix_skip (by kernel_rfl) (fun K hK => ?_)
      simp only [Act.put, List.setIfInBounds_toArray, List.set_cons_zero, List.set_cons_succ]
      refine hK _ ?_; clear hK K
      refine wpMix_skip (by kernel_rfl) (fun K hK => ?_)
      simp only [Act.put, List.setIfInBounds_toArray, List.set_cons_zero, List.set_cons_succ]
      refine hK _ ?_; clear hK K
      refine wpMix_skip (by kernel_rfl) (fun K hK => ?_)
      simp only [Act.put, List.setIfInBounds_toArray, List.set_cons_zero, List.set_cons_succ]
      refine hK _ ?_; clear hK K
      refine wpMix_skip (by kernel_rfl) (fun K hK => ?_)
      simp only [Act.put, List.setIfInBounds_toArray, List.set_cons_zero, List.set_cons_succ]
      refine hK _ ?_; clear hK K
      refine wpMix_skip (by kernel_rfl) (fun K hK => ?_)
      simp only [Act.put, List.setIfInBounds_toArray, List.set_cons_zero, List.set_cons_succ]
      refine hK _ ?_; clear hK K
      refine wpMix_skip (by kernel_rfl) (fun K hK => ?_)
      simp only [Act.put, List.setIfInBounds_toArray, List.set_cons_zero, List.set_cons_succ]
      refine hK _ ?_; clear hK K
      refine wpMix_skip (by kernel_rfl) (fun K hK => ?_)
      simp only [Act.put, List.setIfInBounds_toArray, List.set_cons_zero, List.set_cons_succ]
      refine hK _ ?_; clear hK K
      refine wpMix_pure (by kernel_rfl) (fun K hK => ?_); go_big_quiet_op; refine hK _ ?_; clear hK K
      refine wpMix_pure (by kernel_rfl) (fun K hK => ?_); go_big_quiet_op; refine hK _ ?_; clear hK K
      refine wpMix_skip (by kernel_rfl) (fun K hK => ?_)
      simp only [Act.put, List.setIfInBounds_toArray, List.set_cons_zero, List.set_cons_succ]
      refine hK _ ?_; clear hK K
      refine wpMix_skip (by kernel_rfl) (fun K hK => ?_)
      simp only [Act.put, List.setIfInBounds_toArray, List.set_cons_zero, List.set_cons_succ]
      refine hK _ ?_; clear hK K
      refine wpMix_skip (by kernel_rfl) (fun K hK => ?_)
      simp only [Act.put, List.setIfInBounds_toArray, List.set_cons_zero, List.set_cons_succ]
      refine hK _ ?_; clear hK K
      refine wpMix_skip (by kernel_rfl) (fun K hK => ?_)
      simp only [Act.put, List.setIfInBounds_toArray, List.set_cons_zero, List.set_cons_succ]
      refine hK _ ?_; clear hK K
      refine wpMix_skip (by kernel_rfl) (fun K hK => ?_)
      simp only [Act.put, List.setIfInBounds_toArray, List.set_cons_zero, List.set_cons_succ]
      refine hK _ ?_; clear hK K
      refine wpMix_pure (by kernel_rfl) (fun K hK => ?_); go_big_quiet_op; refine hK _ ?_; clear hK K
      refine wpMix_pure (by kernel_rfl) (fun K hK => ?_); go_big_quiet_op; refine hK _ ?_; clear hK K
      refine wpMix_skip (by kernel_rfl) (fun K hK => ?_)
      simp only [Act.put, List.setIfInBounds_toArray, List.set_cons_zero, List.set_cons_succ]
      refine hK _ ?_; clear hK K
      refine wpMix_skip (by kernel_rfl) (fun K hK => ?_)
      simp only [Act.put, List.setIfInBounds_toArray, List.set_cons_zero, List.set_cons_succ]
      refine hK _ ?_; clear hK K
      refine wpMix_skip (by kernel_rfl) (fun K hK => ?_)
      simp only [Act.put, List.setIfInBounds_toArray, List.set_cons_zero, List.set_cons_succ]
      refine hK _ ?_; clear hK K
      refine wpMix_skip (by kernel_rfl) (fun K hK => ?_)
      simp only [Act.put, List.setIfInBounds_toArray, List.set_cons_zero, List.set_cons_succ]
      refine hK _ ?_; clear hK K
      refine wpMix_skip (by kernel_rfl) (fun K hK => ?_)
      simp only [Act.put, List.setIfInBounds_toArray, List.set_cons_zero, List.set_cons_succ]
      refine hK _ ?_; clear hK K
      refine wpMix_pure (by kernel_rfl) (fun K hK => ?_); go_big_quiet_op; refine hK _ ?_; clear hK K
      refine wpMix_pure (by kernel_rfl) (fun K hK => ?_); go_big_quiet_op; refine hK _ ?_; clear hK K
      refine wpMix_skip (by kernel_rfl) (fun K hK => ?_)
      simp only [Act.put, List.setIfInBounds_toArray, List.set_cons_zero, List.set_cons_succ]
      refine hK _ ?_; clear hK K
      refine wpMix_skip (by kernel_rfl) (fun K hK => ?_)
      simp only [Act.put, List.setIfInBounds_toArray, List.set_cons_zero, List.set_cons_succ]
      refine hK _ ?_; clear hK K
      refine wpMix_skip (by kernel_rfl) (fun K hK => ?_)
      simp only [Act.put, List.setIfInBounds_toArray, List.set_cons_zero, List.set_cons_succ]
      refine hK _ ?_; clear hK K
      refine wpMix_skip (by kernel_rfl) (fun K hK => ?_)
      simp only [Act.put, List.setIfInBounds_toArray, List.set_cons_zero, List.set_cons_succ]
      refine hK _ ?_; clear hK K
      refine wpMix_skip (by kernel_rfl) (fun K hK => ?_)
      simp only [Act.put, List.setIfInBounds_toArray, List.set_cons_zero, List.set_cons_succ]
      refine hK _ ?_; clear hK K
      refine wpMix_pure (by kernel_rfl) (fun K hK => ?_); go_big_quiet_op; refine hK _ ?_; clear hK K
      refine wpMix_pure (by kernel_rfl) (fun K hK => ?_); go_big_quiet_op; refine hK _ ?_; clear hK K
      refine wpMix_skip (by kernel_rfl) (fun K hK => ?_)
      simp only [Act.put, List.setIfInBounds_toArray, List.set_cons_zero, List.set_cons_succ]
      refine hK _ ?_; clear hK K
      refine wpMix_skip (by kernel_rfl) (fun K hK => ?_)
      simp only [Act.put, List.setIfInBounds_toArray, List.set_cons_zero, List.set_cons_succ]
      refine hK _ ?_; clear hK K
      refine wpMix_skip (by kernel_rfl) (fun K hK => ?_)
      simp only [Act.put, List.setIfInBounds_toArray, List.set_cons_zero, List.set_cons_succ]
      refine hK _ ?_; clear hK K
      refine wpMix_skip (by kernel_rfl) (fun K hK => ?_)
      simp only [Act.put, List.setIfInBounds_toArray, List.set_cons_zero, List.set_cons_succ]
      refine hK _ ?_; clear hK K
      refine wpMix_skip (by kernel_rfl) (fun K hK => ?_)
      simp only [Act.put, List.setIfInBounds_toArray, List.set_cons_zero, List.set_cons_succ]
      refine hK _ ?_; clear hK K
      refine wpMix_pure (by kernel_rfl) (fun K hK => ?_); go_big_quiet_op; refine hK _ ?_; clear hK K
      refine wpMix_pure (by kernel_rfl) (fun K hK => ?_); go_big_quiet_op; refine hK _ ?_; clear hK K
      refine wpMix_nil ?_
      go_wp2
      go_ret
      exact ⟨ret_bool (by simp [groupB, *]), hS0⟩
    · skip
      refine wpMix_pure (by kernel_rfl) (fun K hK => ?_); go_big_quiet_op; refine hK _ ?_; clear hK K
      refine wpMix_pure (by kernel_rfl) (fun K hK => ?_); go_big_quiet_op; refine hK _ ?_; clear hK K
      refine wpMix_pure (by kernel_rfl) (fun K hK => ?_); go_big_quiet_op; refine hK _ ?_; clear hK K
      refine wpMix_pure (by kernel_rfl) (fun K hK => ?_); go_big_quiet_op; refine hK _ ?_; clear hK K
      refine wpMix_pure (by kernel_rfl) (fun K hK => ?_); go_big_quiet_op; refine hK _ ?_; clear hK K
      refine wpMix_pure (by kernel_rfl) (fun K hK => ?_); go_big_quiet_op; refine hK _ ?_; clear hK K
      refine wpMix_pure (by kernel_rfl) (fun K hK => ?_); go_big_quiet_op; refine hK _ ?_; clear hK K
      refine wpMix_pure (by kernel_rfl) (fun K hK => ?_); go_big_quiet_op; refine hK _ ?_; clear hK K
      refine wpMix_pure (by kernel_rfl) (fun K hK => ?_); go_big_quiet_op; refine hK _ ?_; clear hK K
      refine wpMix_pure (by kernel_rfl) (fun K hK => ?_); go_big_quiet_op; refine hK _ ?_; clear hK K
      refine wpMix_act (by kernel_rfl) (fun K hK => ?_)
      go_big_op
      refine (l00InB_any _ _ _ _).mono ?_
      rintro e w' ⟨rfl, rfl⟩
      refine hK _ _ (regrown_of_below hS0) ?_
      clear hK K
      cases hq21 : inB x.guides 0 x.people
      · skip
        refine wpMix_pure (by kernel_rfl) (fun K hK => ?_); go_big_quiet_op; refine hK _ ?_; clear hK K
        refine wpMix_pure (by kernel_rfl) (fun K hK => ?_); go_big_quiet_op; refine hK _ ?_; clear hK K
        refine wpMix_skip (by kernel_rfl) (fun K hK => ?_)
        simp only [Act.put, List.setIfInBounds_toArray, List.set_cons_zero, List.set_cons_succ]
        refine hK _ ?_; clear hK K
        refine wpMix_skip (by kernel_rfl) (fun K hK => ?_)
        simp only [Act.put, List.setIfInBounds_toArray, List.set_cons_zero, List.set_cons_succ]
        refine hK _ ?_; clear hK K
        refine wpMix_skip (by kernel_rfl) (fun K hK => ?_)
        simp only [Act.put, List.setIfInBounds_toArray, List.set_cons_zero, List.set_cons_succ]
        refine hK _ ?_; clear hK K
        refine wpMix_skip (by kernel_rfl) (fun K hK => ?_)
        simp only [Act.put, List.setIfInBounds_toArray, List.set_cons_zero, List.set_cons_succ]
        refine hK _ ?_; clear hK K
        refine wpMix_skip (by kernel_rfl) (fun K hK => ?_)
        simp only [Act.put, List.setIfInBounds_toArray, List.set_cons_zero, List.set_cons_succ]
        refine hK _ ?_; clear hK K
        refine wpMix_pure (by kernel_rfl) (fun K hK => ?_); go_big_quiet_op; refine hK _ ?_; clear hK K
        refine wpMix_pure (by kernel_rfl) (fun K hK => ?_); go_big_quiet_op; refine hK _ ?_; clear hK K
        refine wpMix_skip (by kernel_rfl) (fun K hK => ?_)
        simp only [Act.put, List.setIfInBounds_toArray, List.set_cons_zero, List.set_cons_succ]
        refine hK _ ?_; clear hK K
        refine wpMix_skip (by kernel_rfl) (fun K hK => ?_)
        simp only [Act.put, List.setIfInBounds_toArray, List.set_cons_zero, List.set_cons_succ]
        refine hK _ ?_; clear hK K
        refine wpMix_skip (by kernel_rfl) (fun K hK => ?_)
        simp only [Act.put, List.setIfInBounds_toArray, List.set_cons_zero, List.set_cons_succ]
        refine hK _ ?_; clear hK K
        refine wpMix_skip (by kernel_rfl) (fun K hK => ?_)
        simp only [Act.put, List.setIfInBounds_toArray, List.set_cons_zero, List.set_cons_succ]
        refine hK _ ?_; clear hK K
        refine wpMix_skip (by kernel_rfl) (fun K hK => ?_)
        simp only [Act.put, List.setIfInBounds_toArray, List.set_cons_zero, List.set_cons_succ]
        refine hK _ ?_; clear hK K
        refine wpMix_pure (by kernel_rfl) (fun K hK => ?_); go_big_quiet_op; refine hK _ ?_; clear hK K
        refine wpMix_pure (by kernel_rfl) (fun K hK => ?_); go_big_quiet_op; refine hK _ ?_; clear hK K
        refine wpMix_skip (by kernel_rfl) (fun K hK => ?_)
        simp only [Act.put, List.setIfInBounds_toArray, List.set_cons_zero, List.set_cons_succ]
        refine hK _ ?_; clear hK K
        refine wpMix_skip (by kernel_rfl) (fun K hK => ?_)
        simp only [Act.put, List.setIfInBounds_toArray, List.set_cons_zero, List.set_cons_succ]
        refine hK _ ?_; clear hK K
        refine wpMix_skip (by kernel_rfl) (fun K hK => ?_)
        simp only [Act.put, List.setIfInBounds_toArray, List.set_cons_zero, List.set_cons_succ]
        refine hK _ ?_; clear hK K
        refine wpMix_skip (by kernel_rfl) (fun K hK => ?_)
        simp only [Act.put, List.setIfInBounds_toArray, List.set_cons_zero, List.set_cons_succ]
        refine hK _ ?_; clear hK K
        refine wpMix_skip (by kernel_rfl) (fun K hK => ?_)
        simp only [Act.put, List.setIfInBounds_toArray, List.set_cons_zero, List.set_cons_succ]
        refine hK _ ?_; clear hK K
        refine wpMix_pure (by kernel_rfl) (fun K hK => ?_); go_big_quiet_op; refine hK _ ?_; clear hK K
        refine wpMix_pure (by kernel_rfl) (fun K hK => ?_); go_big_quiet_op; refine hK _ ?_; clear hK K
        refine wpMix_skip (by kernel_rfl) (fun K hK => ?_)
        simp only [Act.put, List.setIfInBounds_toArray, List.set_cons_zero, List.set_cons_succ]
        refine hK _ ?_; clear hK K
        refine wpMix_skip (by kernel_rfl) (fun K hK => ?_)
        simp only [Act.put, List.setIfInBounds_toArray, List.set_cons_zero, List.set_cons_succ]
        refine hK _ ?_; clear hK K
        refine wpMix_skip (by kernel_rfl) (fun K hK => ?_)
        simp only [Act.put, List.setIfInBounds_toArray, List.set_cons_zero, List.set_cons_succ]
        refine hK _ ?_; clear hK K
        refine wpMix_skip (by kernel_rfl) (fun K hK => ?_)
        simp only [Act.put, List.setIfInBounds_toArray, List.set_cons_zero, List.set_cons_succ]
        refine hK _ ?_; clear hK K
        refine wpMix_skip (by kernel_rfl) (fun K hK => ?_)
        simp only [Act.put, List.setIfInBounds_toArray, List.set_cons_zero, List.set_cons_succ]
        refine hK _ ?_; clear hK K
        refine wpMix_pure (by kernel_rfl) (fun K hK => ?_); go_big_quiet_op; refine hK _ ?_; clear hK K
        refine wpMix_pure (by kernel_rfl) (fun K hK => ?_); go_big_quiet_op; refine hK _ ?_; clear hK K
        refine wpMix_nil ?_
        go_wp2
        go_ret
        exact ⟨ret_bool (by simp [groupB, *]), hS0⟩
      · skip
        refine wpMix_pure (by kernel_rfl) (fun K hK => ?_); go_big_quiet_op; refine hK _ ?_; clear hK K
        refine wpMix_pure (by kernel_rfl) (fun K hK => ?_); go_big_quiet_op; refine hK _ ?_; clear hK K
        refine wpMix_pure (by kernel_rfl) (fun K hK => ?_); go_big_quiet_op; refine hK _ ?_; clear hK K
        refine wpMix_pure (by kernel_rfl) (fun K hK => ?_); go_big_quiet_op; refine hK _ ?_; clear hK K
        refine wpMix_pure (by kernel_rfl) (fun K hK => ?_); go_big_quiet_op; refine hK _ ?_; clear hK K
        refine wpMix_pure (by kernel_rfl) (fun K hK => ?_); go_big_quiet_op; refine hK _ ?_; clear hK K
        refine wpMix_act (by kernel_rfl) (fun K hK => ?_)
        go_big_op
        refine (l00InB_any _ _ _ _).mono ?_
        rintro e w' ⟨rfl, rfl⟩
        refine hK _ _ (regrown_of_below hS0) ?_
        clear hK K
        cases hq28 : inB x.beacons 0 30
        · skip
          refine wpMix_pure (by kernel_rfl) (fun K hK => ?_); go_big_quiet_op; refine hK _ ?_; clear hK K
          refine wpMix_pure (by kernel_rfl) (fun K hK => ?_); go_big_quiet_op; refine hK _ ?_; clear hK K
          refine wpMix_skip (by kernel_rfl) (fun K hK => ?_)
          simp only [Act.put, List.setIfInBounds_toArray, List.set_cons_zero, List.set_cons_succ]
          refine hK _ ?_; clear hK K
          refine wpMix_skip (by kernel_rfl) (fun K hK => ?_)
          simp only [Act.put, List.setIfInBounds_toArray, List.set_cons_zero, List.set_cons_succ]
          refine hK _ ?_; clear hK K
          refine wpMix_skip (by kernel_rfl) (fun K hK => ?_)
          simp only [Act.put, List.setIfInBounds_toArray, List.set_cons_zero, List.set_cons_succ]
          refine hK _ ?_; clear hK K
          refine wpMix_skip (by kernel_rfl) (fun K hK => ?_)
          simp only [Act.put, List.setIfInBounds_toArray, List.set_cons_zero, List.set_cons_succ]
          refine hK _ ?_; clear hK K
          refine wpMix_skip (by kernel_rfl) (fun K hK => ?_)
          simp only [Act.put, List.setIfInBounds_toArray, List.set_cons_zero, List.set_cons_succ]
          refine hK _ ?_; clear hK K
          refine wpMix_pure (by kernel_rfl) (fun K hK => ?_); go_big_quiet_op; refine hK _ ?_; clear hK K
          refine wpMix_pure (by kernel_rfl) (fun K hK => ?_); go_big_quiet_op; refine hK _ ?_; clear hK K
          refine wpMix_skip (by kernel_rfl) (fun K hK => ?_)
          simp only [Act.put, List.setIfInBounds_toArray, List.set_cons_zero, List.set_cons_succ]
          refine hK _ ?_; clear hK K
          refine wpMix_skip (by kernel_rfl) (fun K hK => ?_)
          simp only [Act.put, List.setIfInBounds_toArray, List.set_cons_zero, List.set_cons_succ]
          refine hK _ ?_; clear hK K
          refine wpMix_skip (by kernel_rfl) (fun K hK => ?_)
          simp only [Act.put, List.setIfInBounds_toArray, List.set_cons_zero, List.set_cons_succ]
          refine hK _ ?_; clear hK K
          refine wpMix_skip (by kernel_rfl) (fun K hK => ?_)
          simp only [Act.put, List.setIfInBounds_toArray, List.set_cons_zero, List.set_cons_succ]
          refine hK _ ?_; clear hK K
          refine wpMix_skip (by kernel_rfl) (fun K hK => ?_)
          simp only [Act.put, List.setIfInBounds_toArray, List.set_cons_zero, List.set_cons_succ]
          refine hK _ ?_; clear hK K
          refine wpMix_pure (by kernel_rfl) (fun K hK => ?_); go_big_quiet_op; refine hK _ ?_; clear hK K
          refine wpMix_pure (by kernel_rfl) (fun K hK => ?_); go_big_quiet_op; refine hK _ ?_; clear hK K
          refine wpMix_skip (by kernel_rfl) (fun K hK => ?_)
          simp only [Act.put, List.setIfInBounds_toArray, List.set_cons_zero, List.set_cons_succ]
          refine hK _ ?_; clear hK K
          refine wpMix_skip (by kernel_rfl) (fun K hK => ?_)
          simp only [Act.put, List.setIfInBounds_toArray, List.set_cons_zero, List.set_cons_succ]
          refine hK _ ?_; clear hK K
          refine wpMix_skip (by kernel_rfl) (fun K hK => ?_)
          simp only [Act.put, List.setIfInBounds_toArray, List.set_cons_zero, List.set_cons_succ]
          refine hK _ ?_; clear hK K
          refine wpMix_skip (by kernel_rfl) (fun K hK => ?_)
          simp only [Act.put, List.setIfInBounds_toArray, List.set_cons_zero, List.set_cons_succ]
          refine hK _ ?_; clear hK K
          refine wpMix_skip (by kernel_rfl) (fun K hK => ?_)
          simp only [Act.put, List.setIfInBounds_toArray, List.set_cons_zero, List.set_cons_succ]
          refine hK _ ?_; clear hK K
          refine wpMix_pure (by kernel_rfl) (fun K hK => ?_); go_big_quiet_op; refine hK _ ?_; clear hK K
          refine wpMix_pure (by kernel_rfl) (fun K hK => ?_); go_big_quiet_op; refine hK _ ?_; clear hK K
          refine wpMix_nil ?_
          go_wp2
          go_ret
          exact ⟨ret_bool (by simp [groupB, *]), hS0⟩
        · skip
          refine wpMix_pure (by kernel_rfl) (fun K hK => ?_); go_big_quiet_op; refine hK _ ?_; clear hK K
          refine wpMix_pure (by kernel_rfl) (fun K hK => ?_); go_big_quiet_op; refine hK _ ?_; clear hK K
          refine wpMix_pure (by kernel_rfl) (fun K hK => ?_); go_big_quiet_op; refine hK _ ?_; clear hK K
          refine wpMix_pure (by kernel_rfl) (fun K hK => ?_); go_big_quiet_op; refine hK _ ?_; clear hK K
          refine wpMix_pure (by kernel_rfl) (fun K hK => ?_); go_big_quiet_op; refine hK _ ?_; clear hK K
          refine wpMix_pure (by kernel_rfl) (fun K hK => ?_); go_big_quiet_op; refine hK _ ?_; clear hK K
          refine wpMix_act (by kernel_rfl) (fun K hK => ?_)
          go_big_op
          refine (l00InB_any _ _ _ _).mono ?_
          rintro e w' ⟨rfl, rfl⟩
          refine hK _ _ (regrown_of_below hS0) ?_
          clear hK K
          cases hq35 : inB x.shovels 0 30
          · skip
            refine wpMix_pure (by kernel_rfl) (fun K hK => ?_); go_big_quiet_op; refine hK _ ?_; clear hK K
            refine wpMix_pure (by kernel_rfl) (fun K hK => ?_); go_big_quiet_op; refine hK _ ?_; clear hK K
            refine wpMix_skip (by kernel_rfl) (fun K hK => ?_)
            simp only [Act.put, List.setIfInBounds_toArray, List.set_cons_zero, List.set_cons_succ]
            refine hK _ ?_; clear hK K
            refine wpMix_skip (by kernel_rfl) (fun K hK => ?_)
            simp only [Act.put, List.setIfInBounds_toArray, List.set_cons_zero, List.set_cons_succ]
            refine hK _ ?_; clear hK K
            refine wpMix_skip (by kernel_rfl) (fun K hK => ?_)
            simp only [Act.put, List.setIfInBounds_toArray, List.set_cons_zero, List.set_cons_succ]
            refine hK _ ?_; clear hK K
            refine wpMix_skip (by kernel_rfl) (fun K hK => ?_)
            simp only [Act.put, List.setIfInBounds_toArray, List.set_cons_zero, List.set_cons_succ]
            refine hK _ ?_; clear hK K
            refine wpMix_skip (by kernel_rfl) (fun K hK => ?_)
            simp only [Act.put, List.setIfInBounds_toArray, List.set_cons_zero, List.set_cons_succ]
            refine hK _ ?_; clear hK K
            refine wpMix_pure (by kernel_rfl) (fun K hK => ?_); go_big_quiet_op; refine hK _ ?_; clear hK K
            refine wpMix_pure (by kernel_rfl) (fun K hK => ?_); go_big_quiet_op; refine hK _ ?_; clear hK K
            refine wpMix_skip (by kernel_rfl) (fun K hK => ?_)
            simp only [Act.put, List.setIfInBounds_toArray, List.set_cons_zero, List.set_cons_succ]
            refine hK _ ?_; clear hK K
            refine wpMix_skip (by kernel_rfl) (fun K hK => ?_)
            simp only [Act.put, List.setIfInBounds_toArray, List.set_cons_zero, List.set_cons_succ]
            refine hK _ ?_; clear hK K
            refine wpMix_skip (by kernel_rfl) (fun K hK => ?_)
            simp only [Act.put, List.setIfInBounds_toArray, List.set_cons_zero, List.set_cons_succ]
            refine hK _ ?_; clear hK K
            refine wpMix_skip (by kernel_rfl) (fun K hK => ?_)
            simp only [Act.put, List.setIfInBounds_toArray, List.set_cons_zero, List.set_cons_succ]
            refine hK _ ?_; clear hK K
            refine wpMix_skip (by kernel_rfl) (fun K hK => ?_)
            simp only [Act.put, List.setIfInBounds_toArray, List.set_cons_zero, List.set_cons_succ]
            refine hK _ ?_; clear hK K
            refine wpMix_pure (by kernel_rfl) (fun K hK => ?_); go_big_quiet_op; refine hK _ ?_; clear hK K
            refine wpMix_pure (by kernel_rfl) (fun K hK => ?_); go_big_quiet_op; refine hK _ ?_; clear hK K
            refine wpMix_nil ?_
            go_wp2
            go_ret
            exact ⟨ret_bool (by simp [groupB, *]), hS0⟩
          · skip
            refine wpMix_pure (by kernel_rfl) (fun K hK => ?_); go_big_quiet_op; refine hK _ ?_; clear hK K
            refine wpMix_pure (by kernel_rfl) (fun K hK => ?_); go_big_quiet_op; refine hK _ ?_; clear hK K
            refine wpMix_pure (by kernel_rfl) (fun K hK => ?_); go_big_quiet_op; refine hK _ ?_; clear hK K
            refine wpMix_pure (by kernel_rfl) (fun K hK => ?_); go_big_quiet_op; refine hK _ ?_; clear hK K
            refine wpMix_pure (by kernel_rfl) (fun K hK => ?_); go_big_quiet_op; refine hK _ ?_; clear hK K
            refine wpMix_pure (by kernel_rfl) (fun K hK => ?_); go_big_quiet_op; refine hK _ ?_; clear hK K
            refine wpMix_act (by kernel_rfl) (fun K hK => ?_)
            go_big_op
            refine (l00InB_any _ _ _ _).mono ?_
            rintro e w' ⟨rfl, rfl⟩
            refine hK _ _ (regrown_of_below hS0) ?_
            clear hK K
            cases hq42 : inB x.probes 0 30
            · skip
              refine wpMix_pure (by kernel_rfl) (fun K hK => ?_); go_big_quiet_op; refine hK _ ?_; clear hK K
              refine wpMix_pure (by kernel_rfl) (fun K hK => ?_); go_big_quiet_op; refine hK _ ?_; clear hK K
              refine wpMix_skip (by kernel_rfl) (fun K hK => ?_)
              simp only [Act.put, List.setIfInBounds_toArray, List.set_cons_zero, List.set_cons_succ]
              refine hK _ ?_; clear hK K
              refine wpMix_skip (by kernel_rfl) (fun K hK => ?_)
              simp only [Act.put, List.setIfInBounds_toArray, List.set_cons_zero, List.set_cons_succ]
              refine hK _ ?_; clear hK K
              refine wpMix_skip (by kernel_rfl) (fun K hK => ?_)
              simp only [Act.put, List.setIfInBounds_toArray, List.set_cons_zero, List.set_cons_succ]
              refine hK _ ?_; clear hK K
              refine wpMix_skip (by kernel_rfl) (fun K hK => ?_)
              simp only [Act.put, List.setIfInBounds_toArray, List.set_cons_zero, List.set_cons_succ]
              refine hK _ ?_; clear hK K
              refine wpMix_skip (by kernel_rfl) (fun K hK => ?_)
              simp only [Act.put, List.setIfInBounds_toArray, List.set_cons_zero, List.set_cons_succ]
              refine hK _ ?_; clear hK K
              refine wpMix_pure (by kernel_rfl) (fun K hK => ?_); go_big_quiet_op; refine hK _ ?_; clear hK K
              refine wpMix_pure (by kernel_rfl) (fun K hK => ?_); go_big_quiet_op; refine hK _ ?_; clear hK K
              refine wpMix_nil ?_
              go_wp2
              go_ret
              exact ⟨ret_bool (by simp [groupB, *]), hS0⟩
            · skip
              refine wpMix_pure (by kernel_rfl) (fun K hK => ?_); go_big_quiet_op; refine hK _ ?_; clear hK K
              refine wpMix_pure (by kernel_rfl) (fun K hK => ?_); go_big_quiet_op; refine hK _ ?_; clear hK K
              refine wpMix_pure (by kernel_rfl) (fun K hK => ?_); go_big_quiet_op; refine hK _ ?_; clear hK K
              refine wpMix_pure (by kernel_rfl) (fun K hK => ?_); go_big_quiet_op; refine hK _ ?_; clear hK K
              refine wpMix_pure (by kernel_rfl) (fun K hK => ?_); go_big_quiet_op; refine hK _ ?_; clear hK K
              refine wpMix_pure (by kernel_rfl) (fun K hK => ?_); go_big_quiet_op; refine hK _ ?_; clear hK K
              refine wpMix_act (by kernel_rfl) (fun K hK => ?_)
              go_big_op
              refine (l00InB_any _ _ _ _).mono ?_
              rintro e w' ⟨rfl, rfl⟩
              refine hK _ _ (regrown_of_below hS0) ?_
              clear hK K
              cases hq49 : inB x.skill 1 5
              · skip
                refine wpMix_pure (by kernel_rfl) (fun K hK => ?_); go_big_quiet_op; refine hK _ ?_; clear hK K
                refine wpMix_pure (by kernel_rfl) (fun K hK => ?_); go_big_quiet_op; refine hK _ ?_; clear hK K
                refine wpMix_nil ?_
                go_wp2
                go_ret
                exact ⟨ret_bool (by simp [groupB, *]), hS0⟩
              · skip
                refine wpMix_pure (by kernel_rfl) (fun K hK => ?_); go_big_quiet_op; refine hK _ ?_; clear hK K
                refine wpMix_pure (by kernel_rfl) (fun K hK => ?_); go_big_quiet_op; refine hK _ ?_; clear hK K
                refine wpMix_nil ?_
                go_wp2
                go_ret
                exact ⟨ret_bool (by simp [groupB, *]), hS0⟩

def allIn (xs : List Int) (lo hi : Int) : Bool := xs.all fun x => inB x lo hi
set_option maxRecDepth 100000 in
set_option maxHeartbeats 1000000 in
theorem allWithin1_any (x lo hi : Int) (a1 a2 : Addr) (w : World) (h1 : w.cell? a1 = some (.int .i64 lo)) (h2 : w.cell? a2 = some (.int .i64 hi)) :
    Calls Tryz.prog 50 #[.int .i64 x, .pointer (some a1), .pointer (some a2)] w fun e w' => e = .returned (.bool (!(inB x lo hi))) ∧ w = w' := by
  go_enter Tryz.func50, Tryz.ntmps50
  go_wp2_with (go_at_call 21; refine (withinB_any _ _ _ _).mono ?_; rintro e w' ⟨rfl, rfl⟩)
  go_ret
  exact ⟨rfl, rfl⟩

/-- Where the first element outside stands, or -1. -/
def IdxR (xs : List Int) (lo hi : Int) (w : World) (e : Ending) (w' : World) : Prop := ∃ r : Int, e = .returned (.int .i64 r) ∧ (allIn xs lo hi = true → r = -1) ∧ (allIn xs lo hi = false → 0 ≤ r) ∧ w = w'
set_option maxRecDepth 100000 in
set_option maxHeartbeats 1000000 in
theorem indexWithin_any (v : Value) (xs : List Int) (fp : List Nat) (lo hi : Int) (a1 a2 : Addr) (w : World) (hx : Sl fInt.cod w v xs fp) (h1 : w.cell? a1 = some (.int .i64 lo)) (h2 : w.cell? a2 = some (.int .i64 hi)) :
    Calls Tryz.prog 58 #[v, .func (.func 50) #[] #[.pointer (some a1), .pointer (some a2)]] w fun e w' => IdxR xs lo hi w e w' := by
  obtain ⟨A, cap, rfl, hlen, hcap⟩ := hx.form
  go_enter Tryz.func58, Tryz.ntmps58
  go_wp2
  go_loop [8] (fun i => ∃ k : Nat, k ≤ xs.length ∧ i = .int .i64 k ∧ Hid (allIn (xs.take k) lo hi = true)) (fun i => xs.length - (intOf i).toNat)
  case atStart => exact ⟨0, Nat.zero_le _, rfl, rfl⟩
  case round =>
    obtain ⟨k, hk, rfl, HE⟩ := hrel
    by_cases hlt : k < xs.length
    · obtain ⟨b, off, rfl, _, hok, hc, _⟩ := hx.cell1 rfl hlt rfl
      cases hb : inB xs[k] lo hi
      · have HA : Hid (allIn xs lo hi = false) := by
          show allIn xs lo hi = false
          unfold allIn
          rw [List.all_eq_false]
          exact ⟨xs[k], List.getElem_mem hlt, by rw [hb]; simp⟩
        go_wp2_with (go_at_call 50; refine (allWithin1_any _ _ _ _ _ _ h1 h2).mono ?_; rintro e w' ⟨rfl, rfl⟩)
        go_ret
        exact ⟨k, rfl, fun h => by (rw [HA.out] at h; cases h), fun _ => by omega, rfl⟩
      · have HA : Hid (allIn (xs.take (k + 1)) lo hi = true) := by
          show allIn _ lo hi = true
          have h0 := HE.out
          unfold allIn at *
          rw [List.take_succ_eq_append_getElem hlt, List.all_append, h0]
          simp [hb]
        go_wp2_with (go_at_call 50; refine (allWithin1_any _ _ _ _ _ _ h1 h2).mono ?_; rintro e w' ⟨rfl, rfl⟩)
        go_round
        case rel => exact ⟨k + 1, by omega, by go_num, HA⟩
        case measure => simp [intOf]; omega
    · have HA : Hid (allIn xs lo hi = true) := by have := HE.out; rw [List.take_of_length_le (by omega)] at this; exact this
      go_wp2
      go_ret
      exact ⟨-1, rfl, fun _ => rfl, fun h => by (rw [HA.out] at h; cases h), rfl⟩

set_option maxRecDepth 100000 in
set_option maxHeartbeats 1000000 in
theorem containsWithin_any (v : Value) (xs : List Int) (fp : List Nat) (lo hi : Int) (a1 a2 : Addr) (w : World) (hx : Sl fInt.cod w v xs fp) (h1 : w.cell? a1 = some (.int .i64 lo)) (h2 : w.cell? a2 = some (.int .i64 hi)) :
    Calls Tryz.prog 49 #[v, .func (.func 50) #[] #[.pointer (some a1), .pointer (some a2)]] w fun e w' => e = .returned (.bool (!(allIn xs lo hi))) ∧ w = w' := by
  go_enter Tryz.func49, Tryz.ntmps49
  go_wp2_with fail
  refine (indexWithin_any v xs fp lo hi a1 a2 w hx h1 h2).mono ?_
  rintro e w' ⟨r, rfl, hr1, hr2, rfl⟩
  cases hb : allIn xs lo hi
  · have h3 := hr2 hb
    clear hr1 hr2
    go_wp2
    go_ret
    exact ⟨ret_bool (by simp [hb]), rfl⟩
  · have h3 := hr1 hb
    clear hr1 hr2
    subst h3
    go_wp2
    go_ret
    exact ⟨ret_bool (by simp [hb]), rfl⟩

set_option maxRecDepth 100000 in
set_option maxHeartbeats 1000000 in
theorem allWithin_any (v : Value) (xs : List Int) (fp : List Nat) (lo hi : Int) (w : World) (hx : Sl fInt.cod w v xs fp) :
    Calls Tryz.prog 40 #[v, .int .i64 lo, .int .i64 hi] w fun e w' => e = .returned (.bool (allIn xs lo hi)) ∧ Below w.heap.size w w' := by
  have hmf : ∀ (fn : Fn) (first cap : Array Value) (W : World), (Instr.makeFunc fn first cap).run Tryz.prog W = .ok (.func fn first cap) W := fun _ _ _ _ => rfl
  have hx2 := (hx.below' ((Below.refl _ _).alloc (Nat.le_refl _) (.cells #[.int .i64 lo] 2))).below' ((Below.refl _ _).alloc (Nat.le_refl _) (.cells #[.int .i64 hi] 2))
  go_enter Tryz.func40, Tryz.ntmps40
  go_wp2_with fail
  refine (containsWithin_any v xs fp lo hi _ _ _ hx2 (by simp) (by simp)).mono ?_
  rintro e w' ⟨rfl, rfl⟩
  cases hb : allIn xs lo hi
  all_goals
    go_wp2
    go_ret
    exact ⟨ret_bool (by simp [hb]), (by repeat (first | exact Below.refl _ _ | assumption | refine Below.alloc ?_ (by first | omega | (simp <;> omega)) _ | refine Below.setCell ?_ (by first | (show _ ≤ _; omega) | (simp <;> omega)) _ | refine Below.drew ?_ | refine below_drewN ?_ _))⟩

end Go.Proofs.YtdpeffaplkbkgaaGreatDoor

namespace Go.Proofs.YtdpeffaplkbkgaaGreatDoor
open Go.RowKit
set_option linter.unusedVariables false

theorem Sl.lit {α : Type} {E : Flat α} (w : World) (xs : List α) (T : TypeId) (cs : Array Value) (hcs : cs = (xs.flatMap E.enc).toArray) (hok : ∀ x ∈ xs, E.ok x) (hne : 0 < xs.length) (hm : xs.length ≤ 9223372036854775807) :
    Sl E.cod (w.alloc (.cells cs T)) (.slice (some ⟨w.heap.size, 0, none⟩) xs.length xs.length) xs [w.heap.size] := by
  subst hcs
  refine Sl.of_cells (Nat.le_refl _) hm (by simp) (fun j hj => ⟨?_, ?_⟩) hok hne
  · rw [World.cell?_alloc_at _ _ _ _ rfl]; simp
  · rw [World.frozen?_alloc_at _ _ _ _ rfl]


set_option maxRecDepth 100000 in
set_option maxHeartbeats 4000000 in
theorem implValid_any (x : DGroup) (w : World) (hok : fGroup.ok x) :
    Calls Tryz.prog 20 #[.agg #[.string x.id, .int .i64 x.people, .int .i64 x.guides, .int .i64 x.beacons, .int .i64 x.shovels, .int .i64 x.probes, .int .i64 x.skill]] w fun e w' => e = .returned (.bool (groupB x)) ∧ Below w.heap.size w w' := by
  have hok0 : x.id.size ≤ 9223372036854775807 := hok.1
  cases h0 : nameB x.id
  · skip
    go_enter Tryz.func20, Tryz.ntmps20
    go_wp2_with (first | (go_at_call 37; refine (implIsName_any _ _ hok0).mono ?_; rintro e w' ⟨rfl, rfl⟩) | (go_at_call 21; refine (withinB_any _ _ _ _).mono ?_; rintro e w' ⟨rfl, rfl⟩))
    go_ret
    exact ⟨ret_bool (by simp [groupB, *]), (by repeat (first | exact Below.refl _ _ | assumption | refine Below.alloc ?_ (by first | omega | (simp <;> omega)) _ | refine Below.setCell ?_ (by first | (show _ ≤ _; omega) | (simp <;> omega)) _ | refine Below.drew ?_ | refine below_drewN ?_ _))⟩
  · cases h1 : inB x.people 1 30
    · skip
      go_enter Tryz.func20, Tryz.ntmps20
      go_wp2_with (first | (go_at_call 37; refine (implIsName_any _ _ hok0).mono ?_; rintro e w' ⟨rfl, rfl⟩) | (go_at_call 21; refine (withinB_any _ _ _ _).mono ?_; rintro e w' ⟨rfl, rfl⟩))
      go_ret
      exact ⟨ret_bool (by simp [groupB, *]), (by repeat (first | exact Below.refl _ _ | assumption | refine Below.alloc ?_ (by first | omega | (simp <;> omega)) _ | refine Below.setCell ?_ (by first | (show _ ≤ _; omega) | (simp <;> omega)) _ | refine Below.drew ?_ | refine below_drewN ?_ _))⟩
    · cases h2 : inB x.guides 0 x.people
      · skip
        go_enter Tryz.func20, Tryz.ntmps20
        go_wp2_with (first | (go_at_call 37; refine (implIsName_any _ _ hok0).mono ?_; rintro e w' ⟨rfl, rfl⟩) | (go_at_call 21; refine (withinB_any _ _ _ _).mono ?_; rintro e w' ⟨rfl, rfl⟩))
        go_ret
        exact ⟨ret_bool (by simp [groupB, *]), (by repeat (first | exact Below.refl _ _ | assumption | refine Below.alloc ?_ (by first | omega | (simp <;> omega)) _ | refine Below.setCell ?_ (by first | (show _ ≤ _; omega) | (simp <;> omega)) _ | refine Below.drew ?_ | refine below_drewN ?_ _))⟩
      · have hg : groupB x = (allIn [x.beacons, x.shovels, x.probes] 0 30 && inB x.skill 1 5) := by
          simp [groupB, h0, h1, h2, allIn, Bool.and_assoc]
        have HG := Lib.hid hg
        clear hg
        have hb0 : Below w.heap.size w ((w.alloc (.cells #[.string x.id, .int .i64 x.people, .int .i64 x.guides, .int .i64 x.beacons, .int .i64 x.shovels, .int .i64 x.probes, .int .i64 x.skill] 25)).alloc (.cells #[.int .i64 x.beacons, .int .i64 x.shovels, .int .i64 x.probes] 2)) := (by repeat (first | exact Below.refl _ _ | assumption | refine Below.alloc ?_ (by first | omega | (simp <;> omega)) _ | refine Below.setCell ?_ (by first | (show _ ≤ _; omega) | (simp <;> omega)) _ | refine Below.drew ?_ | refine below_drewN ?_ _))
        have hsl_ := Sl.lit (E := fInt) (w.alloc (.cells #[.string x.id, .int .i64 x.people, .int .i64 x.guides, .int .i64 x.beacons, .int .i64 x.shovels, .int .i64 x.probes, .int .i64 x.skill] 25)) [x.beacons, x.shovels, x.probes] 2 #[.int .i64 x.beacons, .int .i64 x.shovels, .int .i64 x.probes] rfl (by intro y hy; simp at hy; rcases hy with rfl | rfl | rfl; exact hok.2.2.2.1; exact hok.2.2.2.2.1; exact hok.2.2.2.2.2.1) (by simp) (by simp)
        have hsz : (w.alloc (.cells #[.string x.id, .int .i64 x.people, .int .i64 x.guides, .int .i64 x.beacons, .int .i64 x.shovels, .int .i64 x.probes, .int .i64 x.skill] 25)).heap.size = w.heap.size + 1 := by simp
        rw [hsz] at hsl_
        have hsl : Sl fInt.cod ((w.alloc (.cells #[.string x.id, .int .i64 x.people, .int .i64 x.guides, .int .i64 x.beacons, .int .i64 x.shovels, .int .i64 x.probes, .int .i64 x.skill] 25)).alloc (.cells #[.int .i64 x.beacons, .int .i64 x.shovels, .int .i64 x.probes] 2)) (.slice (some ⟨w.heap.size + 1, 0, none⟩) 3 3) [x.beacons, x.shovels, x.probes] [w.heap.size + 1] := hsl_
        clear hsl_ hsz
        go_enter Tryz.func20, Tryz.ntmps20
        go_wp2_with (first | (go_at_call 37; refine (implIsName_any _ _ hok0).mono ?_; rintro e w' ⟨rfl, rfl⟩) | (go_at_call 21; refine (withinB_any _ _ _ _).mono ?_; rintro e w' ⟨rfl, rfl⟩))
        refine (allWithin_any _ [x.beacons, x.shovels, x.probes] _ 0 30 _ hsl).mono ?_
        rintro e w1 ⟨rfl, hb⟩
        have hc6 : w1.cell? ⟨w.heap.size, 6, none⟩ = some (.int .i64 x.skill) := by rw [hb.cell (by simp <;> omega)]; simp
        have hb1 : Below w.heap.size w w1 := hb0.trans (hb.mono (by simp <;> omega))
        clear hsl hb hb0
        cases h3 : allIn [x.beacons, x.shovels, x.probes] 0 30
        · go_wp2_with (go_at_call 21; refine (withinB_any _ _ _ _).mono ?_; rintro e w' ⟨rfl, rfl⟩)
          go_ret
          exact ⟨ret_bool (by rw [HG.out, h3]; rfl), hb1⟩
        · go_wp2_with (go_at_call 21; refine (withinB_any _ _ _ _).mono ?_; rintro e w' ⟨rfl, rfl⟩)
          go_ret
          exact ⟨ret_bool (by rw [HG.out, h3]; rfl), hb1⟩

def guidesF (p l : Int) : Int := if l = 1 then 0 else if l = 2 then (p + 11) / 12 else if l = 3 then (p + 7) / 8 else if l = 4 then (p + 3) / 4 else p

end Go.Proofs.YtdpeffaplkbkgaaGreatDoor

namespace Go.Proofs.YtdpeffaplkbkgaaGreatDoor
open Go.RowKit
set_option linter.unusedVariables false

theorem infoStr0 : (Tryz.prog.info? 9).map (fun i => (i.zero, i.size, i.bytes)) = some (some (.string ⟨#[]⟩), 1, 16) := by kernel_rfl
def lack (b p : Int) (s : List UInt8) : List ByteArray := if b < p then [⟨s.toArray⟩] else []
def lacksF (x : DGroup) : List ByteArray := lack x.beacons x.people [98, 101, 97, 99, 111, 110, 115] ++ lack x.shovels x.people [115, 104, 111, 118, 101, 108, 115] ++ lack x.probes x.people [112, 114, 111, 98, 101, 115]
theorem lacksF_len (x : DGroup) : (lacksF x).length ≤ 3 := by
  unfold lacksF lack
  simp only [List.length_append]
  (repeat' split) <;> simp
theorem lacksF_ok (x : DGroup) : ∀ s ∈ lacksF x, fStr.ok s := by
  unfold lacksF lack
  intro s hs
  show s.size ≤ _
  simp only [List.mem_append] at hs
  rcases hs with (hs | hs) | hs
  all_goals
    split at hs
    · simp at hs; subst hs; show _ ≤ 9223372036854775807; decide
    · simp at hs

set_option maxRecDepth 100000 in
set_option maxHeartbeats 4000000 in
theorem l24Lacks_any (pb po : Nat) (x : DGroup) (w : World) (hp : PGroup w pb po x) :
    Calls Tryz.prog 35 #[.pointer (some ⟨pb, po, none⟩)] w fun e w' => NewR fStr.cod w (lacksF x) e w' := by
  obtain ⟨i0, hi, hz0, hz1, hz2⟩ := info_parts infoStr0
  have hplt := hp.lt
  by_cases h1 : x.beacons < x.people
  · by_cases h2 : x.shovels < x.people
    · by_cases h3 : x.probes < x.people
      · have HF := Lib.hid (show lacksF x = [⟨#[98, 101, 97, 99, 111, 110, 115]⟩, ⟨#[115, 104, 111, 118, 101, 108, 115]⟩, ⟨#[112, 114, 111, 98, 101, 115]⟩] from by unfold lacksF lack; rw [if_pos h1, if_pos h2, if_pos h3]; rfl)
        go_enter Tryz.func35, Tryz.ntmps35
        go_wp2
        have hb := (Below.refl w.heap.size w).alloc (Nat.le_refl _) (Obj.cells #[] 9)
        have hown := World.ownsRow_lit (e := 9) (size := 1) w #[] 0 (Nat.le_refl w.heap.size) (by decide) rfl
        have hq := hp.below hb hplt
        generalize w.alloc (Obj.cells #[] 9) = wa at *
        obtain ⟨_, c1, _, c3, c4, c5, _⟩ := hq
        go_quiet (fail)
        have hb0 := hb.trans ((below_drewN (Below.refl _ _) nq))
        have ho0 : (wa.drewN nq).ownsRow w.heap.size 9 1 (.slice (some ⟨w.heap.size, 0, none⟩) 0 0) 0 [] := hown
        have hq0 := hp.below hb0 hplt
        have hs0 := hb0.size
        clear hb hown c1 c3 c4 c5
        generalize wa.drewN nq = w0 at *
        go_wp2_with (at_builtin; refine wpList_append_one rfl _ _ 40 rfl w.heap.size 9 i0 (.string ⟨#[]⟩) 1 16 Tryz.underlying40 hi hz0 hz1 hz2 rfl (by decide) (.slice (some ⟨w.heap.size, 0, none⟩) 0 0) 0 _ rfl ho0 [.string ⟨#[98, 101, 97, 99, 111, 110, 115]⟩] rfl (by intro u hu; rw [List.mem_singleton] at hu; subst hu; rfl) rfl (by decide) (by decide) hs0 ?_)
        intro v0 u0 hown hbu _ _
        have hb := hb0.trans hbu
        have hq := hp.below hb hplt
        go_wp2_with fail
        obtain ⟨_, c1, _, c3, c4, c5, _⟩ := hq
        go_quiet (fail)
        have hb1 := hb.trans ((below_drewN (Below.refl _ _) nq))
        have ho1 : (u0.drewN nq).ownsRow w.heap.size 9 1 v0 1 [.string ⟨#[98, 101, 97, 99, 111, 110, 115]⟩] := hown
        have hq1 := hp.below hb1 hplt
        have hs1 := hb1.size
        clear hb hown c1 c3 c4 c5
        generalize u0.drewN nq = w1 at *
        go_wp2_with (at_builtin; refine wpList_append_one rfl _ _ 40 rfl w.heap.size 9 i0 (.string ⟨#[]⟩) 1 16 Tryz.underlying40 hi hz0 hz1 hz2 rfl (by decide) v0 1 _ rfl ho1 [.string ⟨#[115, 104, 111, 118, 101, 108, 115]⟩] rfl (by intro u hu; rw [List.mem_singleton] at hu; subst hu; rfl) rfl (by decide) (by decide) hs1 ?_)
        intro v1 u1 hown hbu _ _
        have hb := hb1.trans hbu
        have hq := hp.below hb hplt
        go_wp2_with fail
        obtain ⟨_, c1, _, c3, c4, c5, _⟩ := hq
        go_quiet (fail)
        have hb2 := hb.trans ((below_drewN (Below.refl _ _) nq))
        have ho2 : (u1.drewN nq).ownsRow w.heap.size 9 1 v1 2 [.string ⟨#[98, 101, 97, 99, 111, 110, 115]⟩, .string ⟨#[115, 104, 111, 118, 101, 108, 115]⟩] := hown
        have hq2 := hp.below hb2 hplt
        have hs2 := hb2.size
        clear hb hown c1 c3 c4 c5
        generalize u1.drewN nq = w2 at *
        go_wp2_with (at_builtin; refine wpList_append_one rfl _ _ 40 rfl w.heap.size 9 i0 (.string ⟨#[]⟩) 1 16 Tryz.underlying40 hi hz0 hz1 hz2 rfl (by decide) v1 2 _ rfl ho2 [.string ⟨#[112, 114, 111, 98, 101, 115]⟩] rfl (by intro u hu; rw [List.mem_singleton] at hu; subst hu; rfl) rfl (by decide) (by decide) hs2 ?_)
        intro v2 u2 hown hbu _ _
        have hb := hb2.trans hbu
        go_wp2
        go_ret
        refine ⟨_, rfl, ⟨?_, hb⟩⟩
        rw [HF.out]
        exact Sl.of_own (E := fStr) (n := 3) rfl hown (by rw [← HF.out]; exact lacksF_ok x)
      · have HF := Lib.hid (show lacksF x = [⟨#[98, 101, 97, 99, 111, 110, 115]⟩, ⟨#[115, 104, 111, 118, 101, 108, 115]⟩] from by unfold lacksF lack; rw [if_pos h1, if_pos h2, if_neg h3]; rfl)
        go_enter Tryz.func35, Tryz.ntmps35
        go_wp2
        have hb := (Below.refl w.heap.size w).alloc (Nat.le_refl _) (Obj.cells #[] 9)
        have hown := World.ownsRow_lit (e := 9) (size := 1) w #[] 0 (Nat.le_refl w.heap.size) (by decide) rfl
        have hq := hp.below hb hplt
        generalize w.alloc (Obj.cells #[] 9) = wa at *
        obtain ⟨_, c1, _, c3, c4, c5, _⟩ := hq
        go_quiet (fail)
        have hb0 := hb.trans ((below_drewN (Below.refl _ _) nq))
        have ho0 : (wa.drewN nq).ownsRow w.heap.size 9 1 (.slice (some ⟨w.heap.size, 0, none⟩) 0 0) 0 [] := hown
        have hq0 := hp.below hb0 hplt
        have hs0 := hb0.size
        clear hb hown c1 c3 c4 c5
        generalize wa.drewN nq = w0 at *
        go_wp2_with (at_builtin; refine wpList_append_one rfl _ _ 40 rfl w.heap.size 9 i0 (.string ⟨#[]⟩) 1 16 Tryz.underlying40 hi hz0 hz1 hz2 rfl (by decide) (.slice (some ⟨w.heap.size, 0, none⟩) 0 0) 0 _ rfl ho0 [.string ⟨#[98, 101, 97, 99, 111, 110, 115]⟩] rfl (by intro u hu; rw [List.mem_singleton] at hu; subst hu; rfl) rfl (by decide) (by decide) hs0 ?_)
        intro v0 u0 hown hbu _ _
        have hb := hb0.trans hbu
        have hq := hp.below hb hplt
        go_wp2_with fail
        obtain ⟨_, c1, _, c3, c4, c5, _⟩ := hq
        go_quiet (fail)
        have hb1 := hb.trans ((below_drewN (Below.refl _ _) nq))
        have ho1 : (u0.drewN nq).ownsRow w.heap.size 9 1 v0 1 [.string ⟨#[98, 101, 97, 99, 111, 110, 115]⟩] := hown
        have hq1 := hp.below hb1 hplt
        have hs1 := hb1.size
        clear hb hown c1 c3 c4 c5
        generalize u0.drewN nq = w1 at *
        go_wp2_with (at_builtin; refine wpList_append_one rfl _ _ 40 rfl w.heap.size 9 i0 (.string ⟨#[]⟩) 1 16 Tryz.underlying40 hi hz0 hz1 hz2 rfl (by decide) v0 1 _ rfl ho1 [.string ⟨#[115, 104, 111, 118, 101, 108, 115]⟩] rfl (by intro u hu; rw [List.mem_singleton] at hu; subst hu; rfl) rfl (by decide) (by decide) hs1 ?_)
        intro v1 u1 hown hbu _ _
        have hb := hb1.trans hbu
        have hq := hp.below hb hplt
        go_wp2_with fail
        obtain ⟨_, c1, _, c3, c4, c5, _⟩ := hq
        go_quiet (fail)
        have hb2 := hb.trans ((below_drewN (Below.refl _ _) nq))
        have ho2 : (u1.drewN nq).ownsRow w.heap.size 9 1 v1 2 [.string ⟨#[98, 101, 97, 99, 111, 110, 115]⟩, .string ⟨#[115, 104, 111, 118, 101, 108, 115]⟩] := hown
        have hq2 := hp.below hb2 hplt
        have hs2 := hb2.size
        clear hb hown c1 c3 c4 c5
        generalize u1.drewN nq = w2 at *
        have hb := hb2
        have hown := ho2
        go_wp2
        go_ret
        refine ⟨_, rfl, ⟨?_, hb⟩⟩
        rw [HF.out]
        exact Sl.of_own (E := fStr) (n := 2) rfl hown (by rw [← HF.out]; exact lacksF_ok x)
    · by_cases h3 : x.probes < x.people
      · have HF := Lib.hid (show lacksF x = [⟨#[98, 101, 97, 99, 111, 110, 115]⟩, ⟨#[112, 114, 111, 98, 101, 115]⟩] from by unfold lacksF lack; rw [if_pos h1, if_neg h2, if_pos h3]; rfl)
        go_enter Tryz.func35, Tryz.ntmps35
        go_wp2
        have hb := (Below.refl w.heap.size w).alloc (Nat.le_refl _) (Obj.cells #[] 9)
        have hown := World.ownsRow_lit (e := 9) (size := 1) w #[] 0 (Nat.le_refl w.heap.size) (by decide) rfl
        have hq := hp.below hb hplt
        generalize w.alloc (Obj.cells #[] 9) = wa at *
        obtain ⟨_, c1, _, c3, c4, c5, _⟩ := hq
        go_quiet (fail)
        have hb0 := hb.trans ((below_drewN (Below.refl _ _) nq))
        have ho0 : (wa.drewN nq).ownsRow w.heap.size 9 1 (.slice (some ⟨w.heap.size, 0, none⟩) 0 0) 0 [] := hown
        have hq0 := hp.below hb0 hplt
        have hs0 := hb0.size
        clear hb hown c1 c3 c4 c5
        generalize wa.drewN nq = w0 at *
        go_wp2_with (at_builtin; refine wpList_append_one rfl _ _ 40 rfl w.heap.size 9 i0 (.string ⟨#[]⟩) 1 16 Tryz.underlying40 hi hz0 hz1 hz2 rfl (by decide) (.slice (some ⟨w.heap.size, 0, none⟩) 0 0) 0 _ rfl ho0 [.string ⟨#[98, 101, 97, 99, 111, 110, 115]⟩] rfl (by intro u hu; rw [List.mem_singleton] at hu; subst hu; rfl) rfl (by decide) (by decide) hs0 ?_)
        intro v0 u0 hown hbu _ _
        have hb := hb0.trans hbu
        have hq := hp.below hb hplt
        go_wp2_with fail
        obtain ⟨_, c1, _, c3, c4, c5, _⟩ := hq
        go_quiet (fail)
        have hb1 := hb.trans ((below_drewN (Below.refl _ _) nq))
        have ho1 : (u0.drewN nq).ownsRow w.heap.size 9 1 v0 1 [.string ⟨#[98, 101, 97, 99, 111, 110, 115]⟩] := hown
        have hq1 := hp.below hb1 hplt
        have hs1 := hb1.size
        clear hb hown c1 c3 c4 c5
        generalize u0.drewN nq = w1 at *
        have hb := hb1
        have hown := ho1
        have hq := hp.below hb hplt
        go_wp2_with fail
        obtain ⟨_, c1, _, c3, c4, c5, _⟩ := hq
        go_quiet (fail)
        have hb2 := hb.trans ((below_drewN (Below.refl _ _) nq))
        have ho2 : (w1.drewN nq).ownsRow w.heap.size 9 1 v0 1 [.string ⟨#[98, 101, 97, 99, 111, 110, 115]⟩] := hown
        have hq2 := hp.below hb2 hplt
        have hs2 := hb2.size
        clear hb hown c1 c3 c4 c5
        generalize w1.drewN nq = w2 at *
        go_wp2_with (at_builtin; refine wpList_append_one rfl _ _ 40 rfl w.heap.size 9 i0 (.string ⟨#[]⟩) 1 16 Tryz.underlying40 hi hz0 hz1 hz2 rfl (by decide) v0 1 _ rfl ho2 [.string ⟨#[112, 114, 111, 98, 101, 115]⟩] rfl (by intro u hu; rw [List.mem_singleton] at hu; subst hu; rfl) rfl (by decide) (by decide) hs2 ?_)
        intro v2 u2 hown hbu _ _
        have hb := hb2.trans hbu
        go_wp2
        go_ret
        refine ⟨_, rfl, ⟨?_, hb⟩⟩
        rw [HF.out]
        exact Sl.of_own (E := fStr) (n := 2) rfl hown (by rw [← HF.out]; exact lacksF_ok x)
      · have HF := Lib.hid (show lacksF x = [⟨#[98, 101, 97, 99, 111, 110, 115]⟩] from by unfold lacksF lack; rw [if_pos h1, if_neg h2, if_neg h3]; rfl)
        go_enter Tryz.func35, Tryz.ntmps35
        go_wp2
        have hb := (Below.refl w.heap.size w).alloc (Nat.le_refl _) (Obj.cells #[] 9)
        have hown := World.ownsRow_lit (e := 9) (size := 1) w #[] 0 (Nat.le_refl w.heap.size) (by decide) rfl
        have hq := hp.below hb hplt
        generalize w.alloc (Obj.cells #[] 9) = wa at *
        obtain ⟨_, c1, _, c3, c4, c5, _⟩ := hq
        go_quiet (fail)
        have hb0 := hb.trans ((below_drewN (Below.refl _ _) nq))
        have ho0 : (wa.drewN nq).ownsRow w.heap.size 9 1 (.slice (some ⟨w.heap.size, 0, none⟩) 0 0) 0 [] := hown
        have hq0 := hp.below hb0 hplt
        have hs0 := hb0.size
        clear hb hown c1 c3 c4 c5
        generalize wa.drewN nq = w0 at *
        go_wp2_with (at_builtin; refine wpList_append_one rfl _ _ 40 rfl w.heap.size 9 i0 (.string ⟨#[]⟩) 1 16 Tryz.underlying40 hi hz0 hz1 hz2 rfl (by decide) (.slice (some ⟨w.heap.size, 0, none⟩) 0 0) 0 _ rfl ho0 [.string ⟨#[98, 101, 97, 99, 111, 110, 115]⟩] rfl (by intro u hu; rw [List.mem_singleton] at hu; subst hu; rfl) rfl (by decide) (by decide) hs0 ?_)
        intro v0 u0 hown hbu _ _
        have hb := hb0.trans hbu
        have hq := hp.below hb hplt
        go_wp2_with fail
        obtain ⟨_, c1, _, c3, c4, c5, _⟩ := hq
        go_quiet (fail)
        have hb1 := hb.trans ((below_drewN (Below.refl _ _) nq))
        have ho1 : (u0.drewN nq).ownsRow w.heap.size 9 1 v0 1 [.string ⟨#[98, 101, 97, 99, 111, 110, 115]⟩] := hown
        have hq1 := hp.below hb1 hplt
        have hs1 := hb1.size
        clear hb hown c1 c3 c4 c5
        generalize u0.drewN nq = w1 at *
        have hb := hb1
        have hown := ho1
        have hq := hp.below hb hplt
        go_wp2_with fail
        obtain ⟨_, c1, _, c3, c4, c5, _⟩ := hq
        go_quiet (fail)
        have hb2 := hb.trans ((below_drewN (Below.refl _ _) nq))
        have ho2 : (w1.drewN nq).ownsRow w.heap.size 9 1 v0 1 [.string ⟨#[98, 101, 97, 99, 111, 110, 115]⟩] := hown
        have hq2 := hp.below hb2 hplt
        have hs2 := hb2.size
        clear hb hown c1 c3 c4 c5
        generalize w1.drewN nq = w2 at *
        have hb := hb2
        have hown := ho2
        go_wp2
        go_ret
        refine ⟨_, rfl, ⟨?_, hb⟩⟩
        rw [HF.out]
        exact Sl.of_own (E := fStr) (n := 1) rfl hown (by rw [← HF.out]; exact lacksF_ok x)
  · by_cases h2 : x.shovels < x.people
    · by_cases h3 : x.probes < x.people
      · have HF := Lib.hid (show lacksF x = [⟨#[115, 104, 111, 118, 101, 108, 115]⟩, ⟨#[112, 114, 111, 98, 101, 115]⟩] from by unfold lacksF lack; rw [if_neg h1, if_pos h2, if_pos h3]; rfl)
        go_enter Tryz.func35, Tryz.ntmps35
        go_wp2
        have hb := (Below.refl w.heap.size w).alloc (Nat.le_refl _) (Obj.cells #[] 9)
        have hown := World.ownsRow_lit (e := 9) (size := 1) w #[] 0 (Nat.le_refl w.heap.size) (by decide) rfl
        have hq := hp.below hb hplt
        generalize w.alloc (Obj.cells #[] 9) = wa at *
        obtain ⟨_, c1, _, c3, c4, c5, _⟩ := hq
        go_quiet (fail)
        have hb0 := hb.trans ((below_drewN (Below.refl _ _) nq))
        have ho0 : (wa.drewN nq).ownsRow w.heap.size 9 1 (.slice (some ⟨w.heap.size, 0, none⟩) 0 0) 0 [] := hown
        have hq0 := hp.below hb0 hplt
        have hs0 := hb0.size
        clear hb hown c1 c3 c4 c5
        generalize wa.drewN nq = w0 at *
        have hb := hb0
        have hown := ho0
        have hq := hp.below hb hplt
        go_wp2_with fail
        obtain ⟨_, c1, _, c3, c4, c5, _⟩ := hq
        go_quiet (fail)
        have hb1 := hb.trans ((below_drewN (Below.refl _ _) nq))
        have ho1 : (w0.drewN nq).ownsRow w.heap.size 9 1 (.slice (some ⟨w.heap.size, 0, none⟩) 0 0) 0 [] := hown
        have hq1 := hp.below hb1 hplt
        have hs1 := hb1.size
        clear hb hown c1 c3 c4 c5
        generalize w0.drewN nq = w1 at *
        go_wp2_with (at_builtin; refine wpList_append_one rfl _ _ 40 rfl w.heap.size 9 i0 (.string ⟨#[]⟩) 1 16 Tryz.underlying40 hi hz0 hz1 hz2 rfl (by decide) (.slice (some ⟨w.heap.size, 0, none⟩) 0 0) 0 _ rfl ho1 [.string ⟨#[115, 104, 111, 118, 101, 108, 115]⟩] rfl (by intro u hu; rw [List.mem_singleton] at hu; subst hu; rfl) rfl (by decide) (by decide) hs1 ?_)
        intro v1 u1 hown hbu _ _
        have hb := hb1.trans hbu
        have hq := hp.below hb hplt
        go_wp2_with fail
        obtain ⟨_, c1, _, c3, c4, c5, _⟩ := hq
        go_quiet (fail)
        have hb2 := hb.trans ((below_drewN (Below.refl _ _) nq))
        have ho2 : (u1.drewN nq).ownsRow w.heap.size 9 1 v1 1 [.string ⟨#[115, 104, 111, 118, 101, 108, 115]⟩] := hown
        have hq2 := hp.below hb2 hplt
        have hs2 := hb2.size
        clear hb hown c1 c3 c4 c5
        generalize u1.drewN nq = w2 at *
        go_wp2_with (at_builtin; refine wpList_append_one rfl _ _ 40 rfl w.heap.size 9 i0 (.string ⟨#[]⟩) 1 16 Tryz.underlying40 hi hz0 hz1 hz2 rfl (by decide) v1 1 _ rfl ho2 [.string ⟨#[112, 114, 111, 98, 101, 115]⟩] rfl (by intro u hu; rw [List.mem_singleton] at hu; subst hu; rfl) rfl (by decide) (by decide) hs2 ?_)
        intro v2 u2 hown hbu _ _
        have hb := hb2.trans hbu
        go_wp2
        go_ret
        refine ⟨_, rfl, ⟨?_, hb⟩⟩
        rw [HF.out]
        exact Sl.of_own (E := fStr) (n := 2) rfl hown (by rw [← HF.out]; exact lacksF_ok x)
      · have HF := Lib.hid (show lacksF x = [⟨#[115, 104, 111, 118, 101, 108, 115]⟩] from by unfold lacksF lack; rw [if_neg h1, if_pos h2, if_neg h3]; rfl)
        go_enter Tryz.func35, Tryz.ntmps35
        go_wp2
        have hb := (Below.refl w.heap.size w).alloc (Nat.le_refl _) (Obj.cells #[] 9)
        have hown := World.ownsRow_lit (e := 9) (size := 1) w #[] 0 (Nat.le_refl w.heap.size) (by decide) rfl
        have hq := hp.below hb hplt
        generalize w.alloc (Obj.cells #[] 9) = wa at *
        obtain ⟨_, c1, _, c3, c4, c5, _⟩ := hq
        go_quiet (fail)
        have hb0 := hb.trans ((below_drewN (Below.refl _ _) nq))
        have ho0 : (wa.drewN nq).ownsRow w.heap.size 9 1 (.slice (some ⟨w.heap.size, 0, none⟩) 0 0) 0 [] := hown
        have hq0 := hp.below hb0 hplt
        have hs0 := hb0.size
        clear hb hown c1 c3 c4 c5
        generalize wa.drewN nq = w0 at *
        have hb := hb0
        have hown := ho0
        have hq := hp.below hb hplt
        go_wp2_with fail
        obtain ⟨_, c1, _, c3, c4, c5, _⟩ := hq
        go_quiet (fail)
        have hb1 := hb.trans ((below_drewN (Below.refl _ _) nq))
        have ho1 : (w0.drewN nq).ownsRow w.heap.size 9 1 (.slice (some ⟨w.heap.size, 0, none⟩) 0 0) 0 [] := hown
        have hq1 := hp.below hb1 hplt
        have hs1 := hb1.size
        clear hb hown c1 c3 c4 c5
        generalize w0.drewN nq = w1 at *
        go_wp2_with (at_builtin; refine wpList_append_one rfl _ _ 40 rfl w.heap.size 9 i0 (.string ⟨#[]⟩) 1 16 Tryz.underlying40 hi hz0 hz1 hz2 rfl (by decide) (.slice (some ⟨w.heap.size, 0, none⟩) 0 0) 0 _ rfl ho1 [.string ⟨#[115, 104, 111, 118, 101, 108, 115]⟩] rfl (by intro u hu; rw [List.mem_singleton] at hu; subst hu; rfl) rfl (by decide) (by decide) hs1 ?_)
        intro v1 u1 hown hbu _ _
        have hb := hb1.trans hbu
        have hq := hp.below hb hplt
        go_wp2_with fail
        obtain ⟨_, c1, _, c3, c4, c5, _⟩ := hq
        go_quiet (fail)
        have hb2 := hb.trans ((below_drewN (Below.refl _ _) nq))
        have ho2 : (u1.drewN nq).ownsRow w.heap.size 9 1 v1 1 [.string ⟨#[115, 104, 111, 118, 101, 108, 115]⟩] := hown
        have hq2 := hp.below hb2 hplt
        have hs2 := hb2.size
        clear hb hown c1 c3 c4 c5
        generalize u1.drewN nq = w2 at *
        have hb := hb2
        have hown := ho2
        go_wp2
        go_ret
        refine ⟨_, rfl, ⟨?_, hb⟩⟩
        rw [HF.out]
        exact Sl.of_own (E := fStr) (n := 1) rfl hown (by rw [← HF.out]; exact lacksF_ok x)
    · by_cases h3 : x.probes < x.people
      · have HF := Lib.hid (show lacksF x = [⟨#[112, 114, 111, 98, 101, 115]⟩] from by unfold lacksF lack; rw [if_neg h1, if_neg h2, if_pos h3]; rfl)
        go_enter Tryz.func35, Tryz.ntmps35
        go_wp2
        have hb := (Below.refl w.heap.size w).alloc (Nat.le_refl _) (Obj.cells #[] 9)
        have hown := World.ownsRow_lit (e := 9) (size := 1) w #[] 0 (Nat.le_refl w.heap.size) (by decide) rfl
        have hq := hp.below hb hplt
        generalize w.alloc (Obj.cells #[] 9) = wa at *
        obtain ⟨_, c1, _, c3, c4, c5, _⟩ := hq
        go_quiet (fail)
        have hb0 := hb.trans ((below_drewN (Below.refl _ _) nq))
        have ho0 : (wa.drewN nq).ownsRow w.heap.size 9 1 (.slice (some ⟨w.heap.size, 0, none⟩) 0 0) 0 [] := hown
        have hq0 := hp.below hb0 hplt
        have hs0 := hb0.size
        clear hb hown c1 c3 c4 c5
        generalize wa.drewN nq = w0 at *
        have hb := hb0
        have hown := ho0
        have hq := hp.below hb hplt
        go_wp2_with fail
        obtain ⟨_, c1, _, c3, c4, c5, _⟩ := hq
        go_quiet (fail)
        have hb1 := hb.trans ((below_drewN (Below.refl _ _) nq))
        have ho1 : (w0.drewN nq).ownsRow w.heap.size 9 1 (.slice (some ⟨w.heap.size, 0, none⟩) 0 0) 0 [] := hown
        have hq1 := hp.below hb1 hplt
        have hs1 := hb1.size
        clear hb hown c1 c3 c4 c5
        generalize w0.drewN nq = w1 at *
        have hb := hb1
        have hown := ho1
        have hq := hp.below hb hplt
        go_wp2_with fail
        obtain ⟨_, c1, _, c3, c4, c5, _⟩ := hq
        go_quiet (fail)
        have hb2 := hb.trans ((below_drewN (Below.refl _ _) nq))
        have ho2 : (w1.drewN nq).ownsRow w.heap.size 9 1 (.slice (some ⟨w.heap.size, 0, none⟩) 0 0) 0 [] := hown
        have hq2 := hp.below hb2 hplt
        have hs2 := hb2.size
        clear hb hown c1 c3 c4 c5
        generalize w1.drewN nq = w2 at *
        go_wp2_with (at_builtin; refine wpList_append_one rfl _ _ 40 rfl w.heap.size 9 i0 (.string ⟨#[]⟩) 1 16 Tryz.underlying40 hi hz0 hz1 hz2 rfl (by decide) (.slice (some ⟨w.heap.size, 0, none⟩) 0 0) 0 _ rfl ho2 [.string ⟨#[112, 114, 111, 98, 101, 115]⟩] rfl (by intro u hu; rw [List.mem_singleton] at hu; subst hu; rfl) rfl (by decide) (by decide) hs2 ?_)
        intro v2 u2 hown hbu _ _
        have hb := hb2.trans hbu
        go_wp2
        go_ret
        refine ⟨_, rfl, ⟨?_, hb⟩⟩
        rw [HF.out]
        exact Sl.of_own (E := fStr) (n := 1) rfl hown (by rw [← HF.out]; exact lacksF_ok x)
      · have HF := Lib.hid (show lacksF x = [] from by unfold lacksF lack; rw [if_neg h1, if_neg h2, if_neg h3]; rfl)
        go_enter Tryz.func35, Tryz.ntmps35
        go_wp2
        have hb := (Below.refl w.heap.size w).alloc (Nat.le_refl _) (Obj.cells #[] 9)
        have hown := World.ownsRow_lit (e := 9) (size := 1) w #[] 0 (Nat.le_refl w.heap.size) (by decide) rfl
        have hq := hp.below hb hplt
        generalize w.alloc (Obj.cells #[] 9) = wa at *
        obtain ⟨_, c1, _, c3, c4, c5, _⟩ := hq
        go_quiet (fail)
        have hb0 := hb.trans ((below_drewN (Below.refl _ _) nq))
        have ho0 : (wa.drewN nq).ownsRow w.heap.size 9 1 (.slice (some ⟨w.heap.size, 0, none⟩) 0 0) 0 [] := hown
        have hq0 := hp.below hb0 hplt
        have hs0 := hb0.size
        clear hb hown c1 c3 c4 c5
        generalize wa.drewN nq = w0 at *
        have hb := hb0
        have hown := ho0
        have hq := hp.below hb hplt
        go_wp2_with fail
        obtain ⟨_, c1, _, c3, c4, c5, _⟩ := hq
        go_quiet (fail)
        have hb1 := hb.trans ((below_drewN (Below.refl _ _) nq))
        have ho1 : (w0.drewN nq).ownsRow w.heap.size 9 1 (.slice (some ⟨w.heap.size, 0, none⟩) 0 0) 0 [] := hown
        have hq1 := hp.below hb1 hplt
        have hs1 := hb1.size
        clear hb hown c1 c3 c4 c5
        generalize w0.drewN nq = w1 at *
        have hb := hb1
        have hown := ho1
        have hq := hp.below hb hplt
        go_wp2_with fail
        obtain ⟨_, c1, _, c3, c4, c5, _⟩ := hq
        go_quiet (fail)
        have hb2 := hb.trans ((below_drewN (Below.refl _ _) nq))
        have ho2 : (w1.drewN nq).ownsRow w.heap.size 9 1 (.slice (some ⟨w.heap.size, 0, none⟩) 0 0) 0 [] := hown
        have hq2 := hp.below hb2 hplt
        have hs2 := hb2.size
        clear hb hown c1 c3 c4 c5
        generalize w1.drewN nq = w2 at *
        have hb := hb2
        have hown := ho2
        go_wp2
        go_ret
        refine ⟨_, rfl, ⟨?_, hb⟩⟩
        rw [HF.out]
        exact Sl.of_own (E := fStr) (n := 0) rfl hown (by rw [← HF.out]; exact lacksF_ok x)

end Go.Proofs.YtdpeffaplkbkgaaGreatDoor

namespace Go.Proofs.YtdpeffaplkbkgaaGreatDoor
open Go.RowKit
set_option linter.unusedVariables false

set_option maxRecDepth 100000 in
set_option maxHeartbeats 2000000 in
theorem kit_any (pb po : Nat) (x : DGroup) (w : World) (hp : PGroup w pb po x) :
    Calls Tryz.prog 32 #[.pointer (some ⟨pb, po, none⟩)] w fun e w' => e = .returned (.agg #[.pointer (some ⟨pb, po+3, none⟩), .pointer (some ⟨pb, po+4, none⟩), .pointer (some ⟨pb, po+5, none⟩)]) ∧ Below w.heap.size w w' := by
  have hplt := hp.lt
  go_enter Tryz.func32, Tryz.ntmps32
  go_wp2
  go_still_tail 10, (by kernel_rfl)
  change wpList _ _ _ _ _ (World.drew _)
  go_wp2
  exact bodyPost_ret (v := .agg #[.pointer (some ⟨pb, po+3, none⟩), .pointer (some ⟨pb, po+4, none⟩), .pointer (some ⟨pb, po+5, none⟩)]) (by simp [results, Tryz.results32, go_sem]) rfl ⟨rfl, below_drewN ((Below.refl _ _).alloc (Nat.le_refl _) _) 1⟩

def lackK (x : DGroup) (k : Nat) : List ByteArray :=
  match k with
  | 0 => []
  | 1 => lack x.beacons x.people [98, 101, 97, 99, 111, 110, 115]
  | 2 => lack x.beacons x.people [98, 101, 97, 99, 111, 110, 115] ++ lack x.shovels x.people [115, 104, 111, 118, 101, 108, 115]
  | _ => lacksF x
theorem lackK_ok (x : DGroup) (k : Nat) : ∀ s ∈ lackK x k, fStr.ok s := by
  intro s hs
  refine lacksF_ok x s ?_
  unfold lackK at hs
  unfold lacksF
  split at hs
  · simp at hs
  · simp [hs]
  · rw [List.append_assoc] ; simp at hs; rcases hs with h | h <;> simp [h]
  · exact hs
theorem lackK_len (x : DGroup) (k : Nat) : (lackK x k).length ≤ 3 := by
  unfold lackK lacksF lack
  split
  all_goals
    (try simp only [List.length_append])
    (repeat' split) <;> simp

theorem ix_p0 (a b c : Value) (w : World) : Sem.run Tryz.prog (Instr.index 66 (.agg #[a, b, c]) (.int .i64 0)) w = .ok a w := by kernel_rfl
theorem ix_p1 (a b c : Value) (w : World) : Sem.run Tryz.prog (Instr.index 66 (.agg #[a, b, c]) (.int .i64 1)) w = .ok b w := by kernel_rfl
theorem ix_p2 (a b c : Value) (w : World) : Sem.run Tryz.prog (Instr.index 66 (.agg #[a, b, c]) (.int .i64 2)) w = .ok c w := by kernel_rfl
end Go.Proofs.YtdpeffaplkbkgaaGreatDoor

namespace Go.Proofs.YtdpeffaplkbkgaaGreatDoor
open Go.RowKit
set_option linter.unusedVariables false

def goesB (x : DGroup) (n : Int) : Bool := decide ((lacksF x).length = 0) && decide (guidesF x.people n ≤ x.guides) && decide (n ≤ x.skill)

def mayGoB (x : DGroup) (n : Int) : Bool := groupB x && levelB n && goesB x n
theorem groupB_people {x : DGroup} (h : groupB x = true) : 1 ≤ x.people ∧ x.people ≤ 1000 := by
  unfold groupB at h
  simp only [Bool.and_eq_true] at h
  have := inB_true.1 h.1.1.1.1.1.2
  omega

end Go.Proofs.YtdpeffaplkbkgaaGreatDoor
