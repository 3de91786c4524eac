/- Parts of the proof: Tb, Bu, TGate, PGate, Gt, Sp, TInt64, Lt, Sh, Sq, Nu, Rd, Rl, Ix. -/
import Derived.Test.YtphljobklilbdaaGreatDoorG04
import Derived.Test.YtphljobklilbdaaGreatDoorG05
import Derived.LaidSub
import Derived.MakeChecks
import Derived.Lib.LaidTab
import Derived.Lib.AppendIntMem
import Derived.Lib.SmallJoins
import Derived.Test.YtphljobklilbdaaGreatDoorG01
import Derived.Lib.Builder
import Derived.Lib.AppendStr
import Derived.Lib.UnsafeStr
import Derived.Lib.MakeNoZero
import Derived.Laws.Externs
import Derived.Test.YtphljobklilbdaaGreatDoorG02
import Derived.Lib.SplitLaws
import Derived.Lib.ParseIntBTie
import Derived.Stop.LaidErr
import Derived.RowKitTokens
import Derived.Lib.CutLaws
namespace Go.Proofs.YtphljobklilbdaaGreatDoor
open Go.RowKit
set_option linter.unusedVariables false

def Tab10 (w : World) : Prop := Lib.TabIs Tryz.prog w "internal/strconv.uint64pow10" .u64 Lib.pow10Tab
theorem Tab10.below {w w' : World} (h : Tab10 w) (hb : Below w.heap.size w w') : Tab10 w' :=
  Go.Joins.var_stays (g := 3) (by kernel_rfl) h hb (Nat.le_refl _)
theorem tab10_of {laid : List (String × DataW Unit)} {W : World} (h : laidMetH Tryz.prog laid W) (hl : laid.filter (fun x => x.1 == "internal/strconv.uint64pow10") = [("internal/strconv.uint64pow10", Lib.tabData .u64 Lib.pow10Tab)]) : Tab10 W := by
  have h1 := h.filter (fun x => x.1 == "internal/strconv.uint64pow10")
  rw [hl] at h1
  have h1 := Eq.mp (MakeChecks.laidMetH_plain _ _ _ rfl) h1
  exact Lib.tabIs_of_head (g := 3) (t := 149) (n := 20) (e := 74) (by kernel_rfl) (by kernel_rfl) Tryz.underlying149 Tryz.underlying74 (by kernel_rfl) (by kernel_rfl) h1
theorem itoa_len5 (n : Nat) (h : n < 65536) : (Lib.itoa (n : Int)).length ≤ 5 := by
  by_cases h0 : n = 0
  · subst h0; rw [← decS_size, show ((0 : Nat) : Int) = 0 from rfl, decS_zero]; decide
  · rw [itoa_ne (by omega), if_neg (by omega)]
    have := dig_len 5 n (by omega)
    simpa using this
theorem Decimal_any (n : Int) (w : World) (h0 : -9223372036854775808 ≤ n) (h1 : n ≤ 9223372036854775807) (ht : Tab10 w) :
    Calls Tryz.prog 69 #[.int .i64 n] w fun e w' => e = .returned (.string (decS n)) ∧ Below w.heap.size w w' := by
  go_enter Tryz.func69, Tryz.ntmps69
  go_wp2_with fail
  refine (Tryz.strconv_FormatInt_10 n h0 h1 _ ht).mono ?_
  rintro e w1 ⟨rfl, k, os, rfl⟩
  have hb := Lib.below_grow w.heap.size w (Nat.le_refl _) k os
  generalize Go.Sort.grow (w.drewN k) os = w1 at *
  go_wp2
  go_ret
  exact ⟨rfl, hb⟩

end Go.Proofs.YtphljobklilbdaaGreatDoor

namespace Go.Proofs.YtphljobklilbdaaGreatDoor
open Go.RowKit

theorem infoBuilder : (Tryz.prog.info? 111).map (·.size) = some 2 := by kernel_rfl
theorem liesBuilder : liesAt Tryz.prog Tryz.prog.depth 111 (2 / Tryz.prog.cellsOf 111) 0 111 1 = true := by kernel_rfl
theorem infoU8 : (Tryz.prog.info? 5).map (fun i => (i.zero, i.size, i.bytes)) = some (some (.int .u8 0), 1, 1) := by kernel_rfl

set_option maxRecDepth 100000 in
set_option maxRecDepth 100000 in
set_option maxHeartbeats 1000000 in
theorem copyCheck_used (b : Nat) (w : World) (h0 : w.cell? ⟨b, 0, none⟩ = some (.pointer (some ⟨b, 0, none⟩))) :
    Calls Tryz.prog 91 #[.pointer (some ⟨b, 0, none⟩)] w fun e w' => e = .returned (.tuple #[]) ∧ w' = w := by
  obtain ⟨j, hj, _⟩ := Option.map_eq_some_iff.1 infoBuilder
  go_enter Tryz.func91, Tryz.ntmps91
  go_wp2
  rw [Lib.run_neq_ptr_same w _ Tryz.underlying109 hj]
  go_wp2
  go_end0
  exact ⟨rfl, rfl⟩

set_option maxRecDepth 100000 in
set_option maxRecDepth 100000 in
set_option maxHeartbeats 1000000 in
theorem copyCheck_fresh (b : Nat) (w : World) (h0 : w.cell? ⟨b, 0, none⟩ = some (.pointer none)) (hsh : w.shape? b = some (111, 2)) (hfz : w.frozen? ⟨b, 0, none⟩ = false) :
    Calls Tryz.prog 91 #[.pointer (some ⟨b, 0, none⟩)] w fun e w' => e = .returned (.tuple #[]) ∧ w' = w.setCell ⟨b, 0, none⟩ (.pointer (some ⟨b, 0, none⟩)) := by
  obtain ⟨j, hj, hjs⟩ := Option.map_eq_some_iff.1 infoBuilder
  go_enter Tryz.func91, Tryz.ntmps91
  go_wp2
  rw [Lib.run_to_unsafe w ⟨b, 0, none⟩ Tryz.underlying109 Tryz.underlying140 hj (by rw [hjs]; decide) hsh (Nat.zero_lt_succ 1)]
  simp only [Result.andThen]
  rw [Oper.upon_value]
  go_wp2
  rw [run_callFunc_extern Tryz.func108 (by kernel_rfl) (by kernel_rfl) (by kernel_rfl) (e := Extern.AbiNoEscape.same) (by kernel_rfl)]
  rw [Lib.run_noEscape]
  simp only [Result.andThen]
  rw [Oper.upon_value]
  go_wp2
  rw [Lib.run_from_unsafe w ⟨b, 0, none⟩ Tryz.underlying140 Tryz.underlying109 hj hsh liesBuilder]
  simp only [Result.andThen]
  rw [Oper.upon_value]
  go_wp2
  go_end0
  exact ⟨rfl, rfl⟩

theorem copyCheck_any (B b : Nat) (bs : List Value) (w : World) (h : Lib.IsBuilder 111 5 B b bs w) :
    Calls Tryz.prog 91 #[.pointer (some ⟨b, 0, none⟩)] w fun e w' => e = .returned (.tuple #[]) ∧ (Lib.BuilderAt 111 5 B b (.pointer (some ⟨b, 0, none⟩)) bs w' ∧ Below B w w') := by
  rcases h with h | h
  · refine (copyCheck_fresh b w h.cell0 h.shape h.frozen0).mono ?_
    rintro e w' ⟨rfl, rfl⟩
    exact ⟨rfl, h.used _, (Below.refl B w).setCell (p := ⟨b, 0, none⟩) h.1 _⟩
  · refine (copyCheck_used b w h.cell0).mono ?_
    rintro e w' ⟨rfl, rfl⟩
    exact ⟨rfl, h, Below.refl B _⟩

set_option maxRecDepth 100000 in
set_option maxRecDepth 100000 in
set_option maxHeartbeats 2000000 in
theorem writeString_any (B b : Nat) (bs : List Value) (s : ByteArray) (w : World) (h : Lib.IsBuilder 111 5 B b bs w) (hlen : bs.length + s.size ≤ 140737488355328) (hBw : B ≤ w.heap.size) :
    Calls Tryz.prog 78 #[.pointer (some ⟨b, 0, none⟩), .string s] w fun e w' => e = .returned (.tuple #[.int .i64 s.size, .nilIface]) ∧ (Lib.IsBuilder 111 5 B b (bs ++ Lib.strCells s) w' ∧ Below B w w') := by
  obtain ⟨i0, hi, hz0, hz1, hz2⟩ := info_parts infoU8
  go_enter Tryz.func78, Tryz.ntmps78
  go_wp2_with (go_at_call 91; refine (copyCheck_any B b bs _ h).mono ?_)
  rintro e w1 ⟨rfl, h1, hb1⟩
  obtain ⟨hB, v, hbk, hown, hne⟩ := h1
  have c0 : w1.cell? ⟨b, 0, none⟩ = some (.pointer (some ⟨b, 0, none⟩)) := by rw [Lib.cell_of_heap hbk]; rfl
  have c1 : w1.cell? ⟨b, 1, none⟩ = some v := by rw [Lib.cell_of_heap hbk]; rfl
  go_wp2_with (at_builtin; refine Lib.wpList_append_own_string _ rfl _ _ 22 9 rfl B 5 i0 Tryz.underlying22 Tryz.underlying9 hi hz0 hz1 hz2 _ _ _ rfl hown s rfl ?c3 ?c4 ?c5 ?_)
  case c3 => unfold maxLen; omega
  case c4 => omega
  case c5 => have := hb1.size; omega
  intro v' w2 hown' hgrow _
  have hlt : b < w1.heap.size := by
    rcases Nat.lt_or_ge b w1.heap.size with h' | h'
    · exact h'
    · simp [Array.getElem?_eq_none h'] at hbk
  have hb2 : w2.heap[b]? = some (.cells #[.pointer (some ⟨b, 0, none⟩), v] 111 (0, 0)) := by
    rw [hgrow.block b hlt (fun e => hne e.symm)]
    exact hbk
  have d0 : w2.cell? ⟨b, 0, none⟩ = some (.pointer (some ⟨b, 0, none⟩)) := by rw [Lib.cell_of_heap hb2]; rfl
  have d1 : w2.cell? ⟨b, 1, none⟩ = some v := by rw [Lib.cell_of_heap hb2]; rfl
  have f1 : w2.frozen? ⟨b, 1, none⟩ = false := Lib.frozen_of_heap hb2 1
  obtain ⟨ao, n', cap, rfl⟩ : ∃ ao n' cap, v' = .slice ao n' cap := by
    rcases hown'.2 with ⟨hv, _⟩ | ⟨g, cap, cur, hv, _⟩
    · exact ⟨_, _, _, hv⟩
    · exact ⟨_, _, _, hv⟩
  go_wp2
  go_ret2
  refine ⟨rfl, .inr ?_, ?_⟩
  · exact Lib.BuilderAt.put (T := 111) (e := 5) hB hb2 (bs' := bs ++ Lib.strCells s) (by simpa [Lib.strCells_length] using hown') (by decide)
  · exact (hb1.grown hgrow (by have := hb1.size; omega) (fun k hk => (hown.lt k hk).1)).setCell (p := ⟨b, 1, none⟩) hB _

/-- 'var b strings.Builder' behind the alloc. -/
theorem builder_new (w : World) : Lib.IsBuilder 111 5 w.heap.size w.heap.size [] (w.alloc (.cells #[.pointer none, .slice none 0 0] 111)) :=
  .inl ⟨Nat.le_refl _, .slice none 0 0, heap_alloc_new w _, World.ownsRow_nil _ _ _ _, by simp [Value.ownBlock]⟩

theorem isB_below {B b : Nat} {bs : List Value} {w w' : World} (h : Lib.IsBuilder 111 5 B b bs w) (hb : Below w.heap.size w w') : Lib.IsBuilder 111 5 B b bs w' := by
  have key : ∀ p, Lib.BuilderAt 111 5 B b p bs w → Lib.BuilderAt 111 5 B b p bs w' := by
    rintro p ⟨hB, v, hbk, hown, hne⟩
    have hlt : b < w.heap.size := by
      rcases Nat.lt_or_ge b w.heap.size with h' | h'
      · exact h'
      · simp [Array.getElem?_eq_none h'] at hbk
    refine ⟨hB, v, by rw [hb.block _ hlt]; exact hbk, ?_, hne⟩
    obtain ⟨h1, h2⟩ := hown
    refine ⟨h1, ?_⟩
    rcases h2 with h2 | ⟨g, cap, cur, hv, hg, hh, r⟩
    · exact .inl h2
    · have hgl : g < w.heap.size := by
        rcases Nat.lt_or_ge g w.heap.size with hlt | hge
        · exact hlt
        · rw [Array.getElem?_eq_none hge] at hh; cases hh
      exact .inr ⟨g, cap, cur, hv, hg, by rw [hb.block _ hgl]; exact hh, r⟩
  rcases h with h | h
  · exact .inl (key _ h)
  · exact .inr (key _ h)
end Go.Proofs.YtphljobklilbdaaGreatDoor

namespace Go.Proofs.YtphljobklilbdaaGreatDoor
open Go.RowKit
set_option linter.unusedVariables false

structure DGate where
  id : ByteArray
  shut : Int
  open_ : Int
  hold : Int
  shuts : Bool
  calm : Int
  deriving DecidableEq

def fGate : Flat DGate where
  n := 6
  enc := fun x => [.string x.id, .int .i64 x.shut, .int .i64 x.open_, .int .i64 x.hold, .bool x.shuts, .int .i64 x.calm]
  ok := fun x => fStr.ok x.id ∧ fInt.ok x.shut ∧ fInt.ok x.open_ ∧ fInt.ok x.hold ∧ fBool.ok x.shuts ∧ fInt.ok x.calm
  pos := by omega
  len := fun _ => rfl
  one := by intro x v hv; simp at hv; rcases hv with rfl | rfl | rfl | rfl | rfl | rfl <;> rfl

def totGate (x : DGate) : Nat := x.id.size
def totGateS (xs : List DGate) : Nat := xs.length + (xs.map totGate).sum






def mkGate (k : Int) : DGate := ⟨mt (k), k + 1, k + 1 + 1, k + 1 + 1 + 1, ((k + 1 + 1 + 1 + 1) % 3 == 0), k + 1 + 1 + 1 + 1 + 1⟩
def marksGate (k : Int) (n : Nat) : List DGate := (List.range n).map fun (i : Nat) => mkGate (k + 6 * (i : Int))

theorem marksGate_get (k0 : Int) (n i : Nat) (h : i < (marksGate k0 n).length) : (marksGate k0 n)[i] = mkGate (k0 + 6 * (i : Int)) := by
  simp [marksGate]
theorem marksGate_len (k0 : Int) (n : Nat) : (marksGate k0 n).length = n := by simp [marksGate]



end Go.Proofs.YtphljobklilbdaaGreatDoor

namespace Go.Proofs.YtphljobklilbdaaGreatDoor
open Go.RowKit
set_option linter.unusedVariables false

/-- A pointer to a Gate that lies somewhere. -/
structure PGate (w : World) (pb po : Nat) (x : DGate) : Prop where
  c0 : w.cell? ⟨pb, po, none⟩ = some (.string x.id)
  c1 : w.cell? ⟨pb, po + 1, none⟩ = some (.int .i64 x.shut)
  c2 : w.cell? ⟨pb, po + 2, none⟩ = some (.int .i64 x.open_)
  c3 : w.cell? ⟨pb, po + 3, none⟩ = some (.int .i64 x.hold)
  c4 : w.cell? ⟨pb, po + 4, none⟩ = some (.bool x.shuts)
  c5 : w.cell? ⟨pb, po + 5, none⟩ = some (.int .i64 x.calm)
theorem PGate.below {w w' : World} {pb po : Nat} {x : DGate} {B : Nat} (h : PGate w pb po x) (hb : Below B w w') (hB : pb < B) : PGate w' pb po x :=
  ⟨(hb.cell (p := ⟨pb, _, none⟩) hB).trans h.c0, (hb.cell (p := ⟨pb, _, none⟩) hB).trans h.c1, (hb.cell (p := ⟨pb, _, none⟩) hB).trans h.c2, (hb.cell (p := ⟨pb, _, none⟩) hB).trans h.c3, (hb.cell (p := ⟨pb, _, none⟩) hB).trans h.c4, (hb.cell (p := ⟨pb, _, none⟩) hB).trans h.c5⟩
theorem PGate.drewN {w : World} {pb po : Nat} {x : DGate} (h : PGate w pb po x) (n : Nat) : PGate (w.drewN n) pb po x :=
  ⟨h.c0, h.c1, h.c2, h.c3, h.c4, h.c5⟩
theorem PGate.lt {w : World} {pb po : Nat} {x : DGate} (h : PGate w pb po x) : pb < w.heap.size := block_lt_of_cell h.c0
theorem PGate.below' {w w' : World} {pb po : Nat} {x : DGate} (h : PGate w pb po x) (hb : Below w.heap.size w w') : PGate w' pb po x := h.below hb h.lt
theorem PGate.box (w : World) (x : DGate) (T : TypeId) : PGate (w.alloc (.cells #[.string x.id, .int .i64 x.shut, .int .i64 x.open_, .int .i64 x.hold, .bool x.shuts, .int .i64 x.calm] T)) w.heap.size 0 x := by
  constructor <;> simp
theorem PGate.elem {w : World} {A : Option Addr} {len cap : Nat} {xs : List DGate} {fp : List Nat} (h : Sl fGate.cod w (.slice A len cap) xs fp) {k : Nat} (hk : k < xs.length) :
    ∃ b off, A = some ⟨b, off, none⟩ ∧ b ∈ fp ∧ fGate.ok xs[k] ∧ PGate w b (off + k * 6) xs[k] := by
  obtain ⟨b, off, hA, hm, hok, hc, _⟩ := h.at_ hk
  exact ⟨b, off, hA, hm, hok, ⟨hc 0 (by decide), hc 1 (by decide), hc 2 (by decide), hc 3 (by decide), hc 4 (by decide), hc 5 (by decide)⟩⟩
end Go.Proofs.YtphljobklilbdaaGreatDoor

namespace Go.Proofs.YtphljobklilbdaaGreatDoor
open Go.RowKit
set_option linter.unusedVariables false

def gateB (x : DGate) : Bool := nameB x.id && inB x.shut 1 1000 && inB x.open_ 0 x.shut && inB x.hold 1 48 && inB x.calm 0 (x.hold - 1) && (x.shuts || decide (x.calm = 0))
theorem getD_of_ltG {α : Type} {xs : List α} {k : Nat} {d : α} (h : k < xs.length) : xs.getD k d = xs[k] := by rw [List.getD_eq_getElem?_getD, List.getElem?_eq_getElem h]; rfl
def gt0 : DGate := ⟨⟨#[]⟩, 0, 0, 0, false, 0⟩
def gtOk (xs : List DGate) (i : Nat) : Bool := gateB (xs.getD i gt0) && (decide (i = 0) || ltS (xs.getD (i - 1) gt0).id (xs.getD i gt0).id)
def gatesB (xs : List DGate) : Bool := allIdx (gtOk xs) xs.length && decide (xs.length ≤ 8)
theorem gtOk_zero {xs : List DGate} (h : 0 < xs.length) : gtOk xs 0 = gateB xs[0] := by simp [gtOk, h]
theorem gtOk_succ {xs : List DGate} {m : Nat} (h : m + 1 < xs.length) : gtOk xs (m + 1) = (gateB xs[m + 1] && ltS xs[m].id xs[m + 1].id) := by
  have h1 : m < xs.length := by omega
  simp [gtOk, h, h1]
theorem gatesB_bad {xs : List DGate} {k : Nat} (h : k < xs.length) (h1 : gtOk xs k = false) : gatesB xs = false := by
  unfold gatesB; rw [allIdx_bad h h1]; rfl
theorem gatesB_one {xs : List DGate} (h : gatesB xs = true) {k : Nat} (hk : k < xs.length) : gateB xs[k] = true := by
  unfold gatesB at h
  simp only [Bool.and_eq_true] at h
  have := allIdx_true.1 h.1 k hk
  unfold gtOk at this
  simp only [Bool.and_eq_true] at this
  rw [getD_of_ltG hk] at this
  exact this.1
theorem gatesB_len {xs : List DGate} (h : gatesB xs = true) : xs.length ≤ 8 := by
  unfold gatesB at h; simp at h; exact h.2

end Go.Proofs.YtphljobklilbdaaGreatDoor

namespace Go.Proofs.YtphljobklilbdaaGreatDoor
open Go.RowKit
set_option linter.unusedVariables false

def splL (c : UInt8) : List UInt8 → List (List UInt8)
  | [] => [[]]
  | b :: l => if b = c then [] :: splL c l else match splL c l with | [] => [[b]] | q :: r => (b :: q) :: r
theorem splL_ne (c : UInt8) : ∀ l, splL c l ≠ []
  | [] => by simp [splL]
  | b :: l => by
    unfold splL
    split
    · simp
    · split <;> simp
theorem splL_snoc (c : UInt8) (b : UInt8) : ∀ (l : List UInt8) (P : List (List UInt8)) (q : List UInt8), splL c l = P ++ [q] → splL c (l ++ [b]) = if b = c then P ++ [q] ++ [[]] else P ++ [q ++ [b]]
  | [], P, q, h => by
    have h' : [[]] = P ++ [q] := h
    cases P with
    | nil =>
      injection h' with h1 _
      subst h1
      show splL c [b] = _
      by_cases e : b = c <;> simp [splL, e]
    | cons p P => cases P <;> simp at h'
  | x :: l, P, q, h => by
    rw [List.cons_append]
    obtain ⟨P1, q1, h1⟩ : ∃ P1 q1, splL c l = P1 ++ [q1] := ⟨_, _, (List.dropLast_concat_getLast (splL_ne c l)).symm⟩
    have ih := splL_snoc c b l P1 q1 h1
    unfold splL at h ⊢
    by_cases e : x = c
    · rw [if_pos e] at h ⊢
      rw [h1, ← List.cons_append] at h
      obtain ⟨h2, h3⟩ := List.append_inj' h rfl
      subst h2
      injection h3 with h3 _
      subst h3
      rw [ih]
      by_cases eb : b = c
      · simp [eb]
      · simp [eb]
    · rw [if_neg e] at h ⊢
      rw [ih]
      rw [h1] at h
      cases P1 with
      | nil =>
        have h4 : [x :: q1] = P ++ [q] := h
        cases P with
        | nil =>
          injection h4 with h4 _
          subst h4
          by_cases eb : b = c <;> simp [eb]
        | cons p P => cases P <;> simp at h4
      | cons p1 P1 =>
        have h4 : ((x :: p1) :: P1) ++ [q1] = P ++ [q] := h
        obtain ⟨h2, h3⟩ := List.append_inj' h4 rfl
        subst h2
        injection h3 with h3 _
        subst h3
        by_cases eb : b = c <;> simp [eb]
theorem splL_none {c : UInt8} : ∀ {l : List UInt8}, (∀ b ∈ l, b ≠ c) → splL c l = [l]
  | [], _ => rfl
  | b :: l, h => by
    unfold splL
    rw [if_neg (h b (by simp)), splL_none (fun x hx => h x (by simp [hx]))]
/-- The pieces, each with the byte behind it but the last one, are the text. -/
theorem splL_join (c : UInt8) : ∀ (l : List UInt8) (P : List (List UInt8)) (q : List UInt8), splL c l = P ++ [q] → (P.flatMap fun p => p ++ [c]) ++ q = l
  | [], P, q, h => by
    have h' : [[]] = P ++ [q] := h
    cases P with
    | nil => injection h' with h1 _; subst h1; rfl
    | cons p P => cases P <;> simp at h'
  | x :: l, P, q, h => by
    obtain ⟨P1, q1, h1⟩ : ∃ P1 q1, splL c l = P1 ++ [q1] := ⟨_, _, (List.dropLast_concat_getLast (splL_ne c l)).symm⟩
    have ih := splL_join c l P1 q1 h1
    unfold splL at h
    by_cases e : x = c
    · rw [if_pos e, h1, ← List.cons_append] at h
      obtain ⟨h2, h3⟩ := List.append_inj' h rfl
      subst h2
      injection h3 with h3 _
      subst h3
      rw [List.flatMap_cons, List.append_assoc, ih, e]; rfl
    · rw [if_neg e, h1] at h
      cases P1 with
      | nil =>
        have h4 : [x :: q1] = P ++ [q] := h
        cases P with
        | nil =>
          injection h4 with h4 _
          subst h4
          rw [← ih]; rfl
        | cons p P => cases P <;> simp at h4
      | cons p1 P1 =>
        have h4 : ((x :: p1) :: P1) ++ [q1] = P ++ [q] := h
        obtain ⟨h2, h3⟩ := List.append_inj' h4 rfl
        subst h2
        injection h3 with h3 _
        subst h3
        rw [← ih]; simp
open Go.Lib in
theorem index_one (c : UInt8) (b : UInt8) (l : List UInt8) : index (b :: l) [c] = if b = c then 0 else if index l [c] == -1 then -1 else index l [c] + 1 := by
  rw [index]
  by_cases e : b = c
  · simp [List.isPrefixOf, e]
  · have e' : ¬ c = b := fun h => e h.symm
    simp [List.isPrefixOf, e, e']
open Go.Lib in
theorem splitK_one (c : UInt8) : ∀ l : List UInt8, splitK [c] 0 (count l [c]) l = splL c l
  | [] => by
    have h : index ([] : List UInt8) [c] = -1 := rfl
    rw [count_miss h]; rfl
  | b :: l => by
    have ih := splitK_one c l
    have hne : [c] ≠ ([] : List UInt8) := by simp
    have hi := index_one c b l
    unfold splL
    by_cases e : b = c
    · rw [if_pos e] at hi ⊢
      have hc := count_hit (i := 0) hne hi
      simp only [List.length_singleton, Nat.zero_add, List.drop_succ_cons, List.drop_zero] at hc
      rw [hc, Nat.add_comm 1, splitK, hi]
      simp [ih]
    · rw [if_neg e] at hi ⊢
      rcases index_spec l [c] with ⟨h1, _⟩ | ⟨i, h1, _⟩
      · rw [h1] at hi
        have hm : index (b :: l) [c] = -1 := hi
        rw [count_miss h1] at ih
        have ih' : [l] = splL c l := ih
        rw [count_miss hm, ← ih']; rfl
      · have hm : index (b :: l) [c] = ((i + 1 : Nat) : Int) := by
          rw [hi, h1, if_neg (by rw [beq_iff_eq]; omega)]; omega
        have c1 := count_hit hne h1
        have c2 := count_hit hne hm
        rw [c1, Nat.add_comm 1, splitK, h1, if_neg (by rw [beq_iff_eq]; omega)] at ih
        rw [c2, Nat.add_comm 1, splitK, hm, if_neg (by rw [beq_iff_eq]; omega), ← ih]
        simp
def splS (c : UInt8) (s : ByteArray) : List ByteArray := (splL c s.data.toList).map (fun l => ⟨l.toArray⟩)
theorem splS_data (c : UInt8) (s : ByteArray) : (splS c s).map (fun x : ByteArray => x.data.toList) = splL c s.data.toList := by
  unfold splS; rw [List.map_map]; simp [Function.comp_def]
theorem splS_of {c : UInt8} {s : ByteArray} {L : List ByteArray} (h : L.map (fun x : ByteArray => x.data.toList) = splL c s.data.toList) : L = splS c s := by
  unfold splS; rw [← h, List.map_map]
  have : ((fun l : List UInt8 => (⟨l.toArray⟩ : ByteArray)) ∘ fun x : ByteArray => x.data.toList) = id := by funext x; cases x; simp
  rw [this, List.map_id]
theorem splS_split (c : UInt8) (s : ByteArray) : Lib.splitB ⟨#[c]⟩ 0 (Lib.countB s ⟨#[c]⟩) s = splS c s := by
  refine splS_of ?_
  have h := Lib.splitB_data ⟨#[c]⟩ 0 (Lib.countB s ⟨#[c]⟩) s
  exact h.trans (splitK_one c s.data.toList)
/-- All but the last piece, and the last one. -/
theorem splS_cut (c : UInt8) (s : ByteArray) : ∃ (P : List ByteArray) (q : ByteArray), splS c s = P ++ [q] ∧ (P.flatMap fun p : ByteArray => p.data.toList ++ [c]) ++ q.data.toList = s.data.toList := by
  have hne : splS c s ≠ [] := by unfold splS; rw [Ne, List.map_eq_nil_iff]; exact splL_ne c _
  refine ⟨(splS c s).dropLast, (splS c s).getLast hne, (List.dropLast_concat_getLast hne).symm, ?_⟩
  have h := splS_data c s
  rw [← List.dropLast_concat_getLast hne, List.map_append] at h
  have h2 := splL_join c s.data.toList _ _ h.symm
  rw [List.flatMap_map] at h2
  exact h2
theorem infoStr4 : (Tryz.prog.info? 9).map (fun i => (i.zero, i.size, i.bytes)) = some (some (.string ⟨#[]⟩), 1, 16) := by kernel_rfl
def OwnRT {α : Type} (E : Flat α) (T : TypeId) (w : World) (xs : List α) (e : Ending) (w' : World) : Prop := ∃ v, e = .returned v ∧ Own E w' w.heap.size T v xs ∧ Below w.heap.size w w'
theorem extract_toList (s : ByteArray) (f k : Nat) : (s.extract f k).data.toList = (s.data.toList.take k).drop f := by
  rw [Lib.extract_data, List.drop_take]

end Go.Proofs.YtphljobklilbdaaGreatDoor

namespace Go.Proofs.YtphljobklilbdaaGreatDoor
open Go.RowKit
set_option linter.unusedVariables false

def totInt64S (xs : List Int) : Nat := xs.length




def mkInt64 (k : Int) : Int := k
def marksInt64 (k : Int) (n : Nat) : List Int := (List.range n).map fun (i : Nat) => mkInt64 (k + 1 * (i : Int))

theorem marksInt64_get (k0 : Int) (n i : Nat) (h : i < (marksInt64 k0 n).length) : (marksInt64 k0 n)[i] = mkInt64 (k0 + 1 * (i : Int)) := by
  simp [marksInt64]
theorem marksInt64_len (k0 : Int) (n : Nat) : (marksInt64 k0 n).length = n := by simp [marksInt64]



end Go.Proofs.YtphljobklilbdaaGreatDoor

namespace Go.Proofs.YtphljobklilbdaaGreatDoor
open Go.RowKit
set_option linter.unusedVariables false

theorem bytesL_append (a b : List UInt8) : (ByteArray.mk a.toArray ++ ByteArray.mk b.toArray) = ⟨(a ++ b).toArray⟩ := ByteArray.mk_append_mk a b
theorem bytesL_self (s : ByteArray) : s = ⟨s.data.toList.toArray⟩ := by cases s; simp
theorem mkL_size (l : List UInt8) : (ByteArray.mk l.toArray).size = l.length := by show l.toArray.size = _; simp
theorem dataL_len (s : ByteArray) : s.data.toList.length = s.size := by simp
def joinX : List (List UInt8) → List UInt8
  | [] => []
  | x :: r => x ++ r.flatMap (fun y => 44 :: y)
theorem joinX_one (x : List UInt8) : joinX [x] = x := by simp [joinX]
theorem joinX_snoc {xs : List (List UInt8)} (h : xs ≠ []) (y : List UInt8) : joinX (xs ++ [y]) = joinX xs ++ 44 :: y := by
  cases xs with
  | nil => exact absurd rfl h
  | cons x r => simp [joinX]
theorem joinX_len {n : Nat} : ∀ xs : List (List UInt8), (∀ x ∈ xs, x.length ≤ n) → (joinX xs).length ≤ (n + 1) * xs.length
  | [], _ => by simp [joinX]
  | x :: r, h => by
    have hr : ∀ r : List (List UInt8), (∀ y ∈ r, y.length ≤ n) → (r.flatMap (fun y => 44 :: y)).length ≤ (n + 1) * r.length := by
      intro r hr
      induction r with
      | nil => simp
      | cons a r ih =>
        have h1 := hr a (by simp)
        have h2 := ih (fun y hy => hr y (by simp [hy]))
        rw [List.flatMap_cons, List.length_append, List.length_cons, List.length_cons, Nat.mul_succ]
        omega
    have h1 := h x (by simp)
    have h2 := hr r (fun y hy => h y (by simp [hy]))
    show (x ++ _).length ≤ _
    rw [List.length_append, List.length_cons, Nat.mul_succ]
    omega
def listS (xs : List Int) : ByteArray := ⟨(if xs = [] then [45] else joinX (xs.map Lib.itoa)).toArray⟩
theorem itoaL_len {x : Int} (h : fInt.ok x) : (Lib.itoa x).length ≤ 21 := itoa_len20 h.1 h.2
theorem listS_size {xs : List Int} (h : ∀ x ∈ xs, fInt.ok x) : (listS xs).size ≤ 22 * xs.length + 1 := by
  unfold listS; rw [mkL_size]
  split
  · simp
  · have := joinX_len (n := 21) (xs.map Lib.itoa) (fun y hy => by obtain ⟨x, hx, rfl⟩ := List.mem_map.1 hy; exact itoaL_len (h x hx))
    rw [List.length_map] at this
    omega
theorem take_map_step {α β : Type} (f : α → β) {xs : List α} {k : Nat} (hk : k < xs.length) : (xs.take (k + 1)).map f = (xs.take k).map f ++ [f xs[k]] := by
  rw [List.take_succ_eq_append_getElem hk, List.map_append]; rfl
theorem join_first {xs : List Int} (h : 0 < xs.length) {t : ByteArray} (ht : t = ⟨(joinX ((xs.take 0).map Lib.itoa)).toArray⟩) : t ++ decS xs[0] = ⟨(joinX ((xs.take 1).map Lib.itoa)).toArray⟩ := by
  rw [ht, take_map_step Lib.itoa h]
  exact bytesL_append [] _ |>.trans (by simp [joinX])
theorem join_next {xs : List Int} {k : Nat} (h : k < xs.length) (hk : 0 < k) {t : ByteArray} (ht : t = ⟨(joinX ((xs.take k).map Lib.itoa)).toArray⟩) : t ++ ⟨#[44]⟩ ++ decS xs[k] = ⟨(joinX ((xs.take (k + 1)).map Lib.itoa)).toArray⟩ := by
  rw [ht, take_map_step Lib.itoa h, joinX_snoc (by
    intro e
    have := congrArg List.length e
    rw [List.length_map, List.length_take, List.length_nil] at this
    omega)]
  rw [show (ByteArray.mk #[44]) = ⟨([44] : List UInt8).toArray⟩ from rfl, bytesL_append]
  exact (bytesL_append _ _).trans (by simp)
def dataX (Xs : List ByteArray) : List (List UInt8) := Xs.map (fun x : ByteArray => x.data.toList)
def joinS (Xs : List ByteArray) : ByteArray := ⟨(joinX (dataX Xs)).toArray⟩
theorem joinX_dlen {Xs : List ByteArray} (h : ∀ x ∈ Xs, x.size ≤ 1000) (k : Nat) : (joinX (dataX (Xs.take k))).length ≤ 1001 * k := by
  have h1 := joinX_len (n := 1000) (dataX (Xs.take k)) (fun y hy => by
    unfold dataX at hy
    obtain ⟨x, hx, rfl⟩ := List.mem_map.1 hy
    have := h x (List.mem_of_mem_take hx)
    rw [dataL_len]; exact this)
  have h2 : (dataX (Xs.take k)).length ≤ k := by unfold dataX; rw [List.length_map, List.length_take]; omega
  have h3 : (1000 + 1) * (dataX (Xs.take k)).length ≤ (1000 + 1) * k := Nat.mul_le_mul_left _ h2
  omega
theorem joinX_step {Xs : List ByteArray} {k : Nat} (hk : k < Xs.length) (h0 : 0 < k) : joinX (dataX (Xs.take (k + 1))) = (joinX (dataX (Xs.take k)) ++ [44]) ++ Xs[k].data.toList := by
  unfold dataX
  rw [take_map_step _ hk, joinX_snoc (by
    intro e
    have := congrArg List.length e
    rw [List.length_map, List.length_take, List.length_nil] at this
    omega)]
  simp
set_option maxRecDepth 100000 in
set_option maxHeartbeats 4000000 in
theorem join_any (v : Value) (Xs : List ByteArray) (fp : List Nat) (w : World) (hx : Sl fStr.cod w v Xs fp) (hl : Xs.length ≤ 1000) (hsz : ∀ x ∈ Xs, x.size ≤ 1000) :
    Calls Tryz.prog 70 #[v, .string ⟨#[44]⟩] w fun e w' => e = .returned (.string (joinS Xs)) ∧ Below w.heap.size w w' := by
  obtain ⟨A, cap, rfl, hle, hca⟩ := hx.form
  rcases Nat.lt_or_ge Xs.length 2 with h2 | h2
  · match Xs, h2 with
    | [], _ =>
      go_enter Tryz.func70, Tryz.ntmps70
      go_wp2
      go_ret
      exact ⟨rfl, Below.refl _ _⟩
    | [a], _ =>
      obtain ⟨b, off, rfl, _, hok, hc, _⟩ := hx.cell1 rfl (k := 0) (by simp) rfl
      have hc0 : w.cell? ⟨b, off, none⟩ = some (.string a) := by simpa using hc
      have hj : joinS [a] = a := by unfold joinS dataX; rw [List.map_cons, List.map_nil, joinX_one]
      have HJ := Lib.hid hj
      clear hc hj
      go_enter Tryz.func70, Tryz.ntmps70
      go_wp2
      go_ret
      exact ⟨by rw [HJ.out]; rfl, Below.refl _ _⟩
    | _ :: _ :: _, h => exact absurd h (by simp)
  · obtain ⟨p, hp⟩ : ∃ p, Xs.length = p + 1 := ⟨Xs.length - 1, by omega⟩
    have hx0 := hx
    obtain ⟨b, off, rfl, _, hok, hc, _⟩ := hx.cell1 rfl (k := 0) (by omega) rfl
    have hc0 : w.cell? ⟨b, off, none⟩ = some (.string Xs[0]) := by simpa using hc
    have hs0 := hsz Xs[0] (List.getElem_mem (by omega))
    rw [hp] at hx hle ⊢
    have e0 : (((p + 1 : Nat) : Int) == 0) = false := by rw [beq_eq_false_iff_ne]; omega
    have e1 : (((p + 1 : Nat) : Int) == 1) = false := by rw [beq_eq_false_iff_ne]; omega
    have e2 : ((p : Int) == 0) = false := by rw [beq_eq_false_iff_ne]; omega
    have hq : ¬ (9223372036854775807 : Int) / (p : Int) ≤ 1 := by
      have : (2 : Int) ≤ 9223372036854775807 / (p : Int) := Int.le_ediv_of_mul_le (by omega) (by omega)
      omega
    have hnp : ¬ (p : Int) = 0 := by omega
    clear hc
    go_enter Tryz.func70, Tryz.ntmps70
    go_wp2
    go_loop [5, 41] (fun n i => ∃ k : Nat, k ≤ p + 1 ∧ i = .int .i64 k ∧ ∃ u : Nat, n = .int .i64 u ∧ u ≤ p + 1000 * k) (fun _ i => p + 1 - (intOf i).toNat)
    case atStart => exact ⟨0, Nat.zero_le _, rfl, p, by first | rfl | (congr 1; omega), by omega⟩
    case round =>
      obtain ⟨k, hk, rfl, u, rfl, hu⟩ := hrel
      by_cases hlt : k < p + 1
      · obtain ⟨b', off', hA, _, _, hck, _⟩ := hx.cell1 rfl (k := k) (by omega) rfl
        injection hA with hA; injection hA with hA1 hA2 _; subst hA1 hA2
        have hsk := hsz Xs[k] (List.getElem_mem (by omega))
        go_wp2
        go_round
        case rel => exact ⟨k + 1, by omega, by go_num, u + Xs[k].size, by go_num, by omega⟩
        case measure => simp [intOf]; omega
      · obtain rfl : k = p + 1 := by omega
        have hbk : (w.alloc (.cells #[.pointer none, .slice none 0 0] 111)).heap[w.heap.size]? = some (.cells #[.pointer none, .slice none 0 0] 111 (0, 0)) := heap_alloc_new w _
        have hJ1 : Hid (joinX (dataX (Xs.take 1)) = Xs[0].data.toList) := by
          show _ = _
          unfold dataX
          rw [take_map_step _ (by omega : 0 < Xs.length)]
          simp [joinX]
        have hjl := joinX_dlen hsz
        have HJL := Lib.hid hjl
        have HSZ := Lib.hid hsz
        clear hjl hsz
        go_wp2_with fail
        refine (Tryz.Builder_Grow_fresh w.heap.size w.heap.size u _ (Nat.le_refl _) hbk (by simp) (by omega)).mono ?_
        rintro e w1 ⟨rfl, hI, hb1⟩
        have hB1 : Below w.heap.size w w1 := ((Below.refl _ _).alloc (Nat.le_refl _) _).trans hb1
        have hx1 := hx0.below' hB1
        obtain ⟨b', off', hA, _, _, hc1, _⟩ := hx1.cell1 rfl (k := 0) (by omega) rfl
        injection hA with hA; injection hA with hA1 hA2 _; subst hA1 hA2
        have hc01 : w1.cell? ⟨b, off, none⟩ = some (.string Xs[0]) := by simpa using hc1
        clear hc1
        go_wp2_with fail
        refine (writeString_any w.heap.size w.heap.size [] _ _ (.inr hI) (by simp; omega) hB1.size).mono ?_
        rintro e w2 ⟨rfl, hI2, hb2⟩
        have hB2 := hB1.trans hb2
        rw [List.nil_append, Lib.strCells_eq, ← hJ1.out] at hI2
        have hcap : ¬ cap = 1 := by omega
        go_wp2
        go_loopw [65] (fun i wr => ∃ j : Nat, j ≤ p ∧ i = .int .i64 j ∧ Lib.IsBuilder 111 5 w.heap.size w.heap.size (Lib.byteCells (joinX (dataX (Xs.take (j + 1))))) wr ∧ Below w.heap.size w wr) (fun i _ => p - (intOf i).toNat)
        case atStart => exact ⟨0, Nat.zero_le _, rfl, hI2, hB2⟩
        case round =>
          obtain ⟨j, hj, rfl, hI3, hb⟩ := hrel
          have hbs := hb.size
          by_cases hjp : j < p
          · obtain ⟨b', off', hA, _, _, hcj, _⟩ := (hx0.below' hb).cell1 rfl (k := j + 1) (by omega) rfl
            injection hA with hA; injection hA with hA1 hA2 _; subst hA1 hA2
            have hcj0 : wr.cell? ⟨b, off + 1 + j, none⟩ = some (.string Xs[j + 1]) := by rw [Nat.add_assoc, Nat.add_comm 1 j]; exact hcj
            have hsj := HSZ.out Xs[j + 1] (List.getElem_mem (by omega))
            have hl1 := HJL.out (j + 1)
            have HST := Lib.hid (joinX_step (Xs := Xs) (k := j + 1) (by omega) (by omega))
            clear hcj
            go_wp2_with fail
            refine (writeString_any w.heap.size w.heap.size _ _ _ hI3 (by rw [Lib.byteCells_length]; show _ + 1 ≤ _; omega) hbs).mono ?_
            rintro e w5 ⟨rfl, hI5, hb5⟩
            have hB5 := hb.trans hb5
            rw [Lib.strCells_eq, ← Lib.byteCells_append] at hI5
            go_wp2_with fail
            refine (writeString_any w.heap.size w.heap.size _ _ _ hI5 (by rw [Lib.byteCells_length, List.length_append]; show _ + 1 + _ ≤ _; omega) hB5.size).mono ?_
            rintro e w6 ⟨rfl, hI6, hb6⟩
            rw [Lib.strCells_eq, ← Lib.byteCells_append] at hI6
            have hI7 : Lib.IsBuilder 111 5 w.heap.size w.heap.size (Lib.byteCells (joinX (dataX (Xs.take (j + 1 + 1))))) w6 := by rw [HST.out]; exact hI6
            clear hI5 hI6
            go_wp2
            go_roundw
            case rel => exact ⟨j + 1, by omega, by go_num, hI7, hB5.trans hb6⟩
            case measure => simp [intOf]; omega
          · obtain rfl : j = p := by omega
            rw [← hp, List.take_length] at hI3
            go_wp2_with fail
            refine (Tryz.Builder_String_any w.heap.size w.heap.size _ _ hI3 hbs).mono ?_
            rintro e w5 ⟨rfl, hb5⟩
            go_wp2
            go_ret
            exact ⟨rfl, hb.trans hb5⟩
def fitsL (xs : List Int) : Bool := decide (xs.length ≤ 64) && xs.all (fun x => inB x (-1000000000000) 1000000000000)
def listT (xs : List Int) : ByteArray := if fitsL xs then listS xs else ⟨#[]⟩
def decL (xs : List Int) : List ByteArray := xs.map decS
theorem decL_data (xs : List Int) : dataX (decL xs) = xs.map Lib.itoa := by
  unfold dataX decL; rw [List.map_map]; congr 1
theorem infoStrL : (Tryz.prog.info? 9).map (fun i => (i.zero, i.size, i.bytes)) = some (some (.string ⟨#[]⟩), 1, 16) := by kernel_rfl
theorem own_made {α : Type} {E : Flat α} {w : World} {base : Nat} (hb : base ≤ w.heap.size) {e : TypeId} {z : Array Value} {c : Nat} (hc : c ≤ 9223372036854775807) :
    Own E (w.alloc (.cells (madeCells z (c * E.n)) e)) base e (.slice (some ⟨w.heap.size, 0, none⟩) 0 c) [] := by
  refine ⟨by simp, .inr ⟨w.heap.size, c, madeCells z (c * E.n), rfl, hb, heap_alloc_new w _, Nat.zero_le _, by unfold maxLen; exact hc, size_madeCells _ _, ?_⟩⟩
  simp
set_option maxRecDepth 100000 in
set_option maxHeartbeats 4000000 in
theorem ListText_any (v : Value) (xs : List Int) (fp : List Nat) (w : World) (hx : Sl fInt.cod w v xs fp) (ht : Tab10 w) :
    Calls Tryz.prog 59 #[v] w fun e w' => e = .returned (.string (listT xs)) ∧ Below w.heap.size w w' := by
  obtain ⟨A, cap, rfl, hle, hca⟩ := hx.form
  obtain ⟨i0, hi, hz0, hz1, hz2⟩ := info_parts infoStrL
  have hoks := hx.oks
  by_cases h64 : xs.length ≤ 64
  · rcases Nat.eq_zero_or_pos xs.length with h0 | h0
    · obtain rfl := List.eq_nil_of_length_eq_zero h0
      go_enter Tryz.func59, Tryz.ntmps59
      go_wp2
      go_ret
      exact ⟨rfl, Below.refl _ _⟩
    · have e0 : ((xs.length : Int) == 0) = false := by rw [beq_eq_false_iff_ne]; omega
      have hne : ¬ xs = [] := by intro e; subst e; simp at h0
      have HN := Lib.hid hne
      have hmk : ∀ W : World, (Instr.makeSlice 79 (.int .i64 0) (.int .i64 (xs.length : Int))).run Tryz.prog W = .ok (.slice (some ⟨W.heap.size, 0, none⟩) 0 xs.length) (W.alloc (.cells (madeCells (Value.string ⟨#[]⟩).cells (xs.length * i0.size)) 9)) := fun W => run_make_rowN (P := Tryz.prog) 79 9 i0 _ Tryz.underlying79 hi hz0 .i64 .i64 0 xs.length (Nat.zero_le _) (by rw [hz2]; omega) (by omega) W
      rw [hz1] at hmk
      have hB0 : Below w.heap.size w (w.alloc (.cells (madeCells #[Value.string ⟨#[]⟩] xs.length) 9)) := (Below.refl _ _).alloc (Nat.le_refl _) _
      have hO0 : Own fStr (w.alloc (.cells (madeCells #[Value.string ⟨#[]⟩] xs.length) 9)) w.heap.size 9 (.slice (some ⟨w.heap.size, 0, none⟩) 0 xs.length) (decL (xs.take 0)) := by
        have h := own_made (E := fStr) (w := w) (base := w.heap.size) (e := 9) (z := #[Value.string ⟨#[]⟩]) (c := xs.length) (Nat.le_refl _) (by omega)
        rw [show xs.length * fStr.n = xs.length from Nat.mul_one _] at h
        exact h
      clear hne
      go_enter Tryz.func59, Tryz.ntmps59
      go_wp2
      go_loopw [3, 17] (fun v i wr => ∃ k : Nat, k ≤ xs.length ∧ i = .int .i64 k ∧ Hid ((xs.take k).all (fun x => inB x (-1000000000000) 1000000000000) = true) ∧ Own fStr wr w.heap.size 9 v (decL (xs.take k)) ∧ Below w.heap.size w wr) (fun _ i _ => xs.length - (intOf i).toNat)
      case atStart => exact ⟨0, Nat.zero_le _, rfl, rfl, hO0, hB0⟩
      case round =>
        obtain ⟨k, hk, rfl, HA, ho, hb⟩ := hrel
        by_cases hlt : k < xs.length
        · obtain ⟨b, off, rfl, _, hok, hc, _⟩ := (hx.below' hb).cell1 rfl hlt rfl
          obtain ⟨hk0, hk1⟩ : -9223372036854775808 ≤ xs[k] ∧ xs[k] ≤ 9223372036854775807 := hok
          cases hin : inB xs[k] (-1000000000000) 1000000000000
          · have hno : listT xs = ⟨#[]⟩ := by
              unfold listT fitsL
              rw [if_neg]
              intro h
              simp only [Bool.and_eq_true] at h
              have := List.all_eq_true.1 h.2 xs[k] (List.getElem_mem hlt)
              rw [hin] at this; cases this
            have HNO := Lib.hid hno
            clear hno ho
            go_wp2_with (go_at_call 27; refine (withinB_any _ _ _ _).mono ?_; rintro e w' ⟨rfl, rfl⟩)
            go_ret
            exact ⟨by rw [HNO.out]; rfl, hb⟩
          · have HA2 : Hid ((xs.take (k + 1)).all (fun x => inB x (-1000000000000) 1000000000000) = true) := by
              show _ = _
              rw [List.take_succ_eq_append_getElem hlt, List.all_append, HA.out]; simp [hin]
            have hst := take_map_step decS hlt
            have HST : Hid (decL (xs.take (k + 1)) = decL (xs.take k) ++ [decS xs[k]]) := hst
            have hkl : (decL (xs.take k)).length ≤ 64 := by unfold decL; rw [List.length_map, List.length_take]; omega
            clear hst
            go_wp2_with (go_at_call 27; refine (withinB_any _ _ _ _).mono ?_; rintro e w' ⟨rfl, rfl⟩)
            refine (Decimal_any xs[k] _ hk0 hk1 (ht.below hb)).mono ?_
            rintro e w2 ⟨rfl, hb2⟩
            have hB2 := hb.trans (hb2.mono hb.size)
            have ho3 : w2.ownsRow w.heap.size 9 1 u3 (decL (xs.take k)).length ((decL (xs.take k)).flatMap fStr.enc) := ho.below hb2
            have hs2 := hB2.size
            clear ho
            go_wp2_with (at_builtin; refine wpList_append_one rfl _ _ 79 rfl w.heap.size 9 i0 (.string ⟨#[]⟩) 1 16 Tryz.underlying79 hi hz0 hz1 hz2 rfl (by decide) u3 (decL (xs.take k)).length _ rfl ho3 [.string (decS xs[k])] rfl (by intro u hu; rw [List.mem_singleton] at hu; subst hu; rfl) rfl (by omega) (by decide) hs2 ?_)
            intro v' u hown hbu _ _
            have hbu' := hB2.trans hbu
            have ho4 : Own fStr u w.heap.size 9 v' (decL (xs.take (k + 1))) := by rw [HST.out]; exact Own.push _ rfl hown
            clear hown
            go_wp2
            go_roundw
            case rel => exact ⟨k + 1, by omega, by go_num, HA2, ho4, hbu'⟩
            case measure => simp [intOf]; omega
        · have hke : k = xs.length := by omega
          subst hke
          rw [List.take_length] at ho
          have hyes : listT xs = joinS (decL xs) := by
            have h := HA.out
            rw [List.take_length] at h
            unfold listT fitsL
            rw [decide_eq_true h64, h, if_pos (by rfl)]
            unfold listS joinS
            rw [if_neg HN.out, decL_data]
          have HY := Lib.hid hyes
          have hds : ∀ y ∈ decL xs, y.size ≤ 1000 := by
            intro y hy
            unfold decL at hy
            obtain ⟨x, hxm, rfl⟩ := List.mem_map.1 hy
            rw [decS_size]
            have := itoaL_len (hoks x hxm)
            omega
          obtain ⟨fpy, hsy, _, _⟩ := Sl.of_own (n := (decL xs).length) rfl ho (fun y hy => by have := hds y hy; show y.size ≤ 9223372036854775807; omega)
          have hdl : (decL xs).length ≤ 1000 := by unfold decL; rw [List.length_map]; omega
          clear ho hyes
          go_wp2_with fail
          refine (join_any _ (decL xs) fpy _ hsy hdl hds).mono ?_
          rintro e w2 ⟨rfl, hb2⟩
          go_wp2
          go_ret
          exact ⟨by rw [HY.out]; rfl, hb.trans (hb2.mono hb.size)⟩
  · have hno : listT xs = ⟨#[]⟩ := by unfold listT fitsL; rw [decide_eq_false h64]; rfl
    have HNO := Lib.hid hno
    clear hno
    go_enter Tryz.func59, Tryz.ntmps59
    go_wp2
    go_ret
    exact ⟨by rw [HNO.out]; rfl, Below.refl _ _⟩
theorem listT_size {xs : List Int} (h : ∀ x ∈ xs, fInt.ok x) (hl : xs.length ≤ 1000) : (listT xs).size ≤ 22001 := by
  unfold listT; split
  · have := listS_size h; omega
  · show 0 ≤ _; omega
set_option maxRecDepth 100000 in
set_option maxHeartbeats 2000000 in
theorem withId_any (id_ : ByteArray) (v : Value) (xs : List Int) (fp : List Nat) (w : World) (hx : Sl fInt.cod w v xs fp) (hl : xs.length ≤ 1000) (hid : id_.size ≤ 1048576) (ht : Tab10 w) :
    Calls Tryz.prog 41 #[.string id_, v] w fun e w' => e = .returned (.string (id_ ++ ⟨#[32]⟩ ++ listT xs)) ∧ Below w.heap.size w w' := by
  have hls := listT_size hx.oks hl
  have h1 : (id_ ++ ⟨#[32]⟩).size ≤ 1048577 := by rw [ByteArray.size_append]; show _ + 1 ≤ _; omega
  go_enter Tryz.func41, Tryz.ntmps41
  go_wp2_with fail
  refine (ListText_any v xs fp _ hx ht).mono ?_
  rintro e w1 ⟨rfl, hb⟩
  obtain ⟨T, hT⟩ : ∃ T, T = listT xs := ⟨_, rfl⟩
  rw [← hT] at hls ⊢
  have HT := Lib.hid hT
  clear hT
  go_wp2
  go_ret
  exact ⟨ret_str (by rw [HT.out]), hb⟩
def gtN (x : DGate) : List Int := [x.shut, x.open_, x.hold]
def gtS (x : DGate) : ByteArray := if x.shuts then x.id ++ ⟨#[32]⟩ ++ listS (gtN x) ++ ⟨#[32, 115, 104, 117, 116, 32]⟩ ++ decS x.calm else x.id ++ ⟨#[32]⟩ ++ listS (gtN x) ++ ⟨#[32, 111, 112, 101, 110]⟩
theorem gateB_parts {x : DGate} (h : gateB x = true) : x.id.size ≤ 10 ∧ (1 ≤ x.shut ∧ x.shut ≤ 1000) ∧ (0 ≤ x.open_ ∧ x.open_ ≤ x.shut) ∧ (1 ≤ x.hold ∧ x.hold ≤ 48) ∧ (0 ≤ x.calm ∧ x.calm ≤ x.hold - 1) := by
  unfold gateB inB nameB at h
  simp only [Bool.and_eq_true, decide_eq_true_eq] at h
  obtain ⟨⟨⟨⟨⟨h1, h2⟩, h3⟩, h4⟩, h5⟩, _⟩ := h
  exact ⟨h1.1.1, h2, h3, h4, h5⟩
theorem gtN_ok {x : DGate} (h : gateB x = true) : ∀ y ∈ gtN x, fInt.ok y := by
  obtain ⟨_, h1, h2, h3, _⟩ := gateB_parts h
  intro y hy
  unfold gtN at hy
  simp at hy
  rcases hy with rfl | rfl | rfl <;> (show _ ∧ _; omega)
theorem gtN_fits {x : DGate} (h : gateB x = true) : listT (gtN x) = listS (gtN x) := by
  obtain ⟨_, h1, h2, h3, _⟩ := gateB_parts h
  unfold listT
  rw [if_pos]
  unfold fitsL gtN inB
  simp
  omega
theorem gtS_size {x : DGate} (h : gateB x = true) : (gtS x).size ≤ 200 := by
  have h0 := (gateB_parts h).1
  have h1 := listS_size (gtN_ok h)
  have h2 : (decS x.calm).size ≤ 21 := by rw [decS_size]; obtain ⟨_, _, _, _, h5⟩ := gateB_parts h; obtain ⟨_, _, _, h4, _⟩ := gateB_parts h; exact itoa_len20 (by omega) (by omega)
  have h3 : (gtN x).length = 3 := rfl
  unfold gtS
  split
  · simp only [ByteArray.size_append]
    show x.id.size + 1 + _ + 6 + _ ≤ _; omega
  · simp only [ByteArray.size_append]
    show x.id.size + 1 + _ + 5 ≤ _; omega

end Go.Proofs.YtphljobklilbdaaGreatDoor

namespace Go.Proofs.YtphljobklilbdaaGreatDoor
open Go.RowKit
set_option linter.unusedVariables false

def stdNames : List ByteArray := [⟨#[98, 101, 101, 99, 104]⟩, ⟨#[102, 105, 114]⟩, ⟨#[108, 97, 114, 99, 104]⟩, ⟨#[112, 105, 110, 101]⟩]
theorem stdNames_size (k : Nat) (hk : k < stdNames.length) : (stdNames[k]).size ≤ 5 := by
  have : ∀ x ∈ stdNames, x.size ≤ 5 := by decide
  exact this _ (List.getElem_mem hk)
theorem oneByteS (n : Int) (W : World) : (convert 22 9 (.slice (some ⟨W.heap.size, 0, none⟩) 1 1)).run Tryz.prog (W.alloc (.cells #[.int .u8 n] 5)) = .ok (.string ⟨#[UInt8.ofNat n.toNat]⟩) (W.alloc (.cells #[.int .u8 n] 5)) :=
  run_convert_bytes_arg _ _ _ Tryz.underlying22 Tryz.underlying5 W.heap.size 0 1 1 [n] rfl (fun i hi => by (obtain rfl : i = 0 := by omega); simp) _ Tryz.underlying9
theorem manyStand (k : Nat) (bt : ByteArray) (h : k ≤ 100) (hb : bt.size = 1) : SmStand ⟨(⟨#[110]⟩ ++ bt), 100 * (k : Int), 900, 50 * (k : Int), 0⟩ := by
  have hz : ((⟨#[110]⟩ ++ bt) : ByteArray).size = 2 := by rw [ByteArray.size_append, hb]; rfl
  unfold SmStand; simp only
  rw [hz]
  refine ⟨by omega, by omega, by omega, by omega, by omega⟩
set_option maxRecDepth 100000 in
set_option maxHeartbeats 8000000 in
theorem l10Draw_any (n g : Nat) (w : World) (hs : SrcD n g w) (hn : n ≤ 999999970000) :
    Calls Tryz.prog 28 #[.pointer (some ⟨g, 0, none⟩)] w fun e w' => ∃ (v : Value) (xs : List DStand) (fp : List Nat), e = .returned v ∧ Sl fStand.cod w' v xs fp ∧ (∀ b ∈ fp, w.heap.size ≤ b) ∧ fp.Nodup ∧ (∀ x ∈ xs, SmStand x) ∧ xs.length ≤ 70 ∧ SrcD (n + 1000) g w' ∧ Only [g] w w' := by
  have hg := hs.lt
  have hgB : g < w.heap.size + 1 := by omega
  obtain ⟨i0, hi, hz0, hz1, hz2⟩ := info_parts infoStandD
  have hB0 : Below w.heap.size w (w.alloc (.cells #[.string ⟨#[98, 101, 101, 99, 104]⟩, .string ⟨#[102, 105, 114]⟩, .string ⟨#[108, 97, 114, 99, 104]⟩, .string ⟨#[112, 105, 110, 101]⟩] 9)) := (Below.refl _ _).alloc (Nat.le_refl _) _
  have hB1 : Below (w.heap.size + 1) (w.alloc (.cells #[.string ⟨#[98, 101, 101, 99, 104]⟩, .string ⟨#[102, 105, 114]⟩, .string ⟨#[108, 97, 114, 99, 104]⟩, .string ⟨#[112, 105, 110, 101]⟩] 9)) ((w.alloc (.cells #[.string ⟨#[98, 101, 101, 99, 104]⟩, .string ⟨#[102, 105, 114]⟩, .string ⟨#[108, 97, 114, 99, 104]⟩, .string ⟨#[112, 105, 110, 101]⟩] 9)).alloc (.cells #[] 25)) := (Below.refl _ _).alloc (by simp) _
  have hnm : Sl fStr.cod ((w.alloc (.cells #[.string ⟨#[98, 101, 101, 99, 104]⟩, .string ⟨#[102, 105, 114]⟩, .string ⟨#[108, 97, 114, 99, 104]⟩, .string ⟨#[112, 105, 110, 101]⟩] 9)).alloc (.cells #[] 25)) (.slice (some ⟨w.heap.size, 0, none⟩) 4 4) stdNames [w.heap.size] := (slLit w 9 stdNames _ rfl (by decide) (by decide) (by decide) _ _ rfl rfl).below hB1 (by simp)
  have hown : Own fStand ((w.alloc (.cells #[.string ⟨#[98, 101, 101, 99, 104]⟩, .string ⟨#[102, 105, 114]⟩, .string ⟨#[108, 97, 114, 99, 104]⟩, .string ⟨#[112, 105, 110, 101]⟩] 9)).alloc (.cells #[] 25)) (w.heap.size + 1) 25 (.slice (some ⟨w.heap.size + 1, 0, none⟩) 0 0) [] := by
    have h := Own.lit0m fStand (w := w.alloc (.cells #[.string ⟨#[98, 101, 101, 99, 104]⟩, .string ⟨#[102, 105, 114]⟩, .string ⟨#[108, 97, 114, 99, 104]⟩, .string ⟨#[112, 105, 110, 101]⟩] 9)) (base := w.heap.size + 1) (by simp) (e := 25)
    rw [World.size_alloc] at h
    exact h
  have hO0 : Only [g] w ((w.alloc (.cells #[.string ⟨#[98, 101, 101, 99, 104]⟩, .string ⟨#[102, 105, 114]⟩, .string ⟨#[108, 97, 114, 99, 104]⟩, .string ⟨#[112, 105, 110, 101]⟩] 9)).alloc (.cells #[] 25)) := Only.of_below (hB0.trans (hB1.mono (Nat.le_succ _)))
  have hs0 := hs.below (hB0.trans (hB1.mono (Nat.le_succ _)))
  clear hB0 hB1 hs
  go_enter Tryz.func28, Tryz.ntmps28
  go_wp2
  go_loopw [4, 5] (fun v kv wr => ∃ (k : Nat) (L : List DStand), kv = .int .i64 k ∧ k ≤ 4 ∧ L.length ≤ k ∧ Sl fStr.cod wr (.slice (some ⟨w.heap.size, 0, none⟩) 4 4) stdNames [w.heap.size] ∧ Own fStand wr (w.heap.size + 1) 25 v L ∧ (∀ x ∈ L, SmStand x) ∧ SrcD (n + 30 * k) g wr ∧ Only [g] w wr) (fun _ kv _ => 4 - (intOf kv).toNat)
  case atStart => exact ⟨0, [], rfl, by omega, by simp, hnm, hown, by simp, hs0, hO0⟩
  case round =>
    clear hnm hown hs0 hO0
    obtain ⟨k, L, rfl, hk, hL, hnm, ho, hsm, hsr, hor⟩ := hrel
    have hnl := hnm.lt w.heap.size (by simp)
    by_cases hlt : k < 4
    · go_wp2_with fail
      refine (one_any _ g 4 _ hsr (by omega) (by omega)).mono ?_
      rintro e w3 ⟨b, rfl, hs3, ho3⟩
      have hor3 := hor.trans ho3
      have hnm3 := hnm.only ho3 (fun b hb => by simp at hb; subst hb; simp; omega)
      have ho3' := ho.only ho3 (fun b hb => by simp at hb; subst hb; exact hgB)
      clear hsr ho hor ho3 hnm
      cases b
      · obtain ⟨bb, off, hA, _, _, hcn, _⟩ := hnm3.cell1 rfl (show k < stdNames.length from hlt) rfl
        injection hA with hA
        injection hA with hA1 hA2 _
        subst hA1 hA2
        have hzn := stdNames_size k hlt
        generalize stdNames[k]'hlt = nm at *
        rw [Nat.zero_add] at hcn
        replace hcn : w3.cell? ⟨w.heap.size, k, none⟩ = some (.string nm) := hcn
        go_wp2_with fail
        refine (l10DrawOne_any _ g nm _ hs3 (by omega) (by omega)).mono ?_
        rintro e w4 ⟨x, rfl, HX, hs4, ho4⟩
        have hor4 := hor3.trans ho4
        have hnm4 := hnm3.only ho4 (fun b hb => by simp at hb; subst hb; simp; omega)
        have hsz2 : w.heap.size + 1 ≤ w4.heap.size := by have := hnm4.lt w.heap.size (by simp); omega
        have hoW : w4.ownsRow (w.heap.size + 1) 25 5 u4 L.length (L.flatMap fStand.enc) := ho3'.only ho4 (fun b hb => by simp at hb; subst hb; exact hgB)
        clear ho3' hor3 hnm3 ho4 hs3 hcn
        unfold agStand
        go_wp2_with (at_builtin; refine wpList_append_one rfl _ _ 33 rfl (w.heap.size + 1) 25 i0 (.agg #[.string ⟨#[]⟩, .int .i64 0, .int .i64 0, .int .i64 0, .int .i64 0]) 5 48 Tryz.underlying33 hi hz0 hz1 hz2 rfl (by decide) u4 L.length _ rfl hoW [.string x.id, .int .i64 x.trees, .int .i64 x.height, .int .i64 x.cover, .int .i64 x.gap] rfl (by intro u hu; simp only [List.mem_cons, List.not_mem_nil, or_false] at hu; rcases hu with rfl | rfl | rfl | rfl | rfl <;> rfl) rfl (by omega) (by decide) hsz2 ?_)
        intro v' u hown hbu _ _
        have hoD : Own fStand u (w.heap.size + 1) 25 v' (L ++ [x]) := Own.push _ (by omega) hown
        clear hown
        have hs5 := hs4.belowB hbu hgB
        have hnm5 := hnm4.below hbu (fun b hb => by simp at hb; subst hb; omega)
        have hor5 := hor4.then (hbu.mono (Nat.le_succ _))
        clear hbu hs4 hnm4 hor4 hoW
        go_wp2
        go_roundw
        case rel => exact ⟨k + 1, _, by go_num, by omega, by rw [List.length_append, List.length_singleton]; omega, hnm5, hoD, fun y hy => by
          rcases List.mem_append.1 hy with hy | hy
          · exact hsm y hy
          · rw [List.mem_singleton] at hy; subst hy; exact HX, hs5.mono (by omega), hor5⟩
        case measure => simp [intOf]; omega
      · go_wp2
        go_roundw
        case rel => exact ⟨k + 1, L, by go_num, by omega, by omega, hnm3, ho3', hsm, hs3.mono (by omega), hor3⟩
        case measure => simp [intOf]; omega
    · go_wp2_with fail
      refine (pick_any _ g 18 _ hsr (by omega) (by omega)).mono ?_
      rintro e w3 ⟨q, rfl, ⟨q0, q1, _⟩, hs3, ho3⟩
      replace hor := hor.trans ho3
      replace ho := ho.only ho3 (fun b hb => by simp at hb; subst hb; exact hgB)
      have hsz2 : w.heap.size + 1 ≤ w3.heap.size := by have := ho3.size; omega
      clear ho3 hsr hnm
      by_cases hq0 : q = 0
      · subst hq0
        go_wp2_with fail
        refine (l10DrawOne_any _ g _ _ hs3 (by omega) (by decide)).mono ?_
        rintro e w4 ⟨x0, rfl, hx0, hs4, ho4⟩
        go_wp2_with fail
        refine (l10Bend_any _ g x0 _ hs4 (by omega) hx0).mono ?_
        rintro e w5 ⟨x, rfl, HX, hs5, ho5⟩
        have hor2 := hor.trans (ho4.trans ho5)
        have hsz5 : w.heap.size + 1 ≤ w5.heap.size := by have := ho4.size; have := ho5.size; omega
        have hoW : w5.ownsRow (w.heap.size + 1) 25 5 u4 L.length (L.flatMap fStand.enc) := (ho.only ho4 (fun b hb => by simp at hb; subst hb; exact hgB)).only ho5 (fun b hb => by simp at hb; subst hb; exact hgB)
        clear ho hor ho4 ho5 hs4 hs3
        unfold agStand
        go_wp2_with (at_builtin; refine wpList_append_one rfl _ _ 33 rfl (w.heap.size + 1) 25 i0 (.agg #[.string ⟨#[]⟩, .int .i64 0, .int .i64 0, .int .i64 0, .int .i64 0]) 5 48 Tryz.underlying33 hi hz0 hz1 hz2 rfl (by decide) u4 L.length _ rfl hoW [.string x.id, .int .i64 x.trees, .int .i64 x.height, .int .i64 x.cover, .int .i64 x.gap] rfl (by intro u hu; simp only [List.mem_cons, List.not_mem_nil, or_false] at hu; rcases hu with rfl | rfl | rfl | rfl | rfl <;> rfl) rfl (by omega) (by decide) hsz5 ?_)
        intro v' u hown hbu _ _
        have hoD : Own fStand u (w.heap.size + 1) 25 v' (L ++ [x]) := Own.push _ (by omega) hown
        clear hown
        go_wp2
        go_ret
        obtain ⟨fp, hsl, hlo, hnd⟩ := Sl.of_own (n := (L ++ [x]).length) rfl hoD (fun y hy => by
          rcases List.mem_append.1 hy with hy | hy
          · exact (hsm y hy).ok
          · rw [List.mem_singleton] at hy; subst hy; exact HX.ok)
        exact ⟨_, _, fp, rfl, hsl, fun b hb => Nat.le_trans (Nat.le_succ _) (hlo b hb), hnd, fun y hy => by
          rcases List.mem_append.1 hy with hy | hy
          · exact hsm y hy
          · rw [List.mem_singleton] at hy; subst hy; exact HX, by rw [List.length_append, List.length_singleton]; omega, (hs5.belowB hbu hgB).mono (by omega), hor2.then (hbu.mono (Nat.le_succ _))⟩
      · have e0 : (q == 0) = false := by rw [beq_eq_false_iff_ne]; exact hq0
        by_cases hq1 : q = 1
        · subst hq1
          have hBL : Below w3.heap.size w3 (w3.alloc (.cells #[.int .i64 16, .int .i64 17] 2)) := (Below.refl _ _).alloc (Nat.le_refl _) _
          have hgl := hs3.lt
          go_wp2_with fail
          refine (among_any _ g _ [16, 17] [w3.heap.size] _ (hs3.below hBL) (by omega) (slLitI w3 2 [16, 17] _ rfl (by decide) (by decide) (by decide) _ _ rfl rfl) (by simp; omega) (by decide) (by decide)).mono ?_
          rintro e w4 ⟨t, ht, rfl, hs4, ho4⟩
          have hor2 := hor.trans (Only.later hBL ho4)
          have hsz4 : w.heap.size + 1 ≤ w4.heap.size := by have := (Only.later hBL ho4).size; omega
          clear hBL hgl hor ho hs3 ho4
          obtain ⟨M, rfl⟩ : ∃ M : Nat, t = M := ⟨t.toNat, by simp at ht; omega⟩
          have hM : M ≤ 17 := by simp at ht; omega
          have hown : Own fStand (w4.alloc (.cells #[] 25)) (w.heap.size + 1) 25 (.slice (some ⟨w4.heap.size, 0, none⟩) 0 0) [] := Own.lit0m fStand hsz4
          have hB4 : Below w4.heap.size w4 (w4.alloc (.cells #[] 25)) := (Below.refl _ _).alloc (Nat.le_refl _) _
          replace hor2 := hor2.then (hB4.mono (Nat.le_trans (Nat.le_succ _) hsz4))
          replace hs4 := hs4.below hB4
          have hsz6 : w.heap.size + 1 ≤ (w4.alloc (.cells #[] 25)).heap.size := by simp; omega
          clear hB4 ht hsm hsz2 hsz4
          go_wp2
          rename World => wo
          go_loopw [4, 7] (fun v kv wr => ∃ (k : Nat) (X : List DStand), kv = .int .i64 k ∧ k ≤ M ∧ X.length = k ∧ Own fStand wr (w.heap.size + 1) 25 v X ∧ (∀ x ∈ X, SmStand x) ∧ SrcD (n + 400) g wr ∧ Only [g] w wr ∧ w.heap.size + 1 ≤ wr.heap.size) (fun _ kv _ => M - (intOf kv).toNat)
          case atStart => exact ⟨0, [], rfl, Nat.zero_le _, rfl, hown, by simp, hs4.mono (by omega), hor2, hsz6⟩
          case round =>
            clear hown hs4 hor2 hsz6
            obtain ⟨k, X, rfl, hk, hX, ho, hsm, hsr, hor, hsz2⟩ := hrel
            by_cases hlt : k < M
            · have hcv0 := oneByteS (97 + (k : Int)) wr
              obtain ⟨bt, hbt, hbz⟩ : ∃ bt : ByteArray, bt = ⟨#[UInt8.ofNat (97 + (k : Int)).toNat]⟩ ∧ bt.size = 1 := ⟨_, rfl, rfl⟩
              have hsmk := Lib.hid (manyStand k bt (by omega) hbz)
              have hk100 : k ≤ 20 := by omega
              have hBb : Below wr.heap.size wr (wr.alloc (.cells #[.int .u8 (97 + (k : Int))] 5)) := (Below.refl _ _).alloc (Nat.le_refl _) _
              have hcv := hcv0
              rw [← hbt] at hcv
              clear hcv0 hbt
              have hszb : w.heap.size + 1 ≤ (wr.alloc (.cells #[.int .u8 (97 + (k : Int))] 5)).heap.size := by simp; omega
              have hoW : (wr.alloc (.cells #[.int .u8 (97 + (k : Int))] 5)).ownsRow (w.heap.size + 1) 25 5 u4 X.length (X.flatMap fStand.enc) := ho.below hBb
              replace hsr := hsr.below hBb
              replace hor := hor.then (hBb.mono hor.size)
              clear ho hBb
              go_wp2_with (at_builtin; refine wpList_append_oneA (wr.heap.size + 1) (by simp) rfl _ _ 33 rfl (w.heap.size + 1) 25 i0 (.agg #[.string ⟨#[]⟩, .int .i64 0, .int .i64 0, .int .i64 0, .int .i64 0]) 5 48 Tryz.underlying33 hi hz0 hz1 hz2 rfl (by decide) u4 X.length _ rfl hoW [.string (⟨#[110]⟩ ++ bt), .int .i64 (100 * (k : Int)), .int .i64 900, .int .i64 (50 * (k : Int)), .int .i64 0] rfl (by intro u hu; simp only [List.mem_cons, List.not_mem_nil, or_false] at hu; rcases hu with rfl | rfl | rfl | rfl | rfl <;> rfl) rfl (by omega) (by decide) hszb ?_)
              intro v' u hown hbu _ _
              have hoD : Own fStand u (w.heap.size + 1) 25 v' (X ++ [⟨(⟨#[110]⟩ ++ bt), 100 * (k : Int), 900, 50 * (k : Int), 0⟩]) := Own.push _ (by omega) hown
              clear hown
              have hs5 := hsr.belowB hbu hgB
              have hor5 := hor.then (hbu.mono (Nat.le_succ _))
              have hsz6 : w.heap.size + 1 ≤ u.heap.size := Nat.le_trans hszb hbu.size
              go_wp2
              go_roundw
              case rel => exact ⟨k + 1, _, by go_num, by omega, by rw [List.length_append, hX, List.length_singleton], hoD, fun y hy => by
                rcases List.mem_append.1 hy with hy | hy
                · exact hsm y hy
                · rw [List.mem_singleton] at hy; subst hy; exact hsmk.out, hs5, hor5, hsz6⟩
              case measure => simp [intOf]; omega
            · obtain ⟨fp, hsl, hlo, hnd⟩ := Sl.of_own (n := X.length) rfl ho (fun y hy => (hsm y hy).ok)
              go_wp2
              go_ret
              exact ⟨_, _, fp, rfl, hsl, fun b hb => Nat.le_trans (Nat.le_succ _) (hlo b hb), hnd, hsm, by omega, hsr.mono (by omega), hor⟩
        · have e1 : (q == 1) = false := by rw [beq_eq_false_iff_ne]; exact hq1
          obtain ⟨fp, hsl, hlo, hnd⟩ := Sl.of_own (n := L.length) rfl ho (fun y hy => (hsm y hy).ok)
          go_wp2
          go_ret
          exact ⟨_, _, fp, rfl, hsl, fun b hb => Nat.le_trans (Nat.le_succ _) (hlo b hb), hnd, hsm, by omega, hs3.mono (by omega), hor⟩

end Go.Proofs.YtphljobklilbdaaGreatDoor

namespace Go.Proofs.YtphljobklilbdaaGreatDoor
open Go.RowKit
set_option linter.unusedVariables false
set_option linter.unusedSimpArgs false

set_option maxRecDepth 100000 in
set_option maxHeartbeats 2000000 in
theorem l10DrawLeast_any (n g : Nat) (w : World) (hs : SrcD n g w) (hn : n ≤ 999999990000) :
    Calls Tryz.prog 22 #[.pointer (some ⟨g, 0, none⟩)] w fun e w' => ∃ t : Int, e = .returned (.int .i64 t) ∧ (-1 ≤ t ∧ t ≤ 1001) ∧ SrcD (n + 2) g w' ∧ Only [g] w w' := by
  go_enter Tryz.func22, Tryz.ntmps22
  have hBL : Below w.heap.size w (w.alloc (.cells #[.int .i64 0, .int .i64 100, .int .i64 300, .int .i64 500, .int .i64 700, .int .i64 1000, .int .i64 1001, .int .i64 (-1)] 2)) := (Below.refl _ _).alloc (Nat.le_refl _) _
  have hgl := hs.lt
  go_wp2_with fail
  refine (among_any _ g _ [0, 100, 300, 500, 700, 1000, 1001, -1] [w.heap.size] _ (hs.below hBL) (by omega) (slLitI w 2 [0, 100, 300, 500, 700, 1000, 1001, -1] _ rfl (by decide) (by decide) (by decide) _ _ rfl rfl) (by simp; omega) (by decide) (by decide)).mono ?_

  rintro e w2 ⟨t, ht, rfl, hs2, ho2⟩
  have htb : -1 ≤ t ∧ t ≤ 1001 := by simp at ht; omega
  go_wp2
  go_ret
  exact ⟨t, rfl, htb, hs2, Only.later hBL ho2⟩
set_option maxRecDepth 100000 in
set_option maxHeartbeats 2000000 in
theorem l10DrawSnow_any (n g : Nat) (w : World) (hs : SrcD n g w) (hn : n ≤ 999999990000) :
    Calls Tryz.prog 21 #[.pointer (some ⟨g, 0, none⟩)] w fun e w' => ∃ t : Int, e = .returned (.int .i64 t) ∧ (-1 ≤ t ∧ t ≤ 2001) ∧ SrcD (n + 6) g w' ∧ Only [g] w w' := by
  go_enter Tryz.func21, Tryz.ntmps21
  go_wp2_with fail
  refine (one_any _ g 9 _ hs (by omega) (by omega)).mono ?_
  rintro e w1 ⟨b, rfl, hs1, ho1⟩
  cases b
  · go_wp2_with fail
    refine (pick_any _ g 80 _ hs1 (by omega) (by omega)).mono ?_
    rintro e w2 ⟨q, rfl, ⟨q0, q1, _⟩, hs2, ho2⟩
    replace q1 := q1 (by omega)
    go_wp2
    go_ret
    exact ⟨10 * q, rfl, by omega, hs2.mono (by omega), ho1.trans ho2⟩
  · skip
    have hBL : Below w1.heap.size w1 (w1.alloc (.cells #[.int .i64 (-1), .int .i64 0, .int .i64 2000, .int .i64 2001] 2)) := (Below.refl _ _).alloc (Nat.le_refl _) _
    have hgl := hs1.lt
    go_wp2_with fail
    refine (among_any _ g _ [-1, 0, 2000, 2001] [w1.heap.size] _ (hs1.below hBL) (by omega) (slLitI w1 2 [-1, 0, 2000, 2001] _ rfl (by decide) (by decide) (by decide) _ _ rfl rfl) (by simp; omega) (by decide) (by decide)).mono ?_

    rintro e w2 ⟨t, ht, rfl, hs2, ho2⟩
    have htb : -1 ≤ t ∧ t ≤ 2001 := by simp at ht; omega
    go_wp2
    go_ret
    exact ⟨t, rfl, htb, hs2.mono (by omega), ho1.trans (Only.later hBL ho2)⟩
set_option maxRecDepth 100000 in
set_option maxHeartbeats 4000000 in
theorem DrawWeakestStand_any (v : Value) (xs : List UInt8) (fp : List Nat) (w : World) (hx : Sl fByte.cod w v xs fp) :
    Calls Tryz.prog 13 #[v] w fun e w' => ∃ (y : Value) (ys : List DStand) (fq : List Nat) (t : Int), e = .returned (.tuple #[y, .int .i64 t]) ∧ Sl fStand.cod w' y ys fq ∧ ys.length ≤ 70 ∧ (-1 ≤ t ∧ t ≤ 2001) ∧ Below w.heap.size w w' := by
  go_enter Tryz.func13, Tryz.ntmps13
  go_wp2_with fail
  refine (l00From_any v xs fp _ hx).mono ?_
  rintro e w1 ⟨rfl, hs, hb1⟩
  have hgw := Nat.le_refl w.heap.size
  generalize hg0 : w.heap.size = g at hs hgw ⊢
  have hge : w.heap.size ≤ g := by omega
  clear hg0 hgw
  have hof : ∀ b ∈ [g], w.heap.size ≤ b := by simp; omega
  clear hx
  go_wp2_with fail
  refine (l10Draw_any _ g _ hs (by omega)).mono ?_
  rintro e w2 ⟨y, ys, fq, rfl, hsl, hlo, hnd, hsm, hl, hs2, ho2⟩
  have hg1 := hs.lt
  have hgq : ∀ b ∈ fq, b ∉ [g] := fun b hb => by have := hlo b hb; simp; omega
  obtain ⟨A, cap, rfl, _, _⟩ := hsl.form
  have hB2 : Below w.heap.size w w2 := hb1.trans (ho2.below hb1.size hof)
  clear hs hlo hnd hb1 ho2 hsm
  go_wp2_with fail
  refine (l10DrawSnow_any _ g _ hs2 (by omega)).mono ?_
  rintro e w3 ⟨t, rfl, ht, hs3, ho3⟩
  replace hsl := hsl.only ho3 hgq
  replace hB2 := hB2.trans (ho3.below hB2.size hof)
  go_wp2
  go_ret2
  exact ⟨_, ys, fq, t, rfl, hsl, hl, ht, hB2⟩
theorem PStand.farS {V : World} {g b : Nat} {x : DStand} (h : PStand V b 0 x) (hne : b ≠ g) (j : Nat) (v : Value) : PStand (V.setCell ⟨g, j, none⟩ v) b 0 x := by
  have k : ∀ i, (V.setCell ⟨g, j, none⟩ v).cell? ⟨b, i, none⟩ = V.cell? ⟨b, i, none⟩ := fun i => World.cell?_setCell_far V ⟨g, j, none⟩ ⟨b, i, none⟩ v (fun e => hne e.symm)
  exact ⟨(k _).trans h.c0, (k _).trans h.c1, (k _).trans h.c2, (k _).trans h.c3, (k _).trans h.c4⟩
set_option maxRecDepth 100000 in
set_option maxHeartbeats 8000000 in
theorem DrawMostFelled_any (v : Value) (xs : List UInt8) (fp : List Nat) (w : World) (hx : Sl fByte.cod w v xs fp) :
    Calls Tryz.prog 5 #[v] w fun e w' => ∃ (x : DStand) (sn t : Int), e = .returned (.tuple #[agStand x, .int .i64 sn, .int .i64 t]) ∧ SmStand x ∧ (-1 ≤ sn ∧ sn ≤ 2001) ∧ (-1 ≤ t ∧ t ≤ 1001) ∧ Below w.heap.size w w' := by
  have hB0 : Below w.heap.size w (w.alloc (.cells #[.string ⟨#[]⟩, .int .i64 0, .int .i64 0, .int .i64 0, .int .i64 0] 25)) := (Below.refl _ _).alloc (Nat.le_refl _) _
  go_enter Tryz.func5, Tryz.ntmps5
  go_wp2_with fail
  refine (l00From_any v xs fp _ (hx.below' hB0)).mono ?_
  rintro e w1 ⟨rfl, hs, hb1⟩
  have hbx := (BxStand.new w 25).belowB hb1 (by simp)
  have hB1 := hB0.trans (hb1.mono (by simp))
  have hgw : w.heap.size < (w.alloc (.cells #[.string ⟨#[]⟩, .int .i64 0, .int .i64 0, .int .i64 0, .int .i64 0] 25)).heap.size := by simp
  generalize (w.alloc (.cells #[.string ⟨#[]⟩, .int .i64 0, .int .i64 0, .int .i64 0, .int .i64 0] 25)).heap.size = g at *
  have hof : ∀ b ∈ [g], w.heap.size ≤ b := by simp; omega
  clear hB0 hb1 hx
  go_wp2_with fail
  refine (l10DrawOne_any _ g ⟨#[102, 105, 114]⟩ _ hs (by omega) (by decide)).mono ?_
  rintro e w2 ⟨x0, rfl, hx0, hs2, ho2⟩
  go_wp2_with fail
  refine (l10Bend_any _ g x0 _ hs2 (by omega) hx0).mono ?_
  rintro e w3 ⟨x, rfl, HX, hs3, ho3⟩
  replace hbx := hbx.keep ((ho2.trans ho3).block w.heap.size hbx.lt (by simp; omega))
  have hB3 := hB1.trans ((ho2.trans ho3).below hB1.size hof)
  have hAl : Below w3.heap.size w3 (w3.alloc (.cells #[.string x.id, .int .i64 x.trees, .int .i64 x.height, .int .i64 x.cover, .int .i64 x.gap] 25)) := (Below.refl _ _).alloc (Nat.le_refl _) _
  have hbb : w.heap.size < w3.heap.size := hbx.lt
  have hgb : g < w3.heap.size := hs3.lt
  have hpx := PStand.box w3 x 25
  replace hbx := hbx.belowB hAl hbx.lt
  have hs4 := hs3.below hAl
  have hB4 := hB3.trans (hAl.mono hB3.size)
  clear ho2 ho3 hs hs2 hB1 hx0 hAl hs3 hB3
  unfold agStand
  go_wp2_with fail
  refine (l10DrawSnow_any _ g _ hs4 (by omega)).mono ?_
  rintro e w5 ⟨sn, rfl, hsn, hs5, ho5⟩
  replace hpx := hpx.keepB (ho5.block w3.heap.size hpx.lt (by simp; omega))
  replace hbx := hbx.keep (ho5.block w.heap.size hbx.lt (by simp; omega))
  have hB5 := hB4.trans (ho5.below hB4.size hof)
  clear hs4 ho5 hB4
  generalize w3.heap.size = b at *
  clear w3 w2
  go_upto_region 4 with fail
  refine at_world (fun W => PStand W b 0 x ∧ SrcD (0 + 20 + 20 + 6) g W ∧ BxStand W w.heap.size ∧ Below w.heap.size w W) ⟨hpx, hs5, hbx, hB5⟩ ?_
  clear hpx hs5 hbx hB5 w5
  rintro V ⟨hP, hs4, hbx, hB⟩
  have hX0 : PStand V.drew b 0 x := hP.drewN 1
  have hbxd : BxStand V.drew w.heap.size := hbx.belowB (Below.drew (Below.refl _ _)) hbx.lt
  have hsd := hs4.below (Below.drew (Below.refl _ _))
  have hbW : w.heap.size ≤ V.heap.size := hB.size
  clear hP hs4 hbx
  have gk0 : ∀ p : KeptW (w.heap.size) V (fun N => PStand N b 0 x), p.v.cell? ⟨b, 0, none⟩ = some (.string x.id) := fun p => p.x.c0
  have gk1 : ∀ p : KeptW (w.heap.size) V (fun N => PStand N b 0 x), p.v.cell? ⟨b, 1, none⟩ = some (.int .i64 x.trees) := fun p => p.x.c1
  have gk2 : ∀ p : KeptW (w.heap.size) V (fun N => PStand N b 0 x), p.v.cell? ⟨b, 2, none⟩ = some (.int .i64 x.height) := fun p => p.x.c2
  have gk3 : ∀ p : KeptW (w.heap.size) V (fun N => PStand N b 0 x), p.v.cell? ⟨b, 3, none⟩ = some (.int .i64 x.cover) := fun p => p.x.c3
  have gk4 : ∀ p : KeptW (w.heap.size) V (fun N => PStand N b 0 x), p.v.cell? ⟨b, 4, none⟩ = some (.int .i64 x.gap) := fun p => p.x.c4
  haveI hKne : Nonempty (KeptW (w.heap.size) V (fun N => PStand N b 0 x)) := ⟨⟨_, Below.drew (Below.refl _ _), hX0⟩⟩
  refine wp_region_mix (C := fun w' => ∃ p : KeptW (w.heap.size) V (fun N => PStand N b 0 x), w' = p.v) [true, true, true, false, false, true, true] (by kernel_rfl) (by kernel_rfl) (by kernel_rfl) (fun _ _ d _ _ h => by cases d <;> exact h) ⟨⟨_, Below.drew (Below.refl _ _), hX0⟩, rfl⟩ ?_
  have hS0 : Below (w.heap.size) V V.drew := Below.drew (Below.refl _ _)
  refine wpMix_pure (by kernel_rfl) (fun K hK => ?_); go_big_quiet_op; refine hK _ ?_; clear hK K
  refine wpMix_pure (by kernel_rfl) (fun K hK => ?_); go_big_quiet_op; refine hK _ ?_; clear hK K
  refine wpMix_pure (by kernel_rfl) (fun K hK => ?_); go_big_quiet_op; refine hK _ ?_; clear hK K
  refine wpMix_act (by kernel_rfl) (fun K hK => ?_)
  go_big_op
  refine (l10DrawLeast_any _ g _ hsd (by omega)).mono ?_
  rintro e u ⟨t, rfl, ht, hsN, hoN⟩
  have hXM := hX0.keepB (hoN.block b hX0.lt (by simp; omega))
  have hbxM := hbxd.keep (hoN.block w.heap.size hbxd.lt (by simp; omega))
  have hbu : Below w.heap.size _ u := hoN.below (by have := hS0.size; omega) (by intro b hb; simp at hb; subst hb; omega)
  have hbuS : Below (w.heap.size) V u := hS0.trans hbu
  try simp only [Act.put, List.setIfInBounds_toArray, List.set_cons_zero, List.set_cons_succ]
  refine hK _ _ ⟨⟨_, hbuS, hXM⟩, rfl⟩ ?_
  clear hK K
  refine wpMix_act (by kernel_rfl) (fun K hK => ?_)
  obtain ⟨UU, rfl⟩ : ∃ N, N = u := ⟨u, rfl⟩
  obtain ⟨d0, d1, d2, d3, d4, z0, z1, z2, z3, z4⟩ := id hbxM
  go_big_op
  have hbu : Below w.heap.size UU (((((UU.setCell ⟨w.heap.size, 0, none⟩ (.string x.id)).setCell ⟨w.heap.size, 1, none⟩ (.int .i64 x.trees)).setCell ⟨w.heap.size, 2, none⟩ (.int .i64 x.height)).setCell ⟨w.heap.size, 3, none⟩ (.int .i64 x.cover)).setCell ⟨w.heap.size, 4, none⟩ (.int .i64 x.gap)) := ((((((Below.refl w.heap.size UU).setCell (p := ⟨w.heap.size, 0, none⟩) (Nat.le_refl _) _).setCell (p := ⟨w.heap.size, 1, none⟩) (Nat.le_refl _) _).setCell (p := ⟨w.heap.size, 2, none⟩) (Nat.le_refl _) _).setCell (p := ⟨w.heap.size, 3, none⟩) (Nat.le_refl _) _).setCell (p := ⟨w.heap.size, 4, none⟩) (Nat.le_refl _) _)
  have hPr : PStand (((((UU.setCell ⟨w.heap.size, 0, none⟩ (.string x.id)).setCell ⟨w.heap.size, 1, none⟩ (.int .i64 x.trees)).setCell ⟨w.heap.size, 2, none⟩ (.int .i64 x.height)).setCell ⟨w.heap.size, 3, none⟩ (.int .i64 x.cover)).setCell ⟨w.heap.size, 4, none⟩ (.int .i64 x.gap)) w.heap.size 0 x := ((((((show PStand UU w.heap.size 0 ⟨⟨#[]⟩, 0, 0, 0, 0⟩ from ⟨hbxM.d0, hbxM.d1, hbxM.d2, hbxM.d3, hbxM.d4⟩).vset0 x.id).vset1 x.trees).vset2 x.height).vset3 x.cover).vset4 x.gap)
  have hXQ : PStand (((((UU.setCell ⟨w.heap.size, 0, none⟩ (.string x.id)).setCell ⟨w.heap.size, 1, none⟩ (.int .i64 x.trees)).setCell ⟨w.heap.size, 2, none⟩ (.int .i64 x.height)).setCell ⟨w.heap.size, 3, none⟩ (.int .i64 x.cover)).setCell ⟨w.heap.size, 4, none⟩ (.int .i64 x.gap)) b 0 x := (PStand.farS (PStand.farS (PStand.farS (PStand.farS (PStand.farS hXM (show b ≠ w.heap.size by omega) 0 _) (show b ≠ w.heap.size by omega) 1 _) (show b ≠ w.heap.size by omega) 2 _) (show b ≠ w.heap.size by omega) 3 _) (show b ≠ w.heap.size by omega) 4 _)
  clear hXM hbxM d0 d1 d2 d3 d4 z0 z1 z2 z3 z4
  revert hbu hPr hXQ
  generalize (((((UU.setCell ⟨w.heap.size, 0, none⟩ (.string x.id)).setCell ⟨w.heap.size, 1, none⟩ (.int .i64 x.trees)).setCell ⟨w.heap.size, 2, none⟩ (.int .i64 x.height)).setCell ⟨w.heap.size, 3, none⟩ (.int .i64 x.cover)).setCell ⟨w.heap.size, 4, none⟩ (.int .i64 x.gap)) = u
  intro hbu hPr hXM
  have hbuS : Below (w.heap.size) V u := hbuS.trans hbu
  try simp only [Act.put, List.setIfInBounds_toArray, List.set_cons_zero, List.set_cons_succ]
  refine hK _ _ ⟨⟨_, hbuS, hXM⟩, rfl⟩ ?_
  clear hK K
  refine wpMix_pure (by kernel_rfl) (fun K hK => ?_); go_big_quiet_op; refine hK _ ?_; clear hK K
  refine wpMix_pure (by kernel_rfl) (fun K hK => ?_); go_big_quiet_op; refine hK _ ?_; clear hK K
  refine wpMix_nil ?_
  have hB9 := hB.trans (hbuS.mono (Nat.le_refl _))
  obtain ⟨k0, k1, k2, k3, k4⟩ := hPr
  go_wp2
  exact bodyPost_ret (v := .tuple #[agStand x, .int .i64 sn, .int .i64 t]) (by simp [agStand, results, k0, k1, k2, k3, k4, Tryz.results5, go_sem]) rfl ⟨x, sn, t, rfl, HX, hsn, ht, hB9⟩
theorem infoI64P : (Tryz.prog.info? 2).map (fun i => (i.zero, i.size, i.bytes)) = some (some (.int .i64 0), 1, 8) := by kernel_rfl
set_option maxRecDepth 100000 in
set_option maxHeartbeats 16000000 in
theorem DrawPlantBest_any (v : Value) (xs : List UInt8) (fp : List Nat) (w : World) (hx : Sl fByte.cod w v xs fp) :
    Calls Tryz.prog 9 #[v] w fun e w' => ∃ (y c : Value) (ys : List DStand) (cs : List Int) (fq fc : List Nat) (mo sn le bu : Int), e = .returned (.tuple #[y, c, .int .i64 mo, .int .i64 sn, .int .i64 le, .int .i64 bu]) ∧ Sl fStand.cod w' y ys fq ∧ Sl fInt.cod w' c cs fc ∧ ys.length ≤ 70 ∧ cs.length ≤ 71 ∧ (∀ z ∈ cs, -1 ≤ z ∧ z ≤ 1000001) ∧ (-1 ≤ mo ∧ mo ≤ 100000001) ∧ (-1 ≤ sn ∧ sn ≤ 2001) ∧ (-1 ≤ le ∧ le ≤ 1001) ∧ (0 ≤ bu ∧ bu ≤ 20001) ∧ Below w.heap.size w w' := by
  obtain ⟨j0, hj, hy0, hy1, hy2⟩ := info_parts infoI64P
  go_enter Tryz.func9, Tryz.ntmps9
  go_wp2_with fail
  refine (l00From_any v xs fp _ hx).mono ?_
  rintro e w1 ⟨rfl, hs, hb1⟩
  have hgw := Nat.le_refl w.heap.size
  generalize hg0 : w.heap.size = g at hs hgw ⊢
  have hge : w.heap.size ≤ g := by omega
  clear hg0 hgw
  have hof : ∀ b ∈ [g], w.heap.size ≤ b := by simp; omega
  clear hx
  go_wp2_with fail
  refine (l10Draw_any _ g _ hs (by omega)).mono ?_
  rintro e w2 ⟨y, ys, fq, rfl, hsl, hlo, hnd, hsm, hl, hs2, ho2⟩
  have hg1 := hs.lt
  have hgq : ∀ b ∈ fq, b ∉ [g] := fun b hb => by have := hlo b hb; simp; omega
  obtain ⟨A, cap, rfl, _, _⟩ := hsl.form
  have hB2 : Below w.heap.size w w2 := hb1.trans (ho2.below hb1.size hof)
  have hgB0 : g < w2.heap.size := hs2.lt
  have hgB : ∀ b ∈ [g], b < w2.heap.size := fun b hb => by simp at hb; subst hb; exact hgB0
  have hBm : Below w2.heap.size w2 (w2.alloc (.cells #[] 2)) := (Below.refl _ _).alloc (Nat.le_refl _) _
  have hom := Own.lit0 fInt w2 2
  have hflq := hsl.lt
  replace hs2 := hs2.below hBm
  replace hsl := hsl.below' hBm
  have hsz := hB2.size
  replace hB2 := hB2.trans (hBm.mono hsz)
  have hszm := hBm.size
  clear hs hlo hnd hb1 ho2 hsm hBm
  go_wp2
  go_loopw [10, 11] (fun c i wr => ∃ (k : Nat) (X : List Int), i = .int .i64 k ∧ k ≤ ys.length ∧ X.length = k ∧ Own fInt wr w2.heap.size 2 c X ∧ (∀ z ∈ X, -1 ≤ z ∧ z ≤ 1000001) ∧ SrcD (2000 + 4 * k) g wr ∧ Sl fStand.cod wr (.slice A ys.length cap) ys fq ∧ Below w.heap.size w wr ∧ w2.heap.size ≤ wr.heap.size) (fun _ i _ => ys.length - (intOf i).toNat)
  case atStart => exact ⟨0, [], rfl, Nat.zero_le _, rfl, hom, by simp, hs2.mono (by omega), hsl, hB2, hszm⟩
  case round =>
    clear hom hs2 hsl hB2 hszm
    obtain ⟨k, X, rfl, hk, hX, ho, hz, hsr, hsl, hB, hszr⟩ := hrel
    rename World => wr
    by_cases hlt : k < ys.length
    · have hlt9 : (k : Int) < (ys.length : Int) := by omega
      go_wp2_with fail
      refine (pick_any _ g 40 _ hsr (by omega) (by omega)).mono ?_
      rintro e w3 ⟨q, rfl, ⟨q0, q1, _⟩, hs3, ho3⟩
      replace q1 := q1 (by omega)
      have hsl3 := hsl.only ho3 hgq
      have hB3 := hB.trans (ho3.below hB.size hof)
      have hsz3 : w2.heap.size ≤ w3.heap.size := by have := ho3.size; omega
      have hoW : w3.ownsRow w2.heap.size 2 1 u10 X.length (X.flatMap fInt.enc) := ho.only ho3 hgB
      clear ho ho3 hsr hsl hB
      have hX1 : X.length ≤ 70 := by omega
      have hX2 := Lib.hid hX
      clear hX
      go_wp2_with (at_builtin; refine wpList_append_one rfl _ _ 34 rfl w2.heap.size 2 j0 (.int .i64 0) 1 8 Tryz.underlying34 hj hy0 hy1 hy2 rfl (by decide) u10 (X).length _ rfl hoW [.int .i64 (100 * q)] rfl (by intro u hu; rw [List.mem_singleton] at hu; subst hu; rfl) rfl (by omega) (by decide) hsz3 ?_)
      intro v' u hown hbu _ _
      have hoD : Own fInt u w2.heap.size 2 v' (X ++ [100 * q]) := Own.push _ (by omega) hown
      clear hown
      have hs5 := hs3.belowB hbu hgB0
      have hsl5 := hsl3.below hbu hflq
      have hB5 := hB3.trans (hbu.mono hsz)
      have hsz5 := Nat.le_trans hsz3 hbu.size
      go_wp2
      go_roundw
      case rel => exact ⟨k + 1, _, by go_num, by omega, by rw [List.length_append, List.length_singleton, hX2.out], hoD, fun z hz' => by
        rcases List.mem_append.1 hz' with h | h
        · exact hz z h
        · rw [List.mem_singleton] at h; subst h; omega, hs5.mono (by omega), hsl5, hB5, hsz5⟩
      case measure => simp [intOf]; omega
    · obtain rfl : k = ys.length := by omega
      have hXl : X.length ≤ 71 := by omega
      have hX1 : X.length ≤ 70 := by omega
      clear hlt hk hX
      go_wp2_with fail
      refine (pick_any _ g 16 _ hsr (by omega) (by omega)).mono ?_
      rintro e w3 ⟨q, rfl, ⟨q0, q1, _⟩, hs3, ho3⟩
      replace q1 := q1 (by omega)
      replace hsl := hsl.only ho3 hgq
      replace hB := hB.trans (ho3.below hB.size hof)
      replace ho := ho.only ho3 hgB
      replace hszr := Nat.le_trans hszr ho3.size
      clear ho3 hsr
      by_cases hq0 : q = 0
      · subst hq0
        have hoW : w3.ownsRow w2.heap.size 2 1 u10 X.length (X.flatMap fInt.enc) := ho
        clear ho
        go_wp2_with (at_builtin; refine wpList_append_one rfl _ _ 34 rfl w2.heap.size 2 j0 (.int .i64 0) 1 8 Tryz.underlying34 hj hy0 hy1 hy2 rfl (by decide) u10 (X).length _ rfl hoW [.int .i64 (0)] rfl (by intro u hu; rw [List.mem_singleton] at hu; subst hu; rfl) rfl (by omega) (by decide) hszr ?_)
        intro v' u hown hbu _ _
        have ho : Own fInt u w2.heap.size 2 v' (X ++ [0]) := Own.push _ (by omega) hown
        clear hown hoW
        have hs5 := hs3.belowB hbu hgB0
        replace hsl := hsl.below hbu hflq
        replace hB := hB.trans (hbu.mono hsz)
        replace hz : ∀ z ∈ X ++ [0], -1 ≤ z ∧ z ≤ 1000001 := fun z hz' => by
          rcases List.mem_append.1 hz' with h | h
          · exact hz z h
          · rw [List.mem_singleton] at h; subst h; omega
        replace hXl : (X ++ [0]).length ≤ 71 := by rw [List.length_append, List.length_singleton]; omega
        clear hs3 hbu hX1
        generalize X ++ [0] = X2 at *
        have hBL : Below u.heap.size u (u.alloc (.cells #[.int .i64 0, .int .i64 2000, .int .i64 4000, .int .i64 8000, .int .i64 100000000, .int .i64 100000001, .int .i64 (-1)] 2)) := (Below.refl _ _).alloc (Nat.le_refl _) _
        have hgl := hs5.lt
        go_wp2_with fail
        refine (among_any _ g _ [0, 2000, 4000, 8000, 100000000, 100000001, -1] [u.heap.size] _ (hs5.below hBL) (by omega) (slLitI u 2 [0, 2000, 4000, 8000, 100000000, 100000001, -1] _ rfl (by decide) (by decide) (by decide) _ _ rfl rfl) (by simp; omega) (by decide) (by decide)).mono ?_
        rintro e w21 ⟨mo, hmo, rfl, hs21, hoN⟩
        replace hoN := Only.later hBL hoN
        replace hsl := hsl.only hoN hgq
        replace hB := hB.trans (hoN.below hB.size hof)
        replace ho := ho.only hoN hgB
        clear hs5 hoN hBL hgl
        have hmo2 : -1 ≤ mo ∧ mo ≤ 100000001 := by simp at hmo; omega
        clear hmo
        go_wp2_with fail
        refine (l10DrawSnow_any _ g _ hs21 (by omega)).mono ?_
        rintro e w22 ⟨sn, rfl, hsn, hs22, hoN⟩
        replace hsl := hsl.only hoN hgq
        replace hB := hB.trans (hoN.below hB.size hof)
        replace ho := ho.only hoN hgB
        clear hs21 hoN
        go_wp2_with fail
        refine (l10DrawLeast_any _ g _ hs22 (by omega)).mono ?_
        rintro e w23 ⟨le, rfl, hle, hs23, hoN⟩
        replace hsl := hsl.only hoN hgq
        replace hB := hB.trans (hoN.below hB.size hof)
        replace ho := ho.only hoN hgB
        clear hs22 hoN
        have hBL : Below w23.heap.size w23 (w23.alloc (.cells #[.int .i64 1, .int .i64 10, .int .i64 40, .int .i64 100, .int .i64 2000, .int .i64 0, .int .i64 20001] 2)) := (Below.refl _ _).alloc (Nat.le_refl _) _
        have hgl := hs23.lt
        go_wp2_with fail
        refine (among_any _ g _ [1, 10, 40, 100, 2000, 0, 20001] [w23.heap.size] _ (hs23.below hBL) (by omega) (slLitI w23 2 [1, 10, 40, 100, 2000, 0, 20001] _ rfl (by decide) (by decide) (by decide) _ _ rfl rfl) (by simp; omega) (by decide) (by decide)).mono ?_
        rintro e w24 ⟨bu, hbu, rfl, hs24, hoN⟩
        replace hoN := Only.later hBL hoN
        replace hsl := hsl.only hoN hgq
        replace hB := hB.trans (hoN.below hB.size hof)
        replace ho := ho.only hoN hgB
        clear hs23 hoN hBL hgl
        have hbu2 : 0 ≤ bu ∧ bu ≤ 20001 := by simp at hbu; omega
        clear hbu
        obtain ⟨fc, hsc, _, _⟩ := Sl.of_own (n := (X2).length) rfl ho (fun z hz9 => by have := hz z hz9; show _ ∧ _; omega)
        obtain ⟨A9, c9, rfl, _, _⟩ := hsc.form
        go_wp2
        exact bodyPost_ret (v := .tuple #[.slice A ys.length cap, .slice A9 (X2).length c9, .int .i64 mo, .int .i64 sn, .int .i64 le, .int .i64 bu]) (by simp [results, Tryz.results9, go_sem]) rfl ⟨_, _, ys, X2, fq, fc, mo, sn, le, bu, rfl, hsl, hsc, hl, hXl, hz, hmo2, hsn, hle, hbu2, hB⟩
      · have e0 : (q == 0) = false := by rw [beq_eq_false_iff_ne]; exact hq0
        by_cases hq1 : q = 1
        · subst hq1
          obtain ⟨Ac, cc, rfl⟩ : ∃ Ac cc, u10 = .slice Ac X.length cc := by
            rcases ho.2 with ⟨h, h2⟩ | ⟨g', cap', cur, h, _⟩
            · exact ⟨none, 0, by rw [h, h2]⟩
            · exact ⟨_, cap', h⟩
          rcases Nat.eq_zero_or_pos X.length with h0 | h0
          · have e9 : ((X.length : Nat) : Int) ≤ 0 := by omega
            have H0 := Lib.hid h0
            clear h0
            have hBL : Below w3.heap.size w3 (w3.alloc (.cells #[.int .i64 0, .int .i64 2000, .int .i64 4000, .int .i64 8000, .int .i64 100000000, .int .i64 100000001, .int .i64 (-1)] 2)) := (Below.refl _ _).alloc (Nat.le_refl _) _
            have hgl := hs3.lt
            go_wp2_with fail
            refine (among_any _ g _ [0, 2000, 4000, 8000, 100000000, 100000001, -1] [w3.heap.size] _ (hs3.below hBL) (by omega) (slLitI w3 2 [0, 2000, 4000, 8000, 100000000, 100000001, -1] _ rfl (by decide) (by decide) (by decide) _ _ rfl rfl) (by simp; omega) (by decide) (by decide)).mono ?_
            rintro e w21 ⟨mo, hmo, rfl, hs21, hoN⟩
            replace hoN := Only.later hBL hoN
            replace hsl := hsl.only hoN hgq
            replace hB := hB.trans (hoN.below hB.size hof)
            replace ho := ho.only hoN hgB
            clear hs3 hoN hBL hgl
            have hmo2 : -1 ≤ mo ∧ mo ≤ 100000001 := by simp at hmo; omega
            clear hmo
            go_wp2_with fail
            refine (l10DrawSnow_any _ g _ hs21 (by omega)).mono ?_
            rintro e w22 ⟨sn, rfl, hsn, hs22, hoN⟩
            replace hsl := hsl.only hoN hgq
            replace hB := hB.trans (hoN.below hB.size hof)
            replace ho := ho.only hoN hgB
            clear hs21 hoN
            go_wp2_with fail
            refine (l10DrawLeast_any _ g _ hs22 (by omega)).mono ?_
            rintro e w23 ⟨le, rfl, hle, hs23, hoN⟩
            replace hsl := hsl.only hoN hgq
            replace hB := hB.trans (hoN.below hB.size hof)
            replace ho := ho.only hoN hgB
            clear hs22 hoN
            have hBL : Below w23.heap.size w23 (w23.alloc (.cells #[.int .i64 1, .int .i64 10, .int .i64 40, .int .i64 100, .int .i64 2000, .int .i64 0, .int .i64 20001] 2)) := (Below.refl _ _).alloc (Nat.le_refl _) _
            have hgl := hs23.lt
            go_wp2_with fail
            refine (among_any _ g _ [1, 10, 40, 100, 2000, 0, 20001] [w23.heap.size] _ (hs23.below hBL) (by omega) (slLitI w23 2 [1, 10, 40, 100, 2000, 0, 20001] _ rfl (by decide) (by decide) (by decide) _ _ rfl rfl) (by simp; omega) (by decide) (by decide)).mono ?_
            rintro e w24 ⟨bu, hbu, rfl, hs24, hoN⟩
            replace hoN := Only.later hBL hoN
            replace hsl := hsl.only hoN hgq
            replace hB := hB.trans (hoN.below hB.size hof)
            replace ho := ho.only hoN hgB
            clear hs23 hoN hBL hgl
            have hbu2 : 0 ≤ bu ∧ bu ≤ 20001 := by simp at hbu; omega
            clear hbu
            obtain ⟨fc, hsc, _, _⟩ := Sl.of_own (n := (X).length) rfl ho (fun z hz9 => by have := hz z hz9; show _ ∧ _; omega)
            go_wp2
            exact bodyPost_ret (v := .tuple #[.slice A ys.length cap, .slice Ac X.length cc, .int .i64 mo, .int .i64 sn, .int .i64 le, .int .i64 bu]) (by simp [results, Tryz.results9, go_sem]) rfl ⟨_, _, ys, X, fq, fc, mo, sn, le, bu, rfl, hsl, hsc, hl, hXl, hz, hmo2, hsn, hle, hbu2, hB⟩
          · have e9 : 0 < ((X.length : Nat) : Int) := by omega
            have hBL : Below w3.heap.size w3 (w3.alloc (.cells #[.int .i64 (-1), .int .i64 0, .int .i64 1000000, .int .i64 1000001] 2)) := (Below.refl _ _).alloc (Nat.le_refl _) _
            have hgl := hs3.lt
            go_wp2_with fail
            refine (among_any _ g _ [-1, 0, 1000000, 1000001] [w3.heap.size] _ (hs3.below hBL) (by omega) (slLitI w3 2 [-1, 0, 1000000, 1000001] _ rfl (by decide) (by decide) (by decide) _ _ rfl rfl) (by simp; omega) (by decide) (by decide)).mono ?_
            rintro e w4 ⟨t, ht, rfl, hs4, hoN⟩
            have htb : -1 ≤ t ∧ t ≤ 1000001 := by simp at ht; omega
            replace hoN := Only.later hBL hoN
            replace hsl := hsl.only hoN hgq
            replace hB := hB.trans (hoN.below hB.size hof)
            replace ho : Own fInt w4 w2.heap.size 2 (.slice Ac X.length cc) X := ho.only hoN hgB
            clear hs3 hoN hBL hgl ht
            obtain ⟨gc, rfl, hgc⟩ : ∃ gc, Ac = some ⟨gc, 0, none⟩ ∧ w2.heap.size ≤ gc := by
              rcases ho.2 with ⟨h, _⟩ | ⟨g', cap', cur, h, hg', _⟩
              · injection h with _ h _; omega
              · injection h with h _ _; exact ⟨g', h, hg'⟩
            have zc := ho.frozenF 0
            have cc0 : w4.cell? ⟨gc, 0, none⟩ = some (.int .i64 X[0]) := by
              have := ho.cellF (k := 0) h0 (j := 0) (by decide) (u := .int .i64 X[0]) rfl
              simpa using this
            have hset := ho.setF (k := 0) h0 0 (by decide) t (.int .i64 t) rfl
            simp only [Nat.zero_mul, Nat.add_zero] at hset
            have hbs : Below w2.heap.size w4 (w4.setCell ⟨gc, 0, none⟩ (.int .i64 t)) := (Below.refl _ _).setCell (p := ⟨gc, 0, none⟩) hgc _
            have hs5 := hs4.belowB hbs hgB0
            replace hsl := hsl.below hbs hflq
            replace hB := hB.trans (hbs.mono hsz)
            replace hz : ∀ z ∈ X.set 0 t, -1 ≤ z ∧ z ≤ 1000001 := fun z hz' => by
              rcases List.mem_or_eq_of_mem_set hz' with h | h
              · exact hz z h
              · subst h; exact htb
            have hln : (X.set 0 t).length = X.length := List.length_set ..
            replace hXl : (X.set 0 t).length ≤ 71 := by rw [hln]; exact hXl
            have H0 := Lib.hid h0
            have HLN := Lib.hid hln
            clear hs4 hbs hln ho
            have ho := hset
            rw [← HLN.out] at ho
            clear hset
            go_upto_region 14 with fail
            clear cc0 zc
            generalize w4.setCell ⟨gc, 0, none⟩ (.int .i64 t) = w5 at *
            clear h0 e9 hX1
            generalize X.set 0 t = X2 at *
            have hBL : Below w5.heap.size w5 (w5.alloc (.cells #[.int .i64 0, .int .i64 2000, .int .i64 4000, .int .i64 8000, .int .i64 100000000, .int .i64 100000001, .int .i64 (-1)] 2)) := (Below.refl _ _).alloc (Nat.le_refl _) _
            have hgl := hs5.lt
            go_wp2_with fail
            refine (among_any _ g _ [0, 2000, 4000, 8000, 100000000, 100000001, -1] [w5.heap.size] _ (hs5.below hBL) (by omega) (slLitI w5 2 [0, 2000, 4000, 8000, 100000000, 100000001, -1] _ rfl (by decide) (by decide) (by decide) _ _ rfl rfl) (by simp; omega) (by decide) (by decide)).mono ?_
            rintro e w21 ⟨mo, hmo, rfl, hs21, hoN⟩
            replace hoN := Only.later hBL hoN
            replace hsl := hsl.only hoN hgq
            replace hB := hB.trans (hoN.below hB.size hof)
            replace ho := ho.only hoN hgB
            clear hs5 hoN hBL hgl
            have hmo2 : -1 ≤ mo ∧ mo ≤ 100000001 := by simp at hmo; omega
            clear hmo
            go_wp2_with fail
            refine (l10DrawSnow_any _ g _ hs21 (by omega)).mono ?_
            rintro e w22 ⟨sn, rfl, hsn, hs22, hoN⟩
            replace hsl := hsl.only hoN hgq
            replace hB := hB.trans (hoN.below hB.size hof)
            replace ho := ho.only hoN hgB
            clear hs21 hoN
            go_wp2_with fail
            refine (l10DrawLeast_any _ g _ hs22 (by omega)).mono ?_
            rintro e w23 ⟨le, rfl, hle, hs23, hoN⟩
            replace hsl := hsl.only hoN hgq
            replace hB := hB.trans (hoN.below hB.size hof)
            replace ho := ho.only hoN hgB
            clear hs22 hoN
            have hBL : Below w23.heap.size w23 (w23.alloc (.cells #[.int .i64 1, .int .i64 10, .int .i64 40, .int .i64 100, .int .i64 2000, .int .i64 0, .int .i64 20001] 2)) := (Below.refl _ _).alloc (Nat.le_refl _) _
            have hgl := hs23.lt
            go_wp2_with fail
            refine (among_any _ g _ [1, 10, 40, 100, 2000, 0, 20001] [w23.heap.size] _ (hs23.below hBL) (by omega) (slLitI w23 2 [1, 10, 40, 100, 2000, 0, 20001] _ rfl (by decide) (by decide) (by decide) _ _ rfl rfl) (by simp; omega) (by decide) (by decide)).mono ?_
            rintro e w24 ⟨bu, hbu, rfl, hs24, hoN⟩
            replace hoN := Only.later hBL hoN
            replace hsl := hsl.only hoN hgq
            replace hB := hB.trans (hoN.below hB.size hof)
            replace ho := ho.only hoN hgB
            clear hs23 hoN hBL hgl
            have hbu2 : 0 ≤ bu ∧ bu ≤ 20001 := by simp at hbu; omega
            clear hbu
            obtain ⟨fc, hsc, _, _⟩ := Sl.of_own (n := (X2).length) rfl ho (fun z hz9 => by have := hz z hz9; show _ ∧ _; omega)
            rw [HLN.out] at hsc
            go_wp2
            exact bodyPost_ret (v := .tuple #[.slice A ys.length cap, .slice (some ⟨gc, 0, none⟩) X.length cc, .int .i64 mo, .int .i64 sn, .int .i64 le, .int .i64 bu]) (by simp [results, Tryz.results9, go_sem]) rfl ⟨_, _, ys, X2, fq, fc, mo, sn, le, bu, rfl, hsl, hsc, hl, hXl, hz, hmo2, hsn, hle, hbu2, hB⟩
        · have e1 : (q == 1) = false := by rw [beq_eq_false_iff_ne]; exact hq1
          have hBL : Below w3.heap.size w3 (w3.alloc (.cells #[.int .i64 0, .int .i64 2000, .int .i64 4000, .int .i64 8000, .int .i64 100000000, .int .i64 100000001, .int .i64 (-1)] 2)) := (Below.refl _ _).alloc (Nat.le_refl _) _
          have hgl := hs3.lt
          go_wp2_with fail
          refine (among_any _ g _ [0, 2000, 4000, 8000, 100000000, 100000001, -1] [w3.heap.size] _ (hs3.below hBL) (by omega) (slLitI w3 2 [0, 2000, 4000, 8000, 100000000, 100000001, -1] _ rfl (by decide) (by decide) (by decide) _ _ rfl rfl) (by simp; omega) (by decide) (by decide)).mono ?_
          rintro e w21 ⟨mo, hmo, rfl, hs21, hoN⟩
          replace hoN := Only.later hBL hoN
          replace hsl := hsl.only hoN hgq
          replace hB := hB.trans (hoN.below hB.size hof)
          replace ho := ho.only hoN hgB
          clear hs3 hoN hBL hgl
          have hmo2 : -1 ≤ mo ∧ mo ≤ 100000001 := by simp at hmo; omega
          clear hmo
          go_wp2_with fail
          refine (l10DrawSnow_any _ g _ hs21 (by omega)).mono ?_
          rintro e w22 ⟨sn, rfl, hsn, hs22, hoN⟩
          replace hsl := hsl.only hoN hgq
          replace hB := hB.trans (hoN.below hB.size hof)
          replace ho := ho.only hoN hgB
          clear hs21 hoN
          go_wp2_with fail
          refine (l10DrawLeast_any _ g _ hs22 (by omega)).mono ?_
          rintro e w23 ⟨le, rfl, hle, hs23, hoN⟩
          replace hsl := hsl.only hoN hgq
          replace hB := hB.trans (hoN.below hB.size hof)
          replace ho := ho.only hoN hgB
          clear hs22 hoN
          have hBL : Below w23.heap.size w23 (w23.alloc (.cells #[.int .i64 1, .int .i64 10, .int .i64 40, .int .i64 100, .int .i64 2000, .int .i64 0, .int .i64 20001] 2)) := (Below.refl _ _).alloc (Nat.le_refl _) _
          have hgl := hs23.lt
          go_wp2_with fail
          refine (among_any _ g _ [1, 10, 40, 100, 2000, 0, 20001] [w23.heap.size] _ (hs23.below hBL) (by omega) (slLitI w23 2 [1, 10, 40, 100, 2000, 0, 20001] _ rfl (by decide) (by decide) (by decide) _ _ rfl rfl) (by simp; omega) (by decide) (by decide)).mono ?_
          rintro e w24 ⟨bu, hbu, rfl, hs24, hoN⟩
          replace hoN := Only.later hBL hoN
          replace hsl := hsl.only hoN hgq
          replace hB := hB.trans (hoN.below hB.size hof)
          replace ho := ho.only hoN hgB
          clear hs23 hoN hBL hgl
          have hbu2 : 0 ≤ bu ∧ bu ≤ 20001 := by simp at hbu; omega
          clear hbu
          obtain ⟨fc, hsc, _, _⟩ := Sl.of_own (n := (X).length) rfl ho (fun z hz9 => by have := hz z hz9; show _ ∧ _; omega)
          obtain ⟨A9, c9, rfl, _, _⟩ := hsc.form
          go_wp2
          exact bodyPost_ret (v := .tuple #[.slice A ys.length cap, .slice A9 (X).length c9, .int .i64 mo, .int .i64 sn, .int .i64 le, .int .i64 bu]) (by simp [results, Tryz.results9, go_sem]) rfl ⟨_, _, ys, X, fq, fc, mo, sn, le, bu, rfl, hsl, hsc, hl, hXl, hz, hmo2, hsn, hle, hbu2, hB⟩

end Go.Proofs.YtphljobklilbdaaGreatDoor

namespace Go.Proofs.YtphljobklilbdaaGreatDoor
open Go.RowKit
set_option linter.unusedVariables false

def digB (c : UInt8) : Bool := decide (48 ≤ c.toNat) && decide (c.toNat ≤ 57)
def valL (a : Nat) (l : List UInt8) : Nat := l.foldl (fun n c => 10 * n + (c.toNat - 48)) a
theorem valL_nil (a : Nat) : valL a [] = a := rfl
theorem valL_cons (a : Nat) (c : UInt8) (l : List UInt8) : valL a (c :: l) = valL (10 * a + (c.toNat - 48)) l := by unfold valL; rw [List.foldl_cons]
theorem valL_snoc (a : Nat) (l : List UInt8) (c : UInt8) : valL a (l ++ [c]) = 10 * valL a l + (c.toNat - 48) := by
  unfold valL; rw [List.foldl_append]; rfl
theorem digB_of (k : Nat) : digB (UInt8.ofNat (48 + k % 10)) = true := by
  unfold digB; rw [UInt8.toNat_ofNat']
  simp only [Bool.and_eq_true, decide_eq_true_eq]; omega
theorem digB_val (k : Nat) : (UInt8.ofNat (48 + k % 10)).toNat - 48 = k % 10 := by
  rw [UInt8.toNat_ofNat']; omega
theorem dig_all : ∀ u, (dig u).all digB = true := by
  intro u
  induction u using Nat.strongRecOn with
  | _ u ih =>
    by_cases h : u = 0
    · subst h; rw [dig_zero]; rfl
    · rw [dig_step h, List.all_append, ih (u / 10) (by omega)]
      simp only [List.all_cons, List.all_nil, Bool.and_true, Bool.true_and]
      exact digB_of u
theorem dig_val : ∀ u, valL 0 (dig u) = u := by
  intro u
  induction u using Nat.strongRecOn with
  | _ u ih =>
    by_cases h : u = 0
    · subst h; rw [dig_zero]; rfl
    · rw [dig_step h, valL_snoc, ih (u / 10) (by omega), digB_val]; omega
theorem dig_ge : ∀ (k u : Nat), 10 ^ k ≤ u → k + 1 ≤ (dig u).length
  | 0, u, h => by
    rw [Nat.pow_zero] at h
    rw [dig_step (by omega)]; simp
  | k + 1, u, h => by
    have hp : 0 < 10 ^ k := Nat.pow_pos (by decide)
    rw [Nat.pow_succ] at h
    have := dig_ge k (u / 10) (by omega)
    rw [dig_step (by omega), List.length_append]; simp; omega
theorem dig_lt {k u : Nat} (h : (dig u).length ≤ k) : u < 10 ^ k := by
  rcases Nat.lt_or_ge u (10 ^ k) with h1 | h1
  · exact h1
  · have := dig_ge k u h1; omega
theorem dig_head : ∀ u, (dig u).head? ≠ some 48 := by
  intro u
  induction u using Nat.strongRecOn with
  | _ u ih =>
    by_cases h : u = 0
    · subst h; rw [dig_zero]; simp
    · rw [dig_step h]
      by_cases h1 : u / 10 = 0
      · rw [h1, dig_zero]
        simp only [List.nil_append, List.head?_cons, ne_eq, Option.some.injEq]
        intro e
        have e2 := congrArg UInt8.toNat e
        rw [UInt8.toNat_ofNat'] at e2
        have : (48 : UInt8).toNat = 48 := rfl
        omega
      · have ih1 := ih (u / 10) (by omega)
        rw [dig_step h1] at ih1 ⊢
        rw [List.head?_append] at ih1 ⊢
        simp only [List.head?_append] at ih1 ⊢
        revert ih1
        generalize (dig (u / 10 / 10)).head? = o
        cases o <;> simp
theorem dig_first (u : Nat) (h : u ≠ 0) : ∃ c r, dig u = c :: r := by
  rcases hd : dig u with _ | ⟨c, r⟩
  · rw [dig_step h] at hd; simp at hd
  · exact ⟨c, r, rfl⟩
/-- Digits that do not begin with 0 spell their number's digits. -/
theorem dig_back : ∀ (n : Nat) (l : List UInt8), l.length = n → l.all digB = true → l.head? ≠ some 48 → dig (valL 0 l) = l ∧ (l ≠ [] → valL 0 l ≠ 0) := by
  intro n
  induction n with
  | zero => intro l hl _ _; obtain rfl := List.eq_nil_of_length_eq_zero hl; exact ⟨by rw [valL_nil, dig_zero], fun h => absurd rfl h⟩
  | succ n ih =>
    intro l hl ha hh
    obtain ⟨p, c, rfl⟩ : ∃ p c, l = p ++ [c] := ⟨l.dropLast, l.getLast (by intro h; subst h; simp at hl), (List.dropLast_concat_getLast _).symm⟩
    rw [List.all_append] at ha
    simp only [List.all_cons, List.all_nil, Bool.and_true, Bool.and_eq_true] at ha
    obtain ⟨ha1, ha2⟩ := ha
    unfold digB at ha2
    simp only [Bool.and_eq_true, decide_eq_true_eq] at ha2
    have hpl : p.length = n := by simp at hl; exact hl
    rw [valL_snoc]
    rcases Nat.eq_zero_or_pos n with h0 | h0
    · obtain rfl : p = [] := List.eq_nil_of_length_eq_zero (by omega)
      have hc : c.toNat ≠ 48 := by
        intro e
        refine hh ?_
        simp only [List.nil_append, List.head?_cons, Option.some.injEq]
        exact UInt8.toNat_inj.1 e
      rw [valL_nil]
      refine ⟨?_, fun _ => by omega⟩
      rw [dig_step (by omega), show (10 * 0 + (c.toNat - 48)) / 10 = 0 by omega, dig_zero]
      rw [show 48 + (10 * 0 + (c.toNat - 48)) % 10 = c.toNat by omega, UInt8.ofNat_toNat]
    · have hpn : p ≠ [] := by intro h; subst h; simp at hpl; omega
      have hph : p.head? ≠ some 48 := by
        cases p with
        | nil => exact absurd rfl hpn
        | cons x p => simpa using hh
      obtain ⟨i1, i2⟩ := ih p hpl ha1 hph
      have i3 := i2 hpn
      refine ⟨?_, fun _ => by omega⟩
      rw [dig_step (by omega), show (10 * valL 0 p + (c.toNat - 48)) / 10 = valL 0 p by omega, i1]
      rw [show 48 + (10 * valL 0 p + (c.toNat - 48)) % 10 = c.toNat by omega, UInt8.ofNat_toNat]
theorem valL_lt : ∀ (l : List UInt8) (a k : Nat), l.all digB = true → a < 10 ^ k → valL a l < 10 ^ (k + l.length)
  | [], a, k, _, h => h
  | c :: l, a, k, ha, h => by
    simp only [List.all_cons, Bool.and_eq_true] at ha
    have h1 := ha.1
    unfold digB at h1
    simp only [Bool.and_eq_true, decide_eq_true_eq] at h1
    have := valL_lt l (10 * a + (c.toNat - 48)) (k + 1) ha.2 (by rw [Nat.pow_succ]; omega)
    rw [valL_cons, List.length_cons, show k + (l.length + 1) = k + 1 + l.length by omega]
    exact this

/-- The number behind a sign. -/
def bodyL (l : List UInt8) : List UInt8 := if l.head? = some 45 then l.drop 1 else l
def numL (l : List UInt8) : Option Int :=
  if (bodyL l).isEmpty || decide (18 < (bodyL l).length) || (decide ((bodyL l).head? = some 48) && decide (1 < l.length)) || !(bodyL l).all digB then none
  else some (if l.head? = some 45 then -(valL 0 (bodyL l) : Int) else (valL 0 (bodyL l) : Int))
theorem itoa_natL {u : Nat} (h : u ≠ 0) : Lib.itoa (u : Int) = dig u := by rw [itoa_ne (by omega), if_neg (by omega)]; rfl
theorem itoa_negL {u : Nat} (h : u ≠ 0) : Lib.itoa (-(u : Int)) = 45 :: dig u := by rw [itoa_ne (by omega), if_pos (by omega), Int.natAbs_neg]; rfl
theorem itoa_zeroL : Lib.itoa 0 = [48] := by
  have h := decS_zero
  unfold decS at h
  have := congrArg (fun s : ByteArray => s.data.toList) h
  simpa using this
theorem dig_head45 (u : Nat) : (dig u).head? ≠ some 45 := by
  intro h
  have ha := dig_all u
  cases hd : dig u with
  | nil => rw [hd] at h; cases h
  | cons c r =>
    rw [hd] at h ha
    injection h with h
    subst h
    simp [digB] at ha
theorem itoa_body {v : Int} : (bodyL (Lib.itoa v)).length = if v = 0 then 1 else (dig v.natAbs).length := by
  by_cases h0 : v = 0
  · subst h0; rw [itoa_zeroL, if_pos rfl]; rfl
  · rw [if_neg h0]
    by_cases hn : v < 0
    · obtain ⟨u, rfl⟩ : ∃ u : Nat, v = -(u : Int) := ⟨v.natAbs, by omega⟩
      rw [itoa_negL (by omega), Int.natAbs_neg]; rfl
    · obtain ⟨u, rfl⟩ : ∃ u : Nat, v = (u : Int) := ⟨v.natAbs, by omega⟩
      rw [itoa_natL (by omega)]
      unfold bodyL
      rw [if_neg (dig_head45 u)]; rfl
/-- The number whose decimal form the bytes are. -/
theorem numL_itoa (v : Int) (h : v.natAbs < 10 ^ 18) : numL (Lib.itoa v) = some v := by
  by_cases h0 : v = 0
  · subst h0; rw [itoa_zeroL]; decide
  · have hne : v.natAbs ≠ 0 := by omega
    obtain ⟨c, r, hcr⟩ := dig_first v.natAbs hne
    have hl := dig_len 18 v.natAbs h
    have hv := dig_val v.natAbs
    have hh := dig_head v.natAbs
    have h45 := dig_head45 v.natAbs
    have ha := dig_all v.natAbs
    by_cases hn : v < 0
    · obtain ⟨u, rfl⟩ : ∃ u : Nat, v = -(u : Int) := ⟨v.natAbs, by omega⟩
      rw [Int.natAbs_neg, Int.natAbs_natCast] at *
      rw [itoa_negL (by omega)]
      have hb : bodyL (45 :: dig u) = dig u := rfl
      unfold numL
      rw [hb, if_neg, List.head?_cons, if_pos rfl, hv]
      rw [ha, hcr]
      rw [hcr] at hh hl
      simp only [List.head?_cons, Option.some.injEq, ne_eq] at hh
      simp [hh]; simpa using hl
    · obtain ⟨u, rfl⟩ : ∃ u : Nat, v = (u : Int) := ⟨v.natAbs, by omega⟩
      rw [Int.natAbs_natCast] at *
      rw [itoa_natL (by omega)]
      have hb : bodyL (dig u) = dig u := by unfold bodyL; rw [if_neg h45]
      unfold numL
      rw [hb, if_neg, if_neg h45, hv]
      rw [ha, hcr]
      rw [hcr] at hh hl
      simp only [List.head?_cons, Option.some.injEq, ne_eq] at hh
      simp [hh]; simpa using hl
theorem numL_back {l : List UInt8} {v : Int} (h : numL l = some v) : Lib.itoa v = l ∧ v.natAbs < 10 ^ 18 ∧ (bodyL l).length ≤ 18 := by
  unfold numL at h
  split at h
  · cases h
  · rename_i hc
    simp only [Bool.or_eq_true, decide_eq_true_eq, Bool.and_eq_true, Bool.not_eq_true', not_or, List.isEmpty_iff] at hc
    obtain ⟨⟨⟨h1, h2⟩, h3⟩, h4⟩ := hc
    have ha : (bodyL l).all digB = true := by simpa using h4
    have h18 : (bodyL l).length ≤ 18 := by omega
    have hlt := valL_lt (bodyL l) 0 0 ha (by decide)
    have hlt2 : valL 0 (bodyL l) < 10 ^ 18 := Nat.lt_of_lt_of_le hlt (Nat.pow_le_pow_right (by decide) (by omega))
    injection h with h
    by_cases h45 : l.head? = some 45
    · rw [if_pos h45] at h
      have hb : bodyL l = l.drop 1 := by unfold bodyL; rw [if_pos h45]
      obtain ⟨r, rfl⟩ : ∃ r, l = 45 :: r := by
        cases l with
        | nil => cases h45
        | cons c r => injection h45 with h45; exact ⟨r, by rw [h45]⟩
      rw [show bodyL (45 :: r) = r from rfl] at *
      have h48 : r.head? ≠ some 48 := by
        intro e
        refine h3 ⟨e, ?_⟩
        cases r with
        | nil => exact absurd rfl h1
        | cons _ _ => simp
      obtain ⟨d1, d2⟩ := dig_back _ r rfl ha h48
      have d3 := d2 h1
      refine ⟨?_, by omega, h18⟩
      rw [← h, itoa_negL d3, d1]
    · rw [if_neg h45] at h
      have hb : bodyL l = l := by unfold bodyL; rw [if_neg h45]
      rw [hb] at h h1 h2 h3 ha h18 hlt hlt2
      by_cases h48 : l.head? = some 48
      · have hl1 : l.length = 1 := by
          have hp : l.length ≠ 0 := by intro e; exact h1 (List.eq_nil_of_length_eq_zero e)
          have : ¬ 1 < l.length := fun e => h3 ⟨h48, e⟩
          omega
        match l, hl1, h48 with
        | [c], _, h48 =>
          injection h48 with h48
          subst h48
          subst h
          exact ⟨itoa_zeroL, by decide, by decide⟩
      · obtain ⟨d1, d2⟩ := dig_back _ l rfl ha h48
        have d3 := d2 h1
        refine ⟨?_, by omega, by rw [hb]; exact h18⟩
        rw [← h, itoa_natL d3, d1]
theorem parseUintM_digits (M : Nat) : ∀ (l : List UInt8) (a k : Nat), l.all digB = true → a < 10 ^ k → k + l.length ≤ 18 → 10 ^ 18 ≤ M → Lib.parseUintM M a l = .ok (valL a l)
  | [], a, k, _, _, _, _ => rfl
  | c :: l, a, k, ha, h, hk, hM => by
    simp only [List.all_cons, Bool.and_eq_true] at ha
    have h1 := ha.1
    unfold digB at h1
    simp only [Bool.and_eq_true, decide_eq_true_eq] at h1
    rw [List.length_cons] at hk
    have h10 : a * 10 + (c.toNat - 48) < 10 ^ (k + 1) := by rw [Nat.pow_succ]; omega
    have h18 : 10 ^ (k + 1) ≤ 10 ^ 18 := Nat.pow_le_pow_right (by decide) (by omega)
    have h17 : (10 : Nat) ^ 18 = 1000000000000000000 := by decide
    unfold Lib.parseUintM
    rw [if_pos h1, if_neg (by omega), if_neg (by omega), parseUintM_digits M l _ (k + 1) ha.2 h10 (by omega) hM, valL_cons, Nat.mul_comm]
theorem parse_of_num {l : List UInt8} {v : Int} (h : numL l = some v) : Lib.parseIntB 64 l = .ok v := by
  obtain ⟨e, hv, _⟩ := numL_back h
  subst e
  have h17 : (10 : Nat) ^ 18 = 1000000000000000000 := by decide
  by_cases h0 : v = 0
  · subst h0; rw [itoa_zeroL]; rfl
  · have hne : v.natAbs ≠ 0 := by omega
    obtain ⟨c, r, hcr⟩ := dig_first v.natAbs hne
    have hl := dig_len 18 v.natAbs hv
    have hval := dig_val v.natAbs
    have ha := dig_all v.natAbs
    have h45 := dig_head45 v.natAbs
    have hp := parseUintM_digits (2 ^ 64 - 1) (dig v.natAbs) 0 0 ha (by decide) (by omega) (by decide)
    rw [hval] at hp
    have hpu : Lib.parseUintB 64 (dig v.natAbs) = .ok v.natAbs := by
      unfold Lib.parseUintB; rw [if_neg (by rw [hcr]; simp)]; exact hp
    by_cases hn : v < 0
    · obtain ⟨u, rfl⟩ : ∃ u : Nat, v = -(u : Int) := ⟨v.natAbs, by omega⟩
      rw [Int.natAbs_neg, Int.natAbs_natCast] at *
      rw [itoa_negL (by omega), Lib.parseIntB_minus, hpu]
      unfold Lib.signedC
      simp only
      rw [if_neg (by omega)]
    · obtain ⟨u, rfl⟩ : ∃ u : Nat, v = (u : Int) := ⟨v.natAbs, by omega⟩
      rw [Int.natAbs_natCast] at *
      rw [itoa_natL (by omega), hcr]
      rw [hcr] at ha h45 hpu
      simp only [List.all_cons, Bool.and_eq_true] at ha
      have h1 := ha.1
      unfold digB at h1
      simp only [Bool.and_eq_true, decide_eq_true_eq] at h1
      rw [Lib.parseIntB_plain 64 c r (by omega) (by omega), hpu]
      unfold Lib.signlessC
      simp only
      rw [if_neg (by omega)]
/-- What the program's reading asks: it parses, is short, and spells itself. -/
theorem num_of_parse {l : List UInt8} {v : Int} (h1 : (bodyL l).length ≤ 18) (h2 : Lib.itoa v = l) : numL l = some v := by
  subst h2
  refine numL_itoa v ?_
  have hb := itoa_body (v := v)
  by_cases h0 : v = 0
  · subst h0; decide
  · rw [if_neg h0] at hb
    rw [hb] at h1
    exact dig_lt h1
end Go.Proofs.YtphljobklilbdaaGreatDoor

namespace Go.Proofs.YtphljobklilbdaaGreatDoor
open Go.RowKit
set_option linter.unusedVariables false

def numOk (s : ByteArray) : Bool := (numL s.data.toList).isSome
def numV (s : ByteArray) : Int := (numL s.data.toList).getD 0
theorem num_none {s : ByteArray} (h : numL s.data.toList = none) : numOk s = false ∧ numV s = 0 := by unfold numOk numV; rw [h]; exact ⟨rfl, rfl⟩
theorem num_some {s : ByteArray} {v : Int} (h : numL s.data.toList = some v) : numOk s = true ∧ numV s = v := by unfold numOk numV; rw [h]; exact ⟨rfl, rfl⟩
structure RdTabs (w : World) : Prop where
  tab : Tab10 w
  syn : ∃ tp p, w.var? Tryz.prog "strconv.ErrSyntax" = some #[.iface tp p]
  ran : ∃ tp p, w.var? Tryz.prog "strconv.ErrRange" = some #[.iface tp p]
theorem RdTabs.below {w w' : World} (h : RdTabs w) (hb : Below w.heap.size w w') : RdTabs w' := by
  obtain ⟨h1, ⟨t1, p1, h2⟩, ⟨t2, p2, h3⟩⟩ := h
  exact ⟨h1.below hb, ⟨t1, p1, Go.Joins.var_stays (g := 1) (by kernel_rfl) h2 hb (Nat.le_refl _)⟩, ⟨t2, p2, Go.Joins.var_stays (g := 2) (by kernel_rfl) h3 hb (Nat.le_refl _)⟩⟩
theorem starErr : ("*" ++ "errors.errorString") = "*errors.errorString" := by decide
theorem errRow (u : TypeId) (h : Tryz.prog.typeName? 3 u = some "*errors.errorString") : u = 157 :=
  typeName_ptr_named (nm := "errors.errorString") (by rw [starErr]; kernel_rfl) (by kernel_rfl) (by decide) u (by rw [starErr]; exact h)
set_option maxRecDepth 100000 in
theorem rdTabs_of {laid : List (String × DataW Unit)} {W : World} (h : laidMetH Tryz.prog laid W) (h0 : laid.filter (fun x => x.1 == "internal/strconv.uint64pow10") = [("internal/strconv.uint64pow10", Lib.tabData .u64 Lib.pow10Tab)])
    (h1 : laid.filter (fun x => x.1 == "strconv.ErrSyntax") = [("strconv.ErrSyntax", .iface "*errors.errorString" (.ptr (.agg [.lit (.string [105, 110, 118, 97, 108, 105, 100, 32, 115, 121, 110, 116, 97, 120])])))])
    (h2 : laid.filter (fun x => x.1 == "strconv.ErrRange") = [("strconv.ErrRange", .iface "*errors.errorString" (.ptr (.agg [.lit (.string [118, 97, 108, 117, 101, 32, 111, 117, 116, 32, 111, 102, 32, 114, 97, 110, 103, 101])])))]) : RdTabs W := by
  have g1 := h.filter (fun x => x.1 == "strconv.ErrSyntax")
  rw [h1] at g1
  have g1 := Eq.mp (MakeChecks.laidMetH_plain _ _ _ rfl) g1
  have g2 := h.filter (fun x => x.1 == "strconv.ErrRange")
  rw [h2] at g2
  have g2 := Eq.mp (MakeChecks.laidMetH_plain _ _ _ rfl) g2
  obtain ⟨a1, s1, q1, _⟩ := laid_sentinel (ti := 104) g1 (g := 1) (by kernel_rfl) (by kernel_rfl) Tryz.underlying104 errRow Tryz.underlying157 Tryz.underlying159 rfl rfl Tryz.underlying9 (by kernel_rfl) (by kernel_rfl)
  obtain ⟨a2, s2, q2, _⟩ := laid_sentinel (ti := 104) g2 (g := 2) (by kernel_rfl) (by kernel_rfl) Tryz.underlying104 errRow Tryz.underlying157 Tryz.underlying159 rfl rfl Tryz.underlying9 (by kernel_rfl) (by kernel_rfl)
  exact ⟨tab10_of h h0, ⟨_, _, q1⟩, ⟨_, _, q2⟩⟩
theorem trim_minus (l : List UInt8) : Lib.trimPrefix l [45] = bodyL l := by
  unfold Lib.trimPrefix Lib.hasPrefix bodyL
  cases l with
  | nil => rfl
  | cons c r =>
    by_cases h : c = 45
    · subst h; simp
    · have h' : ¬ 45 = c := fun e => h e.symm
      simp [h, h']
--NUMBER
theorem num_len {l : List UInt8} (h : (bodyL l).length = 0 ∨ 18 < (bodyL l).length) : numL l = none := by
  unfold numL; rw [if_pos]
  rcases h with h | h
  · rw [List.eq_nil_of_length_eq_zero h]; rfl
  · simp [h]
theorem num_zero {l : List UInt8} (h : (bodyL l).head? = some 48) (h1 : 1 < l.length) : numL l = none := by
  unfold numL; rw [if_pos]; simp [h, h1]
theorem num_bad {l : List UInt8} {k : Nat} (hk : k < (bodyL l).length) (h : digB (bodyL l)[k] = false) : numL l = none := by
  unfold numL; rw [if_pos]
  have : (bodyL l).all digB = false := by
    rw [List.all_eq_false]; exact ⟨_, List.getElem_mem hk, by rw [h]; decide⟩
  simp [this]
theorem num_is {l : List UInt8} (h0 : 0 < (bodyL l).length) (h18 : (bodyL l).length ≤ 18) (hz : ¬ ((bodyL l).head? = some 48 ∧ 1 < l.length)) (ha : (bodyL l).all digB = true) : numL l = some (if l.head? = some 45 then -(valL 0 (bodyL l) : Int) else (valL 0 (bodyL l) : Int)) := by
  unfold numL; rw [if_neg]
  intro h
  simp only [Bool.or_eq_true, Bool.and_eq_true, decide_eq_true_eq, Bool.not_eq_true', List.isEmpty_iff] at h
  rcases h with ((h | h) | h) | h
  · rw [h] at h0; simp at h0
  · omega
  · exact hz h
  · rw [ha] at h; cases h
theorem digitB_dig (c : UInt8) : digitB (c.toNat : Int) = digB c := by
  unfold digitB digB inB
  rw [Bool.eq_iff_iff]
  simp
  omega
theorem byte_ne48 {a : UInt8} (h : a ≠ 48) : ¬ (a.toNat : Int) = 48 := by
  intro e; have h48 : (48 : UInt8).toNat = 48 := rfl
  exact h (UInt8.toNat_inj.1 (by omega))
theorem at_listN {s : ByteArray} {k : Nat} (h : k < s.size) : s.data.toList[k]? = some s[k] := by
  rw [List.getElem?_eq_getElem (by simpa using h)]; rfl
--NUMBEREND
set_option maxRecDepth 100000 in
set_option maxHeartbeats 4000000 in
theorem ReadDecimal_any (s : ByteArray) (w : World) (hs : s.size ≤ 1048576) (ht : RdTabs w) :
    Calls Tryz.prog 68 #[.string s] w fun e w' => e = .returned (.tuple #[.int .i64 (numV s), .bool (numOk s)]) ∧ Below w.heap.size w w' := by
  have hno : (∀ v, Lib.parseIntB 64 s.data.toList ≠ .ok v) → numOk s = false ∧ numV s = 0 := fun h => num_none (by
    cases hn : numL s.data.toList with
    | none => rfl
    | some v => exact absurd (parse_of_num hn) (h v))
  rcases hp : Lib.parseIntB 64 s.data.toList with v | _ | _
  · have hbd := Lib.parseIntB_bounds hp
    have hv0 : -9223372036854775808 ≤ v := by have := hbd.1; simpa using this
    have e63 : ((2 ^ (64 - 1) : Nat) : Int) = 9223372036854775808 := by decide
    have hv1 : v ≤ 9223372036854775807 := by have := hbd.2; omega
    clear e63
    clear hbd
    obtain ⟨b, hbl⟩ : ∃ b : ByteArray, b = ⟨(bodyL s.data.toList).toArray⟩ := ⟨_, rfl⟩
    have hbs : b.size = (bodyL s.data.toList).length := by rw [hbl, show (ByteArray.mk (bodyL s.data.toList).toArray).size = (bodyL s.data.toList).toArray.size from rfl]; simp
    have hble : b.size ≤ 1048576 := by
      rw [hbs]
      have : (bodyL s.data.toList).length ≤ s.data.toList.length := by unfold bodyL; split <;> simp
      have h2 : s.data.toList.length = s.size := by simp
      omega
    have htr : (⟨(Lib.trimPrefix s.data.toList (ByteArray.mk #[45]).data.toList).toArray⟩ : ByteArray) = b := by
      rw [hbl, show (ByteArray.mk #[45]).data.toList = [45] from rfl, trim_minus]
    have HP := Lib.hid hp
    clear hp
    by_cases h18 : (18 : Int) < (b.size : Int)
    · obtain ⟨hn1, hn2⟩ : numOk s = false ∧ numV s = 0 := num_none (by
        cases hn : numL s.data.toList with
        | none => rfl
        | some u => have := (numL_back hn).2.2; omega)
      rw [hn1, hn2]
      clear hn1 hn2 hbl hbs
      go_enter Tryz.func68, Tryz.ntmps68
      go_wp2_with fail
      refine (Tryz.strconv_ParseInt_10_at64_ok s (by omega) v HP.out _).mono ?_
      rintro e w1 ⟨rfl, hw1⟩
      have hb1 : Below w.heap.size w w1 := by
        rcases hw1 with rfl | ⟨t, rfl⟩
        · exact Below.refl _ _
        · exact Go.Joins.below_bytesWorld _ _ _ _ (Nat.le_refl _)
      clear hw1
      go_wp2_with fail
      refine (Tryz.strings_TrimPrefix s _ _).mono ?_
      rintro e w' ⟨rfl, rfl⟩
      rw [htr]
      go_wp2
      go_ret2
      exact ⟨rfl, hb1⟩
    · have hd21 := itoa_len20 hv0 hv1
      rw [← decS_size] at hd21
      by_cases hd : decS v = s
      · have hl : Lib.itoa v = s.data.toList := by
          have := congrArg (fun x : ByteArray => x.data.toList) hd
          simpa [decS] using this
        obtain ⟨hn1, hn2⟩ : numOk s = true ∧ numV s = v := num_some (num_of_parse (by omega) hl)
        have e1 : ((decS v).toList == s.toList) = true := by rw [beq_iff_eq, hd]
        rw [hn1, hn2]
        clear hn1 hn2 hbl hbs hl hd
        go_enter Tryz.func68, Tryz.ntmps68
        go_wp2_with fail
        refine (Tryz.strconv_ParseInt_10_at64_ok s (by omega) v HP.out _).mono ?_
        rintro e w1 ⟨rfl, hw1⟩
        have hb1 : Below w.heap.size w w1 := by
          rcases hw1 with rfl | ⟨t, rfl⟩
          · exact Below.refl _ _
          · exact Go.Joins.below_bytesWorld _ _ _ _ (Nat.le_refl _)
        clear hw1
        go_wp2_with fail
        refine (Tryz.strings_TrimPrefix s _ _).mono ?_
        rintro e w' ⟨rfl, rfl⟩
        rw [htr]
        go_wp2_with fail
        refine (Decimal_any v _ hv0 hv1 (ht.tab.below hb1)).mono ?_
        rintro e w2 ⟨rfl, hb2⟩
        go_wp2
        go_ret2
        exact ⟨rfl, hb1.trans (hb2.mono hb1.size)⟩
      · obtain ⟨hn1, hn2⟩ : numOk s = false ∧ numV s = 0 := num_none (by
          cases hn : numL s.data.toList with
          | none => rfl
          | some u =>
            have h1 := parse_of_num hn
            rw [HP.out] at h1
            injection h1 with h1
            subst h1
            exact absurd (show decS v = s from by unfold decS; rw [(numL_back hn).1]) hd)
        have e1 : ((decS v).toList == s.toList) = false := bytes_beq_false hd
        rw [hn1, hn2]
        clear hn1 hn2 hbl hbs hd
        go_enter Tryz.func68, Tryz.ntmps68
        go_wp2_with fail
        refine (Tryz.strconv_ParseInt_10_at64_ok s (by omega) v HP.out _).mono ?_
        rintro e w1 ⟨rfl, hw1⟩
        have hb1 : Below w.heap.size w w1 := by
          rcases hw1 with rfl | ⟨t, rfl⟩
          · exact Below.refl _ _
          · exact Go.Joins.below_bytesWorld _ _ _ _ (Nat.le_refl _)
        clear hw1
        go_wp2_with fail
        refine (Tryz.strings_TrimPrefix s _ _).mono ?_
        rintro e w' ⟨rfl, rfl⟩
        rw [htr]
        go_wp2_with fail
        refine (Decimal_any v _ hv0 hv1 (ht.tab.below hb1)).mono ?_
        rintro e w2 ⟨rfl, hb2⟩
        go_wp2
        go_ret2
        exact ⟨rfl, hb1.trans (hb2.mono hb1.size)⟩
  · obtain ⟨hn1, hn2⟩ := hno (fun v h => by rw [hp] at h; cases h)
    obtain ⟨tp, p, hv⟩ := ht.syn
    rw [hn1, hn2]
    go_enter Tryz.func68, Tryz.ntmps68
    go_wp2_with fail
    refine (Tryz.strconv_ParseInt_10_at64_syntax_var s (by omega) hp tp p _ hv).mono ?_
    rintro e w1 ⟨N, rfl, _, _, hb⟩
    go_wp2
    go_ret2
    exact ⟨rfl, hb⟩
  · obtain ⟨hn1, hn2⟩ := hno (fun v h => by rw [hp] at h; cases h)
    obtain ⟨tp, p, hv⟩ := ht.ran
    rw [hn1, hn2]
    go_enter Tryz.func68, Tryz.ntmps68
    go_wp2_with fail
    refine (Tryz.strconv_ParseInt_10_at64_range_var s (by omega) hp tp p _ hv).mono ?_
    rintro e w1 ⟨N, rfl, _, _, hb⟩
    go_wp2
    go_ret2
    exact ⟨rfl, hb⟩
end Go.Proofs.YtphljobklilbdaaGreatDoor

namespace Go.Proofs.YtphljobklilbdaaGreatDoor
open Go.RowKit
set_option linter.unusedVariables false

/-- Pieces without the byte, joined, are divided again. -/
theorem splL_app (c : UInt8) : ∀ (x l : List UInt8), (∀ b ∈ x, b ≠ c) → splL c (x ++ c :: l) = x :: splL c l
  | [], l, _ => by show (if c = c then [] :: splL c l else _) = _; rw [if_pos rfl]
  | b :: x, l, h => by
    have ih := splL_app c x l (fun y hy => h y (by simp [hy]))
    show (if b = c then [] :: splL c (x ++ c :: l) else match splL c (x ++ c :: l) with | [] => [[b]] | q :: r => (b :: q) :: r) = _
    rw [if_neg (h b (by simp)), ih]
theorem spl_joinX : ∀ (L : List (List UInt8)), L ≠ [] → (∀ x ∈ L, ∀ b ∈ x, b ≠ 44) → splL 44 (joinX L) = L
  | [], h, _ => absurd rfl h
  | [x], _, h => by rw [joinX_one]; exact splL_none (h x (by simp))
  | x :: y :: r, _, h => by
    have e : joinX (x :: y :: r) = x ++ 44 :: joinX (y :: r) := by simp [joinX]
    rw [e, splL_app 44 x _ (h x (by simp)), spl_joinX (y :: r) (by simp) (fun z hz => h z (by simp [hz]))]
theorem joinX_cat (P : List (List UInt8)) (q : List UInt8) : joinX (P ++ [q]) = (P.flatMap fun p => p ++ [44]) ++ q := by
  induction P with
  | nil => simp [joinX]
  | cons a P ih =>
    cases P with
    | nil => simp [joinX]
    | cons b P =>
      have e : joinX (a :: b :: P ++ [q]) = a ++ 44 :: joinX (b :: P ++ [q]) := by simp [joinX]
      rw [e, ih]; simp
theorem joinX_spl (l : List UInt8) : joinX (splL 44 l) = l := by
  obtain ⟨P, q, h⟩ : ∃ P q, splL 44 l = P ++ [q] := ⟨_, _, (List.dropLast_concat_getLast (splL_ne 44 l)).symm⟩
  rw [h, joinX_cat, splL_join 44 l P q h]
open Go.Lib in
theorem splitK_more (c : UInt8) : ∀ (l : List UInt8) (k : Nat), (splL c l).length ≤ k + 1 → splitK [c] 0 k l = splL c l
  | [], k, _ => by
    have h : index ([] : List UInt8) [c] = -1 := rfl
    cases k with
    | zero => rfl
    | succ k => rw [splitK, h]; rfl
  | b :: l, k, hk => by
    have hi := index_one c b l
    unfold splL at hk ⊢
    by_cases e : b = c
    · rw [if_pos e] at hi hk ⊢
      obtain ⟨j, rfl⟩ : ∃ j, k = j + 1 := ⟨k - 1, by have := splL_ne c l; have h2 : 0 < (splL c l).length := List.length_pos_iff.2 this; rw [List.length_cons] at hk; omega⟩
      rw [splitK, hi]
      have ih := splitK_more c l j (by rw [List.length_cons] at hk; omega)
      simp [ih]
    · rw [if_neg e] at hi hk ⊢
      have hk2 : (splL c l).length ≤ k + 1 := by
        cases hs : splL c l with
        | nil => simp
        | cons q r => rw [hs] at hk; simpa using hk
      have ih := splitK_more c l k hk2
      cases k with
      | zero =>
        have ih' : [l] = splL c l := ih
        rw [← ih']; rfl
      | succ k =>
        rcases index_spec l [c] with ⟨h1, _⟩ | ⟨i, h1, _⟩
        · rw [h1] at hi
          have hm : index (b :: l) [c] = -1 := hi
          rw [splitK, h1] at ih
          have ih' : [l] = splL c l := ih
          rw [splitK, hm, ← ih']; rfl
        · have hm : index (b :: l) [c] = ((i + 1 : Nat) : Int) := by
            rw [hi, h1, if_neg (by rw [beq_iff_eq]; omega)]; omega
          rw [splitK, h1, if_neg (by rw [beq_iff_eq]; omega)] at ih
          rw [splitK, hm, if_neg (by rw [beq_iff_eq]; omega), ← ih]
          simp
def inR (n : Int) : Bool := inB n (-1000000000000) 1000000000000
def pieceB (p : ByteArray) : Bool := numOk p && inR (numV p)
def minusS : ByteArray := ⟨#[45]⟩
/-- The list that a text is of. -/
def rlF (s : ByteArray) : Option (List Int) := if s = minusS then some [] else if decide ((splS 44 s).length ≤ 64) && (splS 44 s).all pieceB then some ((splS 44 s).map numV) else none
theorem num_parts {p : ByteArray} (h : numOk p = true) : Lib.itoa (numV p) = p.data.toList ∧ numL p.data.toList = some (numV p) := by
  unfold numOk at h
  cases hn : numL p.data.toList with
  | none => rw [hn] at h; cases h
  | some v =>
    have hv := (num_some hn).2
    rw [hv]
    exact ⟨(numL_back hn).1, rfl⟩
theorem itoa_bytes (v : Int) : ∀ b ∈ Lib.itoa v, b ≠ 44 ∧ b ≠ 32 := by
  have hd : ∀ u, ∀ b ∈ dig u, b ≠ 44 ∧ b ≠ 32 := fun u b hb => by
    have := List.all_eq_true.1 (dig_all u) b hb
    unfold digB at this
    simp only [Bool.and_eq_true, decide_eq_true_eq] at this
    constructor <;> (intro e; subst e; revert this; decide)
  intro b hb
  by_cases h0 : v = 0
  · subst h0; rw [itoa_zeroL] at hb; simp at hb; subst hb; decide
  · rw [itoa_ne h0, List.mem_append] at hb
    rcases hb with hb | hb
    · split at hb
      · simp at hb; subst hb; decide
      · cases hb
    · exact hd _ b hb
theorem listS_data {xs : List Int} (h : xs ≠ []) : (listS xs).data.toList = joinX (xs.map Lib.itoa) := by unfold listS; rw [if_neg h]
theorem splS_list {xs : List Int} (h : xs ≠ []) : splS 44 (listS xs) = xs.map decS := by
  refine (splS_of ?_).symm
  rw [listS_data h, spl_joinX _ (by simpa using h) (fun x hx b hb => by
    obtain ⟨v, _, rfl⟩ := List.mem_map.1 hx
    exact (itoa_bytes v b hb).1), List.map_map]
  congr 1
theorem numOk_dec {v : Int} (h : inR v = true) : numOk (decS v) = true ∧ numV (decS v) = v := by
  have hb : v.natAbs < 10 ^ 18 := by
    unfold inR inB at h
    simp only [Bool.and_eq_true, decide_eq_true_eq] at h
    have : (10 : Nat) ^ 18 = 1000000000000000000 := by decide
    omega
  exact num_some (by rw [show (decS v).data.toList = Lib.itoa v from by unfold decS; simp]; exact numL_itoa v hb)
/-- A text that is a list's text is read as that list. -/
theorem rlF_list {xs : List Int} (h : fitsL xs = true) : rlF (listS xs) = some xs := by
  unfold fitsL at h
  simp only [Bool.and_eq_true, decide_eq_true_eq] at h
  unfold rlF
  by_cases hn : xs = []
  · subst hn; rfl
  · have hm : ¬ listS xs = minusS := by
      intro e
      have hs := splS_list hn
      rw [e, show splS 44 minusS = [minusS] from rfl] at hs
      cases xs with
      | nil => exact hn rfl
      | cons x r =>
        rw [List.map_cons] at hs
        injection hs with h1 _
        have h2 := congrArg (fun s : ByteArray => s.data.toList) h1
        have h3 : ([45] : List UInt8) = Lib.itoa x := by simpa [decS, minusS] using h2
        by_cases h0 : x = 0
        · subst h0; rw [itoa_zeroL] at h3; cases h3
        · have h4 := dig_first x.natAbs (by omega)
          obtain ⟨c, r', h5⟩ := h4
          have h6 := List.all_eq_true.1 (dig_all x.natAbs) c (by rw [h5]; simp)
          rw [itoa_ne h0, h5] at h3
          split at h3
          · simp at h3
          · simp at h3; rw [← h3.1] at h6; revert h6; decide
    rw [if_neg hm, splS_list hn, List.length_map, decide_eq_true h.1, List.map_map]
    have ha : (xs.map decS).all pieceB = true := by
      rw [List.all_eq_true]
      intro y hy
      obtain ⟨v, hv, rfl⟩ := List.mem_map.1 hy
      have hr : inR v = true := List.all_eq_true.1 h.2 v hv
      obtain ⟨h1, h2⟩ := numOk_dec hr
      unfold pieceB; rw [h1, h2, hr]; rfl
    rw [ha, if_pos (by rfl)]
    congr 1
    have : (xs.map (numV ∘ decS)) = xs.map id := List.map_congr_left (fun v hv => (numOk_dec (List.all_eq_true.1 h.2 v hv)).2)
    rw [this, List.map_id]
/-- What is read spells the text. -/
theorem rlF_text {s : ByteArray} {xs : List Int} (h : rlF s = some xs) : fitsL xs = true ∧ listS xs = s := by
  unfold rlF at h
  split at h
  · rename_i hm
    injection h with h
    subst h
    exact ⟨rfl, by rw [hm]; rfl⟩
  · split at h
    · rename_i hc
      simp only [Bool.and_eq_true, decide_eq_true_eq] at hc
      injection h with h
      have hall := List.all_eq_true.1 hc.2
      subst h
      constructor
      · unfold fitsL
        rw [List.length_map, decide_eq_true hc.1, Bool.true_and, List.all_eq_true]
        intro y hy
        obtain ⟨p, hp, rfl⟩ := List.mem_map.1 hy
        have := hall p hp
        unfold pieceB at this
        simp only [Bool.and_eq_true] at this
        exact this.2
      · have hne : (splS 44 s).map numV ≠ [] := by
          have := splS_data 44 s
          intro e
          have h2 : splS 44 s = [] := by simpa using e
          rw [h2] at this
          exact splL_ne 44 _ this.symm
        refine data_inj ?_
        rw [listS_data hne, List.map_map]
        have : (splS 44 s).map (Lib.itoa ∘ numV) = (splS 44 s).map (fun x : ByteArray => x.data.toList) := List.map_congr_left (fun p hp => by
          have := hall p hp
          unfold pieceB at this
          simp only [Bool.and_eq_true] at this
          exact (num_parts this.1).1)
        rw [this, splS_data, joinX_spl]
    · cases h
theorem splS_len (c : UInt8) (s : ByteArray) : (splS c s).length ≤ s.size + 1 := by
  have hl : ∀ l : List UInt8, (splL c l).length ≤ l.length + 1 := by
    intro l
    induction l with
    | nil => simp [splL]
    | cons b l ih =>
      unfold splL
      split
      · rw [List.length_cons, List.length_cons]; omega
      · cases hs : splL c l with
        | nil => simp
        | cons q r => rw [hs] at ih; rw [List.length_cons] at ih ⊢; rw [List.length_cons]; omega
  unfold splS; rw [List.length_map]
  have := hl s.data.toList
  rwa [dataL_len] at this
/-- The pieces that SplitN(s, ",", 65) gives. -/
def cutN (s : ByteArray) : List ByteArray := Lib.splitB ⟨#[44]⟩ 0 (min 65 (s.size + 1) - 1) s
theorem cutN_data (s : ByteArray) : (cutN s).map (fun x : ByteArray => x.data.toList) = Lib.splitK [44] 0 (min 65 (s.size + 1) - 1) s.data.toList := Lib.splitB_data ⟨#[44]⟩ 0 _ s
theorem cutN_few {s : ByteArray} (h : (splS 44 s).length ≤ 64) : cutN s = splS 44 s := by
  refine splS_of ?_
  have h2 := splS_len 44 s
  have h3 : (splL 44 s.data.toList).length = (splS 44 s).length := by unfold splS; rw [List.length_map]
  rw [cutN_data]
  exact splitK_more 44 s.data.toList _ (by omega)
theorem splitB_len (sep : ByteArray) : ∀ (k : Nat) (s : ByteArray), (Lib.splitB sep 0 k s).length ≤ k + 1 ∧ ∀ x ∈ Lib.splitB sep 0 k s, x.size ≤ s.size
  | 0, s => ⟨by rw [Lib.splitB_zero]; simp, by intro x hx; rw [Lib.splitB_zero, List.mem_singleton] at hx; subst hx; omega⟩
  | k + 1, s => by
    unfold Lib.splitB
    split
    · exact ⟨by simp, by intro x hx; rw [List.mem_singleton] at hx; subst hx; omega⟩
    · obtain ⟨h1, h2⟩ := splitB_len sep k (s.extract ((Lib.indexB s sep).toNat + sep.size) s.size)
      refine ⟨by rw [List.length_cons]; omega, ?_⟩
      intro x hx
      rcases List.mem_cons.1 hx with rfl | hx
      · rw [ByteArray.size_extract]; omega
      · have := h2 x hx
        rw [ByteArray.size_extract] at this
        omega
theorem cutN_len (s : ByteArray) : (cutN s).length ≤ 65 := by have := (splitB_len ⟨#[44]⟩ (min 65 (s.size + 1) - 1) s).1; unfold cutN; omega
theorem cutN_size (s : ByteArray) : ∀ x ∈ cutN s, x.size ≤ s.size := (splitB_len ⟨#[44]⟩ _ s).2
theorem cutN_empty : cutN ⟨#[]⟩ = [⟨#[]⟩] := rfl
theorem rlF_bad {s : ByteArray} {k : Nat} (hm : ¬ s = minusS) (hk : k < (cutN s).length) (h : numOk (cutN s)[k] = false) : rlF s = none := by
  unfold rlF; rw [if_neg hm]
  split
  · rename_i hc
    simp only [Bool.and_eq_true, decide_eq_true_eq] at hc
    have e := cutN_few hc.1
    have := List.all_eq_true.1 hc.2 (cutN s)[k] (by rw [← e]; exact List.getElem_mem hk)
    unfold pieceB at this
    rw [h] at this; cases this
  · rfl
theorem rlF_end {s : ByteArray} (hm : ¬ s = minusS) (hall : ∀ x ∈ cutN s, numOk x = true) : (listT ((cutN s).map numV) = s → rlF s = some ((cutN s).map numV)) ∧ (¬ listT ((cutN s).map numV) = s → rlF s = none) := by
  constructor
  · intro h
    unfold listT at h
    split at h
    · rename_i hf
      have := rlF_list hf
      rw [h] at this
      exact this
    · subst h
      have := hall ⟨#[]⟩ (by rw [cutN_empty]; simp)
      exact absurd this (by decide)
  · intro h
    cases hr : rlF s with
    | none => rfl
    | some xs =>
      obtain ⟨h1, h2⟩ := rlF_text hr
      have hlen : (splS 44 s).length ≤ 64 ∧ xs = (splS 44 s).map numV := by
        unfold rlF at hr
        rw [if_neg hm] at hr
        split at hr
        · rename_i hc
          simp only [Bool.and_eq_true, decide_eq_true_eq] at hc
          injection hr with hr
          exact ⟨hc.1, hr.symm⟩
        · cases hr
      refine absurd ?_ h
      rw [cutN_few hlen.1, ← hlen.2]
      unfold listT; rw [if_pos h1, h2]
def RlR (w : World) (s : ByteArray) (e : Ending) (w' : World) : Prop := ∃ v, e = .returned (.tuple #[v, .bool (rlF s).isSome]) ∧ New fInt.cod w v ((rlF s).getD []) w'
theorem RlR.none_ {w w' : World} {s : ByteArray} (h : rlF s = none) (hb : Below w.heap.size w w') : RlR w s (.returned (.tuple #[.slice none 0 0, .bool false])) w' := ⟨_, by rw [h]; rfl, by rw [h]; exact New.nil hb⟩
theorem RlR.some_ {w w' : World} {s : ByteArray} {v : Value} {xs : List Int} (h : rlF s = some xs) (hn : New fInt.cod w v xs w') : RlR w s (.returned (.tuple #[v, .bool true])) w' := ⟨_, by rw [h]; rfl, by rw [h]; exact hn⟩
theorem infoIntR : (Tryz.prog.info? 2).map (fun i => (i.zero, i.size, i.bytes)) = some (some (.int .i64 0), 1, 8) := by kernel_rfl
theorem numV_ok (p : ByteArray) : fInt.ok (numV p) := by
  unfold numV
  cases h : numL p.data.toList with
  | none => show _ ∧ _; simp
  | some v =>
    have := (numL_back h).2.1
    have e : (10 : Nat) ^ 18 = 1000000000000000000 := by decide
    show _ ∧ _
    simp only [Option.getD_some]
    omega
theorem numVs_ok (L : List ByteArray) : ∀ x ∈ L.map numV, fInt.ok x := by
  intro x hx; obtain ⟨p, _, rfl⟩ := List.mem_map.1 hx; exact numV_ok p
theorem spl_sizeR (c : UInt8) (s : ByteArray) : ∀ x ∈ splS c s, x.size ≤ s.size := by
  intro x hx
  obtain ⟨P, q, h1, h2⟩ := splS_cut c s
  have h3 := congrArg List.length h2
  rw [List.length_append, dataL_len, dataL_len] at h3
  rw [h1, List.mem_append] at hx
  rcases hx with hx | hx
  · obtain ⟨A, B, e⟩ := List.append_of_mem hx
    rw [e, List.flatMap_append, List.flatMap_cons, List.length_append, List.length_append, List.length_append, dataL_len] at h3
    omega
  · rw [List.mem_singleton] at hx; subst hx; omega
theorem cutN_any (s : ByteArray) (m : Int) (w : World) (hs : s.size ≤ 1048576) (hm : w.cell? ⟨0, 0, none⟩ = some (.int .i64 m)) :
    Calls Tryz.prog 67 #[.string s, .string ⟨#[44]⟩, .int .i64 65] w fun e w' => ∃ v fp, e = .returned v ∧ Sl fStr.cod w' v (cutN s) fp ∧ Below w.heap.size w w' := by
  have hlen := cutN_len s
  have hsz := cutN_size s
  have hl2 := (splitB_len ⟨#[44]⟩ (min 65 (s.size + 1) - 1) s).1
  refine (Tryz.strings_SplitN s ⟨#[44]⟩ 65 m w (by omega) hm (Nat.le_refl 1) (by decide) (by decide)).mono ?_
  rintro e w' ⟨rfl, rfl⟩
  refine ⟨_, [w.heap.size], rfl, ?_, (Below.refl _ _).alloc (Nat.le_refl _) _⟩
  have hpos : 0 < (cutN s).length := by
    unfold cutN
    cases hk : (min 65 (s.size + 1) - 1) with
    | zero => rw [Lib.splitB_zero]; simp
    | succ k => unfold Lib.splitB; split <;> simp
  refine Sl.of_cells (by show (cutN s).length ≤ _; unfold cutN at hpos ⊢; omega) (by omega) (by simp) (fun j hj => ⟨?_, ?_⟩) (fun x hx => by have := hsz x hx; show x.size ≤ 9223372036854775807; omega) hpos
  · have e1 : (cutN s).flatMap fStr.enc = (cutN s).map Value.string := by
      generalize cutN s = L
      induction L with
      | nil => rfl
      | cons x L ih => rw [List.flatMap_cons, List.map_cons, ih]; rfl
    have hj2 : j < (cutN s).length := by
      have h : j < ((cutN s).flatMap fStr.enc).length := hj
      rw [e1, List.length_map] at h; exact h
    rw [World.cell?_alloc_at _ _ _ _ rfl]
    show (Lib.cellsOf (cutN s) (min 65 (s.size + 1)))[0 + j]? = ((cutN s).flatMap fStr.enc)[j]?
    rw [e1, Nat.zero_add]
    unfold Lib.cellsOf
    rw [List.getElem?_toArray, List.getElem?_append_left (by rw [List.length_map]; exact hj2)]
  · rw [World.frozen?_alloc_at _ _ _ _ rfl]
set_option maxRecDepth 100000 in
set_option maxHeartbeats 4000000 in
theorem implReadList_any (s : ByteArray) (m : Int) (w : World) (hs : s.size ≤ 1048576) (hm9 : w.cell? ⟨0, 0, none⟩ = some (.int .i64 m)) (ht : RdTabs w) :
    Calls Tryz.prog 58 #[.string s] w fun e w' => RlR w s e w' := by
  obtain ⟨i0, hi, hz0, hz1, hz2⟩ := info_parts infoIntR
  by_cases hm : s = minusS
  · have e1 : (s.toList == [45]) = true := by rw [hm, beq_iff_eq]; unfold minusS; simp [ByteArray.toList_eq]
    have HR := Lib.hid (show rlF s = some [] from by unfold rlF; rw [if_pos hm])
    clear hm
    go_enter Tryz.func58, Tryz.ntmps58
    go_wp2
    go_ret2
    exact RlR.some_ HR.out (New.nil (Below.refl _ _))
  · have e1 : (s.toList == [45]) = false := by
      rw [beq_eq_false_iff_ne]; intro e
      exact hm (bytes_toList_inj (e.trans (by unfold minusS; simp [ByteArray.toList_eq])))
    have hsz := cutN_size s
    have hl65 := cutN_len s
    have HBAD : Hid (∀ k (hk : k < (cutN s).length), numOk (cutN s)[k] = false → rlF s = none) := fun k hk h => rlF_bad hm hk h
    have HEND : Hid ((∀ x ∈ cutN s, numOk x = true) → (listT ((cutN s).map numV) = s → rlF s = some ((cutN s).map numV)) ∧ (¬ listT ((cutN s).map numV) = s → rlF s = none)) := fun h => rlF_end hm h
    clear hm
    go_enter Tryz.func58, Tryz.ntmps58
    go_wp2_with fail
    refine (cutN_any s m _ hs hm9).mono ?_
    rintro e w1 ⟨v1, fp1, rfl, hsl, hb1⟩
    have ht1 := ht.below hb1
    generalize cutN s = P at *
    obtain ⟨A, cap, rfl, hle, hca⟩ := hsl.form
    go_wp2
    go_loopw [4, 14] (fun v i wr => ∃ k : Nat, k ≤ P.length ∧ i = .int .i64 k ∧ Hid ((P.take k).all numOk = true) ∧ Own fInt wr w1.heap.size 2 v ((P.map numV).take k) ∧ Below w1.heap.size w1 wr) (fun _ i _ => P.length - (intOf i).toNat)
    case atStart => exact ⟨0, Nat.zero_le _, rfl, rfl, Own.nil fInt _ _ _, Below.refl _ _⟩
    case round =>
      obtain ⟨k, hk, rfl, HA, ho, hb⟩ := hrel
      by_cases hlt : k < P.length
      · obtain ⟨b, off, rfl, _, _, hc, _⟩ := (hsl.below' hb).cell1 rfl hlt rfl
        have hps := hsz P[k] (List.getElem_mem hlt)
        have hkl : ((P.map numV).take k).length ≤ 65 := by rw [List.length_take, List.length_map]; omega
        go_wp2_with fail
        refine (ReadDecimal_any P[k] _ (by omega) (ht1.below hb)).mono ?_
        rintro e w2 ⟨rfl, hb2⟩
        have hB2 := hb.trans (hb2.mono hb.size)
        cases hn : numOk P[k]
        · have HN := Lib.hid (HBAD.out k hlt hn)
          clear ho hn
          go_wp2
          go_ret2
          exact RlR.none_ HN.out (hb1.trans (hB2.mono hb1.size))
        · have HA2 : Hid ((P.take (k + 1)).all numOk = true) := by
            show _ = _
            rw [List.take_succ_eq_append_getElem hlt, List.all_append, HA.out]; simp [hn]
          have HST : Hid ((P.map numV).take (k + 1) = (P.map numV).take k ++ [numV P[k]]) := by show _ = _; rw [List.take_succ_eq_append_getElem (by rw [List.length_map]; exact hlt), List.getElem_map]
          have ho3 : w2.ownsRow w1.heap.size 2 1 u4 ((P.map numV).take k).length (((P.map numV).take k).flatMap fInt.enc) := ho.below hb2
          have hs2 := hB2.size
          clear ho hn
          go_wp2_with (at_builtin; refine wpList_append_one rfl _ _ 34 rfl w1.heap.size 2 i0 (.int .i64 0) 1 8 Tryz.underlying34 hi hz0 hz1 hz2 rfl (by decide) u4 ((P.map numV).take k).length _ rfl ho3 [.int .i64 (numV P[k])] rfl (by intro u hu; rw [List.mem_singleton] at hu; subst hu; rfl) rfl (by omega) (by decide) hs2 ?_)
          intro v' u hown hbu _ _
          have hbu' := hB2.trans hbu
          have ho4 : Own fInt u w1.heap.size 2 v' ((P.map numV).take (k + 1)) := by rw [HST.out]; exact Own.push _ (by rw [List.length_take, List.length_map]; omega) hown
          clear hown
          go_wp2
          go_roundw
          case rel => exact ⟨k + 1, by omega, by go_num, HA2, ho4, hbu'⟩
          case measure => simp [intOf]; omega
      · obtain rfl : k = P.length := by omega
        rw [← List.length_map (f := numV), List.take_length] at ho
        have hall : ∀ x ∈ P, numOk x = true := by
          have h := HA.out
          rw [List.take_length] at h
          exact List.all_eq_true.1 h
        obtain ⟨hE1, hE2⟩ := HEND.out hall
        have hoks := numVs_ok P
        obtain ⟨fpy, hsy, hlo, hnd⟩ := Sl.of_own (n := (P.map numV).length) rfl ho hoks
        have hls := listT_size hoks (by rw [List.length_map]; omega)
        clear hall
        go_wp2_with fail
        refine (ListText_any _ (P.map numV) fpy _ hsy (ht1.below hb).tab).mono ?_
        rintro e w2 ⟨rfl, hb2⟩
        have hB2 := hb.trans (hb2.mono hb.size)
        by_cases hq : listT (P.map numV) = s
        · have HY := Lib.hid (hE1 hq)
          have e2 : ((listT (P.map numV)).toList == s.toList) = true := eqS_true.2 hq
          have hnew := ((ho.below hb2).new hB2 hoks).later hb1
          clear hE1 hE2 hq hsy ho
          go_wp2
          go_ret2
          exact RlR.some_ HY.out hnew
        · have HN := Lib.hid (hE2 hq)
          have e2 : ((listT (P.map numV)).toList == s.toList) = false := bytes_beq_false hq
          clear hE1 hE2 hq hsy ho
          go_wp2
          go_ret2
          exact RlR.none_ HN.out (hb1.trans (hB2.mono hb1.size))

end Go.Proofs.YtphljobklilbdaaGreatDoor

namespace Go.Proofs.YtphljobklilbdaaGreatDoor
open Go.RowKit
set_option linter.unusedVariables false

def ixL (c : UInt8) : List UInt8 → Nat
  | [] => 0
  | b :: l => if b = c then 0 else ixL c l + 1
theorem ixL_cons (c b : UInt8) (l : List UInt8) : ixL c (b :: l) = if b = c then 0 else ixL c l + 1 := rfl
theorem ixL_le (c : UInt8) : ∀ l, ixL c l ≤ l.length
  | [] => Nat.le_refl _
  | b :: l => by
    rw [ixL_cons]; split
    · simp
    · have := ixL_le c l; simp; omega
theorem ixL_index (c : UInt8) : ∀ l, Lib.index l [c] = if ixL c l < l.length then (ixL c l : Int) else -1
  | [] => rfl
  | b :: l => by
    rw [index_one, ixL_index c l, ixL_cons]
    by_cases e : b = c
    · rw [if_pos e, if_pos e, if_pos (by simp)]; rfl
    · rw [if_neg e, if_neg e]
      by_cases h : ixL c l < l.length
      · rw [if_pos h, if_neg (by rw [beq_iff_eq]; omega), if_pos (by simp; omega)]; push_cast; rfl
      · rw [if_neg h, if_pos (by decide), if_neg (by simp; omega)]
theorem ixL_hit {c : UInt8} {l : List UInt8} {k : Nat} (hk : k < l.length) (h : l[k] = c) : ixL c (l.drop k) = 0 := by
  rw [List.drop_eq_getElem_cons hk, ixL_cons, if_pos h]
theorem ixL_no {c : UInt8} {l : List UInt8} {k : Nat} (hk : k < l.length) (h : l[k] ≠ c) : ixL c (l.drop k) = ixL c (l.drop (k + 1)) + 1 := by
  rw [List.drop_eq_getElem_cons hk, ixL_cons, if_neg h]
theorem ixL_end {c : UInt8} {l : List UInt8} {k : Nat} (hk : l.length ≤ k) : ixL c (l.drop k) = 0 := by
  rw [List.drop_of_length_le hk]; rfl
theorem indexB_one (c : UInt8) (s : ByteArray) : Lib.indexB s ⟨#[c]⟩ = if ixL c s.data.toList < s.size then (ixL c s.data.toList : Int) else -1 := by
  have h := ixL_index c s.data.toList
  have h2 : s.data.toList.length = s.size := by simp
  rw [h2] at h
  exact h

end Go.Proofs.YtphljobklilbdaaGreatDoor
