/- A struct Incident behind a pointer. Written by wip/genptr.py. -/
import Derived.Test.YtaaholabodchaaaDoorTIncident
namespace Go.Proofs.YtaaholabodchaaaDoor
open Go.RowKit
set_option linter.unusedVariables false

/-- A pointer to a Incident that lies somewhere. -/
structure PIncident (w : World) (pb po : Nat) (x : DIncident) : Prop where
  c0 : w.cell? ⟨pb, po, none⟩ = some (.int .i64 x.day)
  c1 : w.cell? ⟨pb, po + 1, none⟩ = some (.string x.place)
  c2 : w.cell? ⟨pb, po + 2, none⟩ = some (.string x.cause)
  c3 : w.cell? ⟨pb, po + 3, none⟩ = some (.int .i64 x.level)
  c4 : w.cell? ⟨pb, po + 4, none⟩ = some (.int .i64 x.caught)
  c5 : w.cell? ⟨pb, po + 5, none⟩ = some (.int .i64 x.buried)
theorem PIncident.below {w w' : World} {pb po : Nat} {x : DIncident} {B : Nat} (h : PIncident w pb po x) (hb : Below B w w') (hB : pb < B) : PIncident w' pb po x :=
  ⟨(hb.cell (p := ⟨pb, _, none⟩) hB).trans h.c0, (hb.cell (p := ⟨pb, _, none⟩) hB).trans h.c1, (hb.cell (p := ⟨pb, _, none⟩) hB).trans h.c2, (hb.cell (p := ⟨pb, _, none⟩) hB).trans h.c3, (hb.cell (p := ⟨pb, _, none⟩) hB).trans h.c4, (hb.cell (p := ⟨pb, _, none⟩) hB).trans h.c5⟩
theorem PIncident.drewN {w : World} {pb po : Nat} {x : DIncident} (h : PIncident w pb po x) (n : Nat) : PIncident (w.drewN n) pb po x :=
  ⟨h.c0, h.c1, h.c2, h.c3, h.c4, h.c5⟩
theorem PIncident.lt {w : World} {pb po : Nat} {x : DIncident} (h : PIncident w pb po x) : pb < w.heap.size := block_lt_of_cell h.c0
theorem PIncident.below' {w w' : World} {pb po : Nat} {x : DIncident} (h : PIncident w pb po x) (hb : Below w.heap.size w w') : PIncident w' pb po x := h.below hb h.lt
theorem PIncident.box (w : World) (x : DIncident) (T : TypeId) : PIncident (w.alloc (.cells #[.int .i64 x.day, .string x.place, .string x.cause, .int .i64 x.level, .int .i64 x.caught, .int .i64 x.buried] T)) w.heap.size 0 x := by
  constructor <;> simp
theorem PIncident.elem {w : World} {A : Option Addr} {len cap : Nat} {xs : List DIncident} {fp : List Nat} (h : Sl fIncident.cod w (.slice A len cap) xs fp) {k : Nat} (hk : k < xs.length) :
    ∃ b off, A = some ⟨b, off, none⟩ ∧ b ∈ fp ∧ fIncident.ok xs[k] ∧ PIncident w b (off + k * 6) xs[k] := by
  obtain ⟨b, off, hA, hm, hok, hc, _⟩ := h.at_ hk
  exact ⟨b, off, hA, hm, hok, ⟨hc 0 (by decide), hc 1 (by decide), hc 2 (by decide), hc 3 (by decide), hc 4 (by decide), hc 5 (by decide)⟩⟩
end Go.Proofs.YtaaholabodchaaaDoor
