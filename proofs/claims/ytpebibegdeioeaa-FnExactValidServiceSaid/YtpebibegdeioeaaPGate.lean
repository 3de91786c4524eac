
/- A struct Gate behind a pointer. Written by wip/genptr.py. -/
import Derived.Test.YtpebibegdeioeaaTGate
namespace Go.Proofs.Ytpebibegdeioeaa
open Go.RowKit
set_option linter.unusedVariables false

/-- A pointer to a Gate that lies somewhere. -/
structure PGate (w : World) (pb po : Nat) (x : DGate) : Prop where
  c0 : w.cell? ⟨pb, po, none⟩ = some (.string x.id)
  c1 : w.cell? ⟨pb, po + 1, none⟩ = some (.int .i64 x.shut)
  c2 : w.cell? ⟨pb, po + 2, none⟩ = some (.int .i64 x.open_)
  c3 : w.cell? ⟨pb, po + 3, none⟩ = some (.int .i64 x.hold)
  c4 : w.cell? ⟨pb, po + 4, none⟩ = some (.bool x.shuts)
  c5 : w.cell? ⟨pb, po + 5, none⟩ = some (.int .i64 x.calm)
theorem PGate.below {w w' : World} {pb po : Nat} {x : DGate} {B : Nat} (h : PGate w pb po x) (hb : Below B w w') (hB : pb < B) : PGate w' pb po x :=
  ⟨(hb.cell (p := ⟨pb, _, none⟩) hB).trans h.c0, (hb.cell (p := ⟨pb, _, none⟩) hB).trans h.c1, (hb.cell (p := ⟨pb, _, none⟩) hB).trans h.c2, (hb.cell (p := ⟨pb, _, none⟩) hB).trans h.c3, (hb.cell (p := ⟨pb, _, none⟩) hB).trans h.c4, (hb.cell (p := ⟨pb, _, none⟩) hB).trans h.c5⟩
theorem PGate.drewN {w : World} {pb po : Nat} {x : DGate} (h : PGate w pb po x) (n : Nat) : PGate (w.drewN n) pb po x :=
  ⟨h.c0, h.c1, h.c2, h.c3, h.c4, h.c5⟩
theorem PGate.lt {w : World} {pb po : Nat} {x : DGate} (h : PGate w pb po x) : pb < w.heap.size := block_lt_of_cell h.c0
theorem PGate.below' {w w' : World} {pb po : Nat} {x : DGate} (h : PGate w pb po x) (hb : Below w.heap.size w w') : PGate w' pb po x := h.below hb h.lt
theorem PGate.box (w : World) (x : DGate) (T : TypeId) : PGate (w.alloc (.cells #[.string x.id, .int .i64 x.shut, .int .i64 x.open_, .int .i64 x.hold, .bool x.shuts, .int .i64 x.calm] T)) w.heap.size 0 x := by
  constructor <;> simp
theorem PGate.elem {w : World} {A : Option Addr} {len cap : Nat} {xs : List DGate} {fp : List Nat} (h : Sl fGate.cod w (.slice A len cap) xs fp) {k : Nat} (hk : k < xs.length) :
    ∃ b off, A = some ⟨b, off, none⟩ ∧ b ∈ fp ∧ fGate.ok xs[k] ∧ PGate w b (off + k * 6) xs[k] := by
  obtain ⟨b, off, hA, hm, hok, hc, _⟩ := h.at_ hk
  exact ⟨b, off, hA, hm, hok, ⟨hc 0 (by decide), hc 1 (by decide), hc 2 (by decide), hc 3 (by decide), hc 4 (by decide), hc 5 (by decide)⟩⟩
end Go.Proofs.Ytpebibegdeioeaa
