
/- A struct Layer behind a pointer. Written by wip/genptr.py. -/
import Derived.Test.YtpebibegdeioeaaTLayer
namespace Go.Proofs.Ytpebibegdeioeaa
open Go.RowKit
set_option linter.unusedVariables false

/-- A pointer to a Layer that lies somewhere. -/
structure PLayer (w : World) (pb po : Nat) (x : DLayer) : Prop where
  c0 : w.cell? ⟨pb, po, none⟩ = some (.int .i64 x.form)
  c1 : w.cell? ⟨pb, po + 1, none⟩ = some (.int .i64 x.ice)
  c2 : w.cell? ⟨pb, po + 2, none⟩ = some (.int .i64 x.water)
  c3 : w.cell? ⟨pb, po + 3, none⟩ = some (.int .i64 x.density)
  c4 : w.cell? ⟨pb, po + 4, none⟩ = some (.int .i64 x.degrees)
  c5 : w.cell? ⟨pb, po + 5, none⟩ = some (.int .i64 x.hardness)
  c6 : w.cell? ⟨pb, po + 6, none⟩ = some (.int .i64 x.age)
theorem PLayer.below {w w' : World} {pb po : Nat} {x : DLayer} {B : Nat} (h : PLayer w pb po x) (hb : Below B w w') (hB : pb < B) : PLayer w' pb po x :=
  ⟨(hb.cell (p := ⟨pb, _, none⟩) hB).trans h.c0, (hb.cell (p := ⟨pb, _, none⟩) hB).trans h.c1, (hb.cell (p := ⟨pb, _, none⟩) hB).trans h.c2, (hb.cell (p := ⟨pb, _, none⟩) hB).trans h.c3, (hb.cell (p := ⟨pb, _, none⟩) hB).trans h.c4, (hb.cell (p := ⟨pb, _, none⟩) hB).trans h.c5, (hb.cell (p := ⟨pb, _, none⟩) hB).trans h.c6⟩
theorem PLayer.drewN {w : World} {pb po : Nat} {x : DLayer} (h : PLayer w pb po x) (n : Nat) : PLayer (w.drewN n) pb po x :=
  ⟨h.c0, h.c1, h.c2, h.c3, h.c4, h.c5, h.c6⟩
theorem PLayer.lt {w : World} {pb po : Nat} {x : DLayer} (h : PLayer w pb po x) : pb < w.heap.size := block_lt_of_cell h.c0
theorem PLayer.below' {w w' : World} {pb po : Nat} {x : DLayer} (h : PLayer w pb po x) (hb : Below w.heap.size w w') : PLayer w' pb po x := h.below hb h.lt
theorem PLayer.box (w : World) (x : DLayer) (T : TypeId) : PLayer (w.alloc (.cells #[.int .i64 x.form, .int .i64 x.ice, .int .i64 x.water, .int .i64 x.density, .int .i64 x.degrees, .int .i64 x.hardness, .int .i64 x.age] T)) w.heap.size 0 x := by
  constructor <;> simp
theorem PLayer.elem {w : World} {A : Option Addr} {len cap : Nat} {xs : List DLayer} {fp : List Nat} (h : Sl fLayer.cod w (.slice A len cap) xs fp) {k : Nat} (hk : k < xs.length) :
    ∃ b off, A = some ⟨b, off, none⟩ ∧ b ∈ fp ∧ fLayer.ok xs[k] ∧ PLayer w b (off + k * 7) xs[k] := by
  obtain ⟨b, off, hA, hm, hok, hc, _⟩ := h.at_ hk
  exact ⟨b, off, hA, hm, hok, ⟨hc 0 (by decide), hc 1 (by decide), hc 2 (by decide), hc 3 (by decide), hc 4 (by decide), hc 5 (by decide), hc 6 (by decide)⟩⟩
end Go.Proofs.Ytpebibegdeioeaa
