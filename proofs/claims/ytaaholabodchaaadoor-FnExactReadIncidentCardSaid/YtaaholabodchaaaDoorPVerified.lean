/- A struct Verified behind a pointer. Written by wip/genptr.py. -/
import Derived.Test.YtaaholabodchaaaDoorTVerified
namespace Go.Proofs.YtaaholabodchaaaDoor
open Go.RowKit
set_option linter.unusedVariables false

/-- A pointer to a Verified that lies somewhere. -/
structure PVerified (w : World) (pb po : Nat) (x : DVerified) : Prop where
  c0 : w.cell? ⟨pb, po, none⟩ = some (.int .i64 x.day)
  c1 : w.cell? ⟨pb, po + 1, none⟩ = some (.int .i64 x.told)
  c2 : w.cell? ⟨pb, po + 2, none⟩ = some (.int .i64 x.seen)
theorem PVerified.below {w w' : World} {pb po : Nat} {x : DVerified} {B : Nat} (h : PVerified w pb po x) (hb : Below B w w') (hB : pb < B) : PVerified w' pb po x :=
  ⟨(hb.cell (p := ⟨pb, _, none⟩) hB).trans h.c0, (hb.cell (p := ⟨pb, _, none⟩) hB).trans h.c1, (hb.cell (p := ⟨pb, _, none⟩) hB).trans h.c2⟩
theorem PVerified.drewN {w : World} {pb po : Nat} {x : DVerified} (h : PVerified w pb po x) (n : Nat) : PVerified (w.drewN n) pb po x :=
  ⟨h.c0, h.c1, h.c2⟩
theorem PVerified.lt {w : World} {pb po : Nat} {x : DVerified} (h : PVerified w pb po x) : pb < w.heap.size := block_lt_of_cell h.c0
theorem PVerified.below' {w w' : World} {pb po : Nat} {x : DVerified} (h : PVerified w pb po x) (hb : Below w.heap.size w w') : PVerified w' pb po x := h.below hb h.lt
theorem PVerified.box (w : World) (x : DVerified) (T : TypeId) : PVerified (w.alloc (.cells #[.int .i64 x.day, .int .i64 x.told, .int .i64 x.seen] T)) w.heap.size 0 x := by
  constructor <;> simp
theorem PVerified.elem {w : World} {A : Option Addr} {len cap : Nat} {xs : List DVerified} {fp : List Nat} (h : Sl fVerified.cod w (.slice A len cap) xs fp) {k : Nat} (hk : k < xs.length) :
    ∃ b off, A = some ⟨b, off, none⟩ ∧ b ∈ fp ∧ fVerified.ok xs[k] ∧ PVerified w b (off + k * 3) xs[k] := by
  obtain ⟨b, off, hA, hm, hok, hc, _⟩ := h.at_ hk
  exact ⟨b, off, hA, hm, hok, ⟨hc 0 (by decide), hc 1 (by decide), hc 2 (by decide)⟩⟩
end Go.Proofs.YtaaholabodchaaaDoor
