/- A struct Block behind a pointer. Written by wip/genptr.py. -/
import Derived.Test.YtaaholabodchaaaGreatDoorTBlock
namespace Go.Proofs.YtaaholabodchaaaGreatDoor
open Go.RowKit
set_option linter.unusedVariables false

/-- A pointer to a Block that lies somewhere. -/
structure PBlock (w : World) (pb po : Nat) (x : DBlock) : Prop where
  c0 : w.cell? ⟨pb, po, none⟩ = some (.string x.kind)
  c1 : w.cell? ⟨pb, po + 1, none⟩ = some (.string x.name)
  c2 : w.cell? ⟨pb, po + 2, none⟩ = some (.string x.text)
theorem PBlock.below {w w' : World} {pb po : Nat} {x : DBlock} {B : Nat} (h : PBlock w pb po x) (hb : Below B w w') (hB : pb < B) : PBlock w' pb po x :=
  ⟨(hb.cell (p := ⟨pb, _, none⟩) hB).trans h.c0, (hb.cell (p := ⟨pb, _, none⟩) hB).trans h.c1, (hb.cell (p := ⟨pb, _, none⟩) hB).trans h.c2⟩
theorem PBlock.drewN {w : World} {pb po : Nat} {x : DBlock} (h : PBlock w pb po x) (n : Nat) : PBlock (w.drewN n) pb po x :=
  ⟨h.c0, h.c1, h.c2⟩
theorem PBlock.lt {w : World} {pb po : Nat} {x : DBlock} (h : PBlock w pb po x) : pb < w.heap.size := block_lt_of_cell h.c0
theorem PBlock.below' {w w' : World} {pb po : Nat} {x : DBlock} (h : PBlock w pb po x) (hb : Below w.heap.size w w') : PBlock w' pb po x := h.below hb h.lt
theorem PBlock.box (w : World) (x : DBlock) (T : TypeId) : PBlock (w.alloc (.cells #[.string x.kind, .string x.name, .string x.text] T)) w.heap.size 0 x := by
  constructor <;> simp
theorem PBlock.elem {w : World} {A : Option Addr} {len cap : Nat} {xs : List DBlock} {fp : List Nat} (h : Sl fBlock.cod w (.slice A len cap) xs fp) {k : Nat} (hk : k < xs.length) :
    ∃ b off, A = some ⟨b, off, none⟩ ∧ b ∈ fp ∧ fBlock.ok xs[k] ∧ PBlock w b (off + k * 3) xs[k] := by
  obtain ⟨b, off, hA, hm, hok, hc, _⟩ := h.at_ hk
  exact ⟨b, off, hA, hm, hok, ⟨hc 0 (by decide), hc 1 (by decide), hc 2 (by decide)⟩⟩
end Go.Proofs.YtaaholabodchaaaGreatDoor
