/- Contracts on gates. Written by wip/gen/gt.py. -/
import Derived.Test.YtaaholabodchaaaDoorPGate
import Derived.Test.YtaaholabodchaaaDoorSeg
import Derived.Test.YtaaholabodchaaaDoorNm
import Derived.Test.YtaaholabodchaaaDoorAll
import Derived.Test.YtaaholabodchaaaDoorColl
namespace Go.Proofs.YtaaholabodchaaaDoor
open Go.RowKit
set_option linter.unusedVariables false

def gateB (x : DGate) : Bool := nameB x.id && inB x.shut 1 1000 && inB x.open_ 0 x.shut && inB x.hold 1 48 && inB x.calm 0 (x.hold - 1) && (x.shuts || decide (x.calm = 0))
theorem getD_of_ltG {α : Type} {xs : List α} {k : Nat} {d : α} (h : k < xs.length) : xs.getD k d = xs[k] := by rw [List.getD_eq_getElem?_getD, List.getElem?_eq_getElem h]; rfl
def gt0 : DGate := ⟨⟨#[]⟩, 0, 0, 0, false, 0⟩
def gtOk (xs : List DGate) (i : Nat) : Bool := gateB (xs.getD i gt0) && (decide (i = 0) || ltS (xs.getD (i - 1) gt0).id (xs.getD i gt0).id)
def gatesB (xs : List DGate) : Bool := allIdx (gtOk xs) xs.length && decide (xs.length ≤ 8)
theorem gtOk_zero {xs : List DGate} (h : 0 < xs.length) : gtOk xs 0 = gateB xs[0] := by simp [gtOk, h]
theorem gtOk_succ {xs : List DGate} {m : Nat} (h : m + 1 < xs.length) : gtOk xs (m + 1) = (gateB xs[m + 1] && ltS xs[m].id xs[m + 1].id) := by
  have h1 : m < xs.length := by omega
  simp [gtOk, h, h1]
theorem gatesB_bad {xs : List DGate} {k : Nat} (h : k < xs.length) (h1 : gtOk xs k = false) : gatesB xs = false := by
  unfold gatesB; rw [allIdx_bad h h1]; rfl
theorem gatesB_one {xs : List DGate} (h : gatesB xs = true) {k : Nat} (hk : k < xs.length) : gateB xs[k] = true := by
  unfold gatesB at h
  simp only [Bool.and_eq_true] at h
  have := allIdx_true.1 h.1 k hk
  unfold gtOk at this
  simp only [Bool.and_eq_true] at this
  rw [getD_of_ltG hk] at this
  exact this.1
theorem gatesB_len {xs : List DGate} (h : gatesB xs = true) : xs.length ≤ 8 := by
  unfold gatesB at h; simp at h; exact h.2

end Go.Proofs.YtaaholabodchaaaDoor
