/- Verified: the data, its cells; the given helpers over it. Written by wip/gentype.py. -/
import Derived.Test.YtaaholabodchaaaDoorMark
namespace Go.Proofs.YtaaholabodchaaaDoor
open Go.RowKit
set_option linter.unusedVariables false

structure DVerified where
  day : Int
  told : Int
  seen : Int
  deriving DecidableEq

def fVerified : Flat DVerified where
  n := 3
  enc := fun x => [.int .i64 x.day, .int .i64 x.told, .int .i64 x.seen]
  ok := fun x => fInt.ok x.day ∧ fInt.ok x.told ∧ fInt.ok x.seen
  pos := by omega
  len := fun _ => rfl
  one := by intro x v hv; simp at hv; rcases hv with rfl | rfl | rfl <;> rfl

def totVerifiedS (xs : List DVerified) : Nat := xs.length


set_option maxRecDepth 100000 in
set_option maxHeartbeats 1000000 in
theorem eqVerified_any (x : DVerified) (w : World) :
    Calls Tryd.prog 7 #[.agg #[.int .i64 x.day, .int .i64 x.told, .int .i64 x.seen], .agg #[.int .i64 x.day, .int .i64 x.told, .int .i64 x.seen]] w fun e w' => e = .returned (.bool true) ∧ Below w.heap.size w w' := by
  go_enter Tryd.func7, Tryd.ntmps7
  go_wp2
  go_ret
  exact ⟨rfl, (by repeat (first | exact Below.refl _ _ | assumption | refine Below.alloc ?_ (by first | omega | (simp <;> omega)) _ | refine Below.setCell ?_ (by first | (show _ ≤ _; omega) | (simp <;> omega)) _ | refine Below.drew ?_ | refine below_drewN ?_ _))⟩



def mkVerified (k : Int) : DVerified := ⟨k, k + 1, k + 1 + 1⟩
def marksVerified (k : Int) (n : Nat) : List DVerified := (List.range n).map fun (i : Nat) => mkVerified (k + 3 * (i : Int))

theorem marksVerified_get (k0 : Int) (n i : Nat) (h : i < (marksVerified k0 n).length) : (marksVerified k0 n)[i] = mkVerified (k0 + 3 * (i : Int)) := by
  simp [marksVerified]
theorem marksVerified_len (k0 : Int) (n : Nat) : (marksVerified k0 n).length = n := by simp [marksVerified]



end Go.Proofs.YtaaholabodchaaaDoor
