/- Incident: the data, its cells; the given helpers over it. Written by wip/gentype.py. -/
import Derived.Test.YtaaholabodchaaaDoorMark
namespace Go.Proofs.YtaaholabodchaaaDoor
open Go.RowKit
set_option linter.unusedVariables false

structure DIncident where
  day : Int
  place : ByteArray
  cause : ByteArray
  level : Int
  caught : Int
  buried : Int
  deriving DecidableEq

def fIncident : Flat DIncident where
  n := 6
  enc := fun x => [.int .i64 x.day, .string x.place, .string x.cause, .int .i64 x.level, .int .i64 x.caught, .int .i64 x.buried]
  ok := fun x => fInt.ok x.day ∧ fStr.ok x.place ∧ fStr.ok x.cause ∧ fInt.ok x.level ∧ fInt.ok x.caught ∧ fInt.ok x.buried
  pos := by omega
  len := fun _ => rfl
  one := by intro x v hv; simp at hv; rcases hv with rfl | rfl | rfl | rfl | rfl | rfl <;> rfl

def totIncident (x : DIncident) : Nat := x.place.size + x.cause.size
def totIncidentS (xs : List DIncident) : Nat := xs.length + (xs.map totIncident).sum



set_option maxRecDepth 100000 in
set_option maxHeartbeats 1000000 in
theorem eqIncident_any (x : DIncident) (w : World) :
    Calls Tryd.prog 10 #[.agg #[.int .i64 x.day, .string x.place, .string x.cause, .int .i64 x.level, .int .i64 x.caught, .int .i64 x.buried], .agg #[.int .i64 x.day, .string x.place, .string x.cause, .int .i64 x.level, .int .i64 x.caught, .int .i64 x.buried]] w fun e w' => e = .returned (.bool true) ∧ Below w.heap.size w w' := by
  go_enter Tryd.func10, Tryd.ntmps10
  go_wp2
  go_ret
  exact ⟨rfl, (by repeat (first | exact Below.refl _ _ | assumption | refine Below.alloc ?_ (by first | omega | (simp <;> omega)) _ | refine Below.setCell ?_ (by first | (show _ ≤ _; omega) | (simp <;> omega)) _ | refine Below.drew ?_ | refine below_drewN ?_ _))⟩



def mkIncident (k : Int) : DIncident := ⟨k, mt (k + 1), mt (k + 1 + 1), k + 1 + 1 + 1, k + 1 + 1 + 1 + 1, k + 1 + 1 + 1 + 1 + 1⟩
def marksIncident (k : Int) (n : Nat) : List DIncident := (List.range n).map fun (i : Nat) => mkIncident (k + 6 * (i : Int))

theorem marksIncident_get (k0 : Int) (n i : Nat) (h : i < (marksIncident k0 n).length) : (marksIncident k0 n)[i] = mkIncident (k0 + 6 * (i : Int)) := by
  simp [marksIncident]
theorem marksIncident_len (k0 : Int) (n : Nat) : (marksIncident k0 n).length = n := by simp [marksIncident]



end Go.Proofs.YtaaholabodchaaaDoor
