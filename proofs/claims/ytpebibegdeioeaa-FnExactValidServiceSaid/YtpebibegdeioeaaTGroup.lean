
/- Group: the data, its cells; the given helpers over it. Written by wip/gentype.py. -/
import Derived.Test.YtpebibegdeioeaaMark
namespace Go.Proofs.Ytpebibegdeioeaa
open Go.RowKit
set_option linter.unusedVariables false

structure DGroup where
  id : ByteArray
  people : Int
  guides : Int
  beacons : Int
  shovels : Int
  probes : Int
  skill : Int
  deriving DecidableEq

def fGroup : Flat DGroup where
  n := 7
  enc := fun x => [.string x.id, .int .i64 x.people, .int .i64 x.guides, .int .i64 x.beacons, .int .i64 x.shovels, .int .i64 x.probes, .int .i64 x.skill]
  ok := fun x => fStr.ok x.id ∧ fInt.ok x.people ∧ fInt.ok x.guides ∧ fInt.ok x.beacons ∧ fInt.ok x.shovels ∧ fInt.ok x.probes ∧ fInt.ok x.skill
  pos := by omega
  len := fun _ => rfl
  one := by intro x v hv; simp at hv; rcases hv with rfl | rfl | rfl | rfl | rfl | rfl | rfl <;> rfl

def totGroup (x : DGroup) : Nat := x.id.size
def totGroupS (xs : List DGroup) : Nat := xs.length + (xs.map totGroup).sum






def mkGroup (k : Int) : DGroup := ⟨mt (k), k + 1, k + 1 + 1, k + 1 + 1 + 1, k + 1 + 1 + 1 + 1, k + 1 + 1 + 1 + 1 + 1, k + 1 + 1 + 1 + 1 + 1 + 1⟩
def marksGroup (k : Int) (n : Nat) : List DGroup := (List.range n).map fun (i : Nat) => mkGroup (k + 7 * (i : Int))

theorem marksGroup_get (k0 : Int) (n i : Nat) (h : i < (marksGroup k0 n).length) : (marksGroup k0 n)[i] = mkGroup (k0 + 7 * (i : Int)) := by
  simp [marksGroup]
theorem marksGroup_len (k0 : Int) (n : Nat) : (marksGroup k0 n).length = n := by simp [marksGroup]



end Go.Proofs.Ytpebibegdeioeaa
