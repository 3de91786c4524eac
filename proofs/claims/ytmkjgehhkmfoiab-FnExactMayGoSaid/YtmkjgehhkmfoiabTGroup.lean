/- Group: the data, its cells; the given helpers over it. Written by wip/gentype.py. -/
import Derived.Test.YtmkjgehhkmfoiabMark
namespace Go.Proofs.Ytmkjgehhkmfoiab
open Go.RowKit
set_option linter.unusedVariables false

structure DGroup where
  id : ByteArray
  people : Int
  guides : Int
  beacons : Int
  shovels : Int
  probes : Int
  skill : Int
  deriving DecidableEq

def fGroup : Flat DGroup where
  n := 7
  enc := fun x => [.string x.id, .int .i64 x.people, .int .i64 x.guides, .int .i64 x.beacons, .int .i64 x.shovels, .int .i64 x.probes, .int .i64 x.skill]
  ok := fun x => fStr.ok x.id ∧ fInt.ok x.people ∧ fInt.ok x.guides ∧ fInt.ok x.beacons ∧ fInt.ok x.shovels ∧ fInt.ok x.probes ∧ fInt.ok x.skill
  pos := by omega
  len := fun _ => rfl
  one := by intro x v hv; simp at hv; rcases hv with rfl | rfl | rfl | rfl | rfl | rfl | rfl <;> rfl

def totGroup (x : DGroup) : Nat := x.id.size
def totGroupS (xs : List DGroup) : Nat := xs.length + (xs.map totGroup).sum

set_option maxHeartbeats 1000000 in
theorem szGroup_any (x : DGroup) (left : Int) (w : World) (hx : fGroup.ok x) (h0 : 0 ≤ left) (h1 : left ≤ 1048576) :
    Calls Try.prog 4 #[.agg #[.string x.id, .int .i64 x.people, .int .i64 x.guides, .int .i64 x.beacons, .int .i64 x.shovels, .int .i64 x.probes, .int .i64 x.skill], .int .i64 left] w fun e w' => SzR left (totGroup x) w e w' := by
  have hsz0 : x.id.size ≤ 9223372036854775807 := hx.1
  by_cases c0 : left - x.id.size < 0
  · go_enter Try.func4, Try.ntmps4
    go_wp2
    go_ret
    exact .no (by repeat (first | exact Below.refl _ _ | assumption | refine Below.alloc ?_ (by first | omega | (simp <;> omega)) _ | refine Below.setCell ?_ (by first | (show _ ≤ _; omega) | (simp <;> omega)) _ | refine Below.drew ?_ | refine below_drewN ?_ _))
  · skip
    go_enter Try.func4, Try.ntmps4
    go_wp2
    go_ret
    exact .yes (by omega) (by unfold totGroup; omega) (by repeat (first | exact Below.refl _ _ | assumption | refine Below.alloc ?_ (by first | omega | (simp <;> omega)) _ | refine Below.setCell ?_ (by first | (show _ ≤ _; omega) | (simp <;> omega)) _ | refine Below.drew ?_ | refine below_drewN ?_ _))


set_option maxHeartbeats 1000000 in
theorem toGroup_any (x : DGroup) (w : World) :
    Calls Try.prog 6 #[.agg #[.string x.id, .int .i64 x.people, .int .i64 x.guides, .int .i64 x.beacons, .int .i64 x.shovels, .int .i64 x.probes, .int .i64 x.skill]] w fun e w' => e = .returned (.agg #[.string x.id, .int .i64 x.people, .int .i64 x.guides, .int .i64 x.beacons, .int .i64 x.shovels, .int .i64 x.probes, .int .i64 x.skill]) ∧ Below w.heap.size w w' := by
  go_enter Try.func6, Try.ntmps6
  go_wp2
  exact bodyPost_ret (v := .agg #[.string x.id, .int .i64 x.people, .int .i64 x.guides, .int .i64 x.beacons, .int .i64 x.shovels, .int .i64 x.probes, .int .i64 x.skill]) (by simp [results, Try.results6, go_sem]) rfl ⟨rfl, (by repeat (first | exact Below.refl _ _ | assumption | refine Below.alloc ?_ (by first | omega | (simp <;> omega)) _ | refine Below.setCell ?_ (by first | (show _ ≤ _; omega) | (simp <;> omega)) _ | refine Below.drew ?_ | refine below_drewN ?_ _))⟩



def mkGroup (k : Int) : DGroup := ⟨mt (k), k + 1, k + 1 + 1, k + 1 + 1 + 1, k + 1 + 1 + 1 + 1, k + 1 + 1 + 1 + 1 + 1, k + 1 + 1 + 1 + 1 + 1 + 1⟩
def marksGroup (k : Int) (n : Nat) : List DGroup := (List.range n).map fun (i : Nat) => mkGroup (k + 7 * (i : Int))

theorem marksGroup_get (k0 : Int) (n i : Nat) (h : i < (marksGroup k0 n).length) : (marksGroup k0 n)[i] = mkGroup (k0 + 7 * (i : Int)) := by
  simp [marksGroup]
theorem marksGroup_len (k0 : Int) (n : Nat) : (marksGroup k0 n).length = n := by simp [marksGroup]



end Go.Proofs.Ytmkjgehhkmfoiab
