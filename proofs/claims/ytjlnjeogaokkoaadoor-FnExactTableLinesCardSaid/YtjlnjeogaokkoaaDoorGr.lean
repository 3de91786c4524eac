/- Contracts of the functions on one group of people, the program's and the reference's. Written by wip/gen/gr.py. -/
import Derived.Test.YtjlnjeogaokkoaaDoorPGroup
import Derived.Test.YtjlnjeogaokkoaaDoorSeg
import Derived.Test.YtjlnjeogaokkoaaDoorNm
namespace Go.Proofs.YtjlnjeogaokkoaaDoor
open Go.RowKit
set_option linter.unusedVariables false

def groupB (x : DGroup) : Bool := nameB x.id && inB x.people 1 30 && inB x.guides 0 x.people && inB x.beacons 0 30 && inB x.shovels 0 30 && inB x.probes 0 30 && inB x.skill 1 5
def levelB (n : Int) : Bool := inB n 1 5
set_option maxRecDepth 100000 in
set_option maxHeartbeats 400000 in
theorem l17Is_any (a : Int) (w : World) : Calls Tryd.prog 82 #[.int .i64 a] w fun e w' => e = .returned (.bool (levelB a)) ∧ w = w' := by
  go_enter Tryd.func82, Tryd.ntmps82
  go_wp2_with (go_at_call 80; refine (l00InB_any _ _ _ _).mono ?_; rintro e w' ⟨rfl, rfl⟩)
  go_ret
  exact ⟨rfl, rfl⟩
set_option maxRecDepth 100000 in
set_option maxHeartbeats 400000 in
theorem levelOk_any (a : Int) (w : World) : Calls Tryd.prog 92 #[.int .i64 a] w fun e w' => e = .returned (.bool (levelB a)) ∧ w = w' := by
  go_enter Tryd.func92, Tryd.ntmps92
  go_wp2_with (go_at_call 86; refine (withinB_any _ _ _ _).mono ?_; rintro e w' ⟨rfl, rfl⟩)
  go_ret
  exact ⟨rfl, rfl⟩


end Go.Proofs.YtjlnjeogaokkoaaDoor
