/- The world of the witnesses: what the door's own run leaves, the library's table laid. -/
import Derived.Test.YtaaholabodchaaaGreatDoorLawL
import Derived.Laws.Tables
import GoSem.PinnedTables
namespace Go.Proofs.YtaaholabodchaaaGreatDoor
noncomputable def doorWorld (os : Os) : World := (World.doorLaid Tryz.prog 72 os).setRow 3 (Go.Pinned.utf8FirstZ.map (fun z : Nat => Value.int .u8 (z : Int))).toArray
end Go.Proofs.YtaaholabodchaaaGreatDoor
