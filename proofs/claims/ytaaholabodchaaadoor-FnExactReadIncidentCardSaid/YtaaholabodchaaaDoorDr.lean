/- The world of the witnesses: what the door's own run leaves, the library's table laid. -/
import Derived.Test.YtaaholabodchaaaDoorLawL
import Derived.Laws.Tables
import GoSem.PinnedTables
namespace Go.Proofs.YtaaholabodchaaaDoor
noncomputable def doorWorld (os : Os) : World := (World.doorLaid Tryd.prog 72 os).setRow 1 (Go.Pinned.utf8FirstZ.map (fun z : Nat => Value.int .u8 (z : Int))).toArray
end Go.Proofs.YtaaholabodchaaaDoor
