/- The world of the witnesses: what the door's own run leaves, the library's table laid. -/
import Derived.Test.YtdlihohkamajbaaDoorLawL
import Derived.Laws.Tables
import GoSem.PinnedTables
namespace Go.Proofs.YtdlihohkamajbaaDoor
noncomputable def doorWorld (os : Os) : World := World.doorLaid Tryd.prog 24 os
end Go.Proofs.YtdlihohkamajbaaDoor
