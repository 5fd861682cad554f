/- herdref07.Of: a group's row taken in. Printed by gn_ra5.py. -/
import Derived.Test.YthhgpiolcnojfaaGreatDoorRbm
import Derived.Test.YthhgpiolcnojfaaGreatDoorCk7
namespace Go.Proofs.YthhgpiolcnojfaaGreatDoor
open Go.RowKit Go.Shelf
attribute [-go_sem] loadVar storeVar Instr.buildSlice sliced run_sliceAt_slice
attribute [local go_sem] load_other2 store_other2

end Go.Proofs.YthhgpiolcnojfaaGreatDoor
