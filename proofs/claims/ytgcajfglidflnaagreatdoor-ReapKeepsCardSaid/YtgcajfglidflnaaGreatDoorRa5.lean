/- herdref07.Of: a group's row taken in. Printed by gn_ra5.py. -/
import Derived.Test.YtgcajfglidflnaaGreatDoorRbm
import Derived.Test.YtgcajfglidflnaaGreatDoorCk7
namespace Go.Proofs.YtgcajfglidflnaaGreatDoor
open Go.RowKit Go.Shelf
attribute [-go_sem] loadVar storeVar Instr.buildSlice sliced run_sliceAt_slice
attribute [local go_sem] load_other2 store_other2

end Go.Proofs.YtgcajfglidflnaaGreatDoor
