/- herdref13.Right: exact. Printed by gn_rr.py. -/
import Derived.Test.YthhgpiolcnojfaaGreatDoorRt
import Derived.Test.YthhgpiolcnojfaaGreatDoorEqm
import Derived.BigQuiet
namespace Go.Proofs.YthhgpiolcnojfaaGreatDoor
open Go.RowKit Go.Shelf
attribute [-go_sem] loadVar
attribute [local go_sem] load_other2

end Go.Proofs.YthhgpiolcnojfaaGreatDoor
