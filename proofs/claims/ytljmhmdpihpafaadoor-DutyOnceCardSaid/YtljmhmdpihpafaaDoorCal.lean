
/- A part of the proofs about open calls: contracts of functions, or plain facts that they want. -/
import Derived.Test.YtljmhmdpihpafaaDoorKpt
namespace Go.Proofs.YtljmhmdpihpafaaDoor
open Go.RowKit Go.Shelf

end Go.Proofs.YtljmhmdpihpafaaDoor
