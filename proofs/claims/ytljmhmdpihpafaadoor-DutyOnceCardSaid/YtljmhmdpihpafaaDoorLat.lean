
/- A part of the proofs about open calls: contracts of functions, or plain facts that they want. -/
import Derived.Test.YtljmhmdpihpafaaDoorCal
namespace Go.Proofs.YtljmhmdpihpafaaDoor
open Go.RowKit Go.Shelf

/-- What Late leaves. -/
def lateL (c : CallsV) (now tm : Int) : List CallV := if numB now && numB tm then keptL c (fun x => decide (now < wrap64 (x.sent + tm))) else c.opens

theorem keptL_all (c : CallsV) : keptL c (fun _ => true) = c.opens := by unfold keptL; split <;> simp

end Go.Proofs.YtljmhmdpihpafaaDoor
