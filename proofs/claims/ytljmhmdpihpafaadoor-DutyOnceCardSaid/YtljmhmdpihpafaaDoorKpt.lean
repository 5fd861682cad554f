
/- A part of the proofs about open calls: contracts of functions, or plain facts that they want. -/
import Derived.Test.YtljmhmdpihpafaaDoorCol
import Derived.Test.YtljmhmdpihpafaaDoorEqu
import Derived.Test.YtljmhmdpihpafaaDoorFnd
import Derived.Test.YtljmhmdpihpafaaDoorHas
namespace Go.Proofs.YtljmhmdpihpafaaDoor
open Go.RowKit Go.Shelf

theorem res_calls {fn : Func} {tmps : Array Value} {r : Tmp} {b : Nat} {x y z : Value} {W : World} (hres : fn.results = #[.cell r 33]) (h : tmps.getD r undef = .pointer (some ⟨b, 0, none⟩)) (hb : W.heap[b]? = some (.cells #[x, y, z] 33)) :
    (results fn tmps).run Tryd.prog W = .ok (.agg #[x, y, z]) W := by
  obtain ⟨k0, k1, k2, _, _⟩ := blk3 hb
  rw [Array.getD_eq_getD_getElem?] at h
  simp [results, hres, go_sem, h, k0, k1, k2]

def keptL (c : CallsV) (f : CallV → Bool) : List CallV := if rightB c then c.opens.filter f else c.opens

end Go.Proofs.YtljmhmdpihpafaaDoor
