
/- A part of the proofs about open calls: contracts of functions, or plain facts that they want. -/
import Derived.Test.YtljmhmdpihpafaaDoorKpt
namespace Go.Proofs.YtljmhmdpihpafaaDoor
open Go.RowKit Go.Shelf

theorem res_calls_int {fn : Func} {tmps : Array Value} {r q : Tmp} {b : Nat} {x y z u : Value} {W : World} (hres : fn.results = #[.cell r 33, .tmp q]) (h : tmps.getD r undef = .pointer (some ⟨b, 0, none⟩)) (hq : tmps.getD q undef = u) (hb : W.heap[b]? = some (.cells #[x, y, z] 33)) :
    (results fn tmps).run Tryd.prog W = .ok (.tuple #[.agg #[x, y, z], u]) W := by
  obtain ⟨k0, k1, k2, _, _⟩ := blk3 hb
  rw [Array.getD_eq_getD_getElem?] at h hq
  simp [results, hres, go_sem, h, hq, k0, k1, k2]

def beginV (epoch : Int) : Int × Int × Int := if epoch < 0 ∨ 524288 < epoch then (0, 0, 2) else (epoch, 1, 0)

/-- Are calls the same? -/
def sameV (a b : CallsV) : Bool := decide (a.epoch = b.epoch) && decide (a.next = b.next) && decide (a.opens = b.opens)

end Go.Proofs.YtljmhmdpihpafaaDoor
