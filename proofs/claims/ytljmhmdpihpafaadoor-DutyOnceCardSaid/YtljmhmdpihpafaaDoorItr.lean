
/- A part of the proofs about open calls: contracts of functions, or plain facts that they want. -/
import Derived.Test.YtljmhmdpihpafaaDoorRgt
import Derived.RangeFuncNested
import Derived.RangeFuncBound
import Derived.RangeFuncCalls
import Derived.RangeFuncLeaves
import Derived.RangeFuncBox
import Derived.Shelf.Abstract
import Derived.Shelf.RegionOpen
import Derived.OwnWalkIn
import Derived.TacticsInMore
import Derived.LoopNIn
import Derived.LoopIn
namespace Go.Proofs.YtljmhmdpihpafaaDoor
open Go.RowKit Go.Shelf
attribute [local go_sem] Oper.semAt_some

theorem On.putObj {S : Nat → Prop} {a w : World} (h : On S a w) {l : Nat} (hl : ¬ S l) (o : Obj) : On S a (w.putObj l o) :=
  ⟨by simpa [World.putObj] using h.size, fun k hk hlt => by
    rw [← h.block k hk hlt]; simp only [World.putObj, Array.getElem?_setIfInBounds]; rw [if_neg (fun e => hl (by rw [e]; exact hk))]⟩

theorem blk_put {b D : Nat} {W : World} {c : Array Value} {t : TypeId} {o : Obj} (h : W.heap[b]? = some (.cells c t)) (hD : W.heap[D]? = some o) (ho : o.isCells = false) (o' : Obj) : (W.putObj D o').heap[b]? = some (.cells c t) := by
  have hne : ¬ D = b := by rintro rfl; rw [h] at hD; cases hD; cases ho
  simp only [World.putObj, Array.getElem?_setIfInBounds]; rw [if_neg hne]; exact h
theorem below_put {B D : Nat} {a W : World} (h : Below B a W) (hD : B ≤ D) (o : Obj) : Below B a (W.putObj D o) :=
  ⟨h.os, h.tape, h.output, by simpa [World.putObj] using h.size, fun k hk => by
    rw [← h.block k hk]; simp only [World.putObj, Array.getElem?_setIfInBounds]; rw [if_neg (by omega)]⟩
theorem keeps_set {a w : World} (h : KeepsOthers a w) (p : Addr) (u : Value) : KeepsOthers a (w.setCell p u) := h.trans (KeepsOthers.setCell _ _ _)

def itemC (x : CallV) : Array Value := #[encS x]

end Go.Proofs.YtljmhmdpihpafaaDoor
