
/- A part of the proofs about open calls: contracts of functions, or plain facts that they want. -/
import Derived.Test.YtljmhmdpihpafaaDoorItr
namespace Go.Proofs.YtljmhmdpihpafaaDoor
open Go.RowKit Go.Shelf
attribute [local go_sem] Oper.semAt_some

def findC (L : List CallV) (id : Int) : CallV × Bool :=
  match L.find? (fun x => x.id == id) with
  | some x => (x, true)
  | none => (⟨0, 0, 0, 0⟩, false)

/-- Between two rounds of Find's loop. -/
def FindI (w w0 : World) (pre : List CallV) (W : World) : Prop :=
  pre = [] ∧ W.heap[w.heap.size + 2]? = some (.cells #[.int .i64 0, .int .u8 0, .int .i64 0, .int .i64 0] 45) ∧ W.heap[w.heap.size + 3]? = some (.cells #[.bool false] 4) ∧ Below w.heap.size w0 W
/-- Where a round of Find's loop has left. -/
def FindX (w w0 : World) (c : Code) (pre : List CallV) (W : World) : Prop :=
  c = .ret ∧ ∃ x, pre = [x] ∧ W.heap[w.heap.size + 2]? = some (.cells #[.int .i64 x.id, .int .u8 x.kind, .int .i64 x.key, .int .i64 x.sent] 45) ∧ W.heap[w.heap.size + 3]? = some (.cells #[.bool true] 4) ∧ Below w.heap.size w0 W

theorem own_blk {W W' : World} {row : Option Nat} {b : Nat} {c : Array Value} {t : TypeId} (h : W.heap[b]? = some (.cells c t)) (hg : W.grownBy W' row) (hr : ∀ r, row = some r → ∃ o : Obj, W.heap[r]? = some o ∧ o.isCells = false) : W'.heap[b]? = some (.cells c t) :=
  blk_grown h hg (fun e => by obtain ⟨o, ho, hc⟩ := hr b e.symm; rw [h] at ho; cases ho; cases hc)

theorem FindI.own {w w0 : World} {B : Nat} (hB : w.heap.size ≤ B) (hw : w.heap.size ≤ w0.heap.size) : OwnFrom B (FindI w w0) := by
  rintro pre W W' row ⟨h1, h2, h3, h4⟩ hg hr
  refine ⟨h1, own_blk h2 hg (fun r e => (hr r e).2), own_blk h3 hg (fun r e => (hr r e).2), h4.grown hg (Nat.le_trans hw h4.size) (fun k e => Nat.le_trans hB (hr k e).1)⟩
theorem FindX.own {w w0 : World} {B : Nat} (c : Code) (hB : w.heap.size ≤ B) (hw : w.heap.size ≤ w0.heap.size) : OwnFrom B (FindX w w0 c) := by
  rintro pre W W' row ⟨h0, x, h1, h2, h3, h4⟩ hg hr
  exact ⟨h0, x, h1, own_blk h2 hg (fun r e => (hr r e).2), own_blk h3 hg (fun r e => (hr r e).2), h4.grown hg (Nat.le_trans hw h4.size) (fun k e => Nat.le_trans hB (hr k e).1)⟩

/-- The blocks that Find's loop leaves alone. -/
def FindS (w : World) (k : Nat) : Prop := k < w.heap.size + 6 ∧ k ≠ w.heap.size + 2 ∧ k ≠ w.heap.size + 3

/-- Where Find's loop variable lies. -/
def FindA (w : World) (frame : Nat → CallV → Act) (x : CallV) (a' : Act) (W : World) : Prop :=
  ∃ Bx, w.heap.size + 6 ≤ Bx ∧ W.heap[Bx]? = some (.cells #[.int .i64 x.id, .int .u8 x.kind, .int .i64 x.key, .int .i64 x.sent] 45) ∧ a' = frame Bx x
theorem FindA.own {w : World} {frame : Nat → CallV → Act} {B : Nat} (x : CallV) (a' : Act) : OwnFrom B (fun (_ : Unit) W => FindA w frame x a' W) := by
  rintro _ W W' row ⟨Bx, h1, h2, h3⟩ hg hr
  exact ⟨Bx, h1, own_blk h2 hg (fun r e => (hr r e).2), h3⟩

end Go.Proofs.YtljmhmdpihpafaaDoor
