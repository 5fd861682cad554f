/- brain.Same of brains in hand. -/
import Derived.Test.YtgcajfglidflnaaDoorEsm
import Derived.Test.YtgcajfglidflnaaDoorGtm
namespace Go.Proofs.YtgcajfglidflnaaDoor
open Go.RowKit Go.Shelf

theorem bsame_is {A B : BrainV} {u v : Value} {w : World} (b : Bool) (hb : sameB A B = b) (h : BrIs w A u) (h' : BrIs w B v) : Calls Tryd.prog 26 #[u, v] w fun e w' => e = .returned (.bool b) ∧ Below w.heap.size w w' := by
  obtain ⟨m1, i1, k1, rfl, q1, q2, q3⟩ := h
  obtain ⟨m2, i2, k2, rfl, p1, p2, p3⟩ := h'
  rw [← hb]
  exact bsame_any A B m1 i1 k1 m2 i2 k2 w q1 q2 q3 p1 p2 p3
end Go.Proofs.YtgcajfglidflnaaDoor
