
/- A part of the proofs about open calls: contracts of functions, or plain facts that they want. -/
import Derived.Test.YthhgpiolcnojfaaDoorCln
namespace Go.Proofs.YthhgpiolcnojfaaDoor
open Go.RowKit Go.Shelf

def sameX (x y : CallV) : Bool := x.id == y.id && (x.kind == y.kind && (x.key == y.key && x.sent == y.sent))
theorem sameX_iff {x y : CallV} : sameX x y = true ↔ x = y := by
  cases x; cases y; simp [sameX]
theorem neq_run (x y : CallV) (w : World) : (binOp .neq 23 (.agg #[.int .i64 x.id, .int .u8 x.kind, .int .i64 x.key, .int .i64 x.sent]) (.agg #[.int .i64 y.id, .int .u8 y.kind, .int .i64 y.key, .int .i64 y.sent])).run Tryd.prog w = .ok (.bool (!sameX x y)) w := by
  simp [go_sem]
  by_cases h1 : x.id = y.id <;> by_cases h2 : x.kind = y.kind <;> by_cases h3 : x.key = y.key <;> by_cases h4 : x.sent = y.sent <;> simp [sameX, h1, h2, h3, h4]
theorem eq_false_at {L M : List CallV} {k : Nat} {x y : CallV} (hx : L[k]? = some x) (hy : M[k]? = some y) (h : ¬ x = y) : decide (L = M) = false := by
  apply decide_eq_false
  rintro rfl
  rw [hx] at hy
  exact h (by simpa using hy)

end Go.Proofs.YthhgpiolcnojfaaDoor
