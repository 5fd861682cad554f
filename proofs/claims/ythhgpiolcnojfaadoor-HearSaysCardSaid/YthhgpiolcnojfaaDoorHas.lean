
/- A part of the proofs about open calls: contracts of functions, or plain facts that they want. -/
import Derived.Test.YthhgpiolcnojfaaDoorCl
namespace Go.Proofs.YthhgpiolcnojfaaDoor
open Go.RowKit Go.Shelf

/-- What holds at each jump of call.Has. -/
def HasJ (ep nx kd ky : Int) (l : List CallV) (b off c : Nat) (w : World) (a' : Act) (w' : World) : Prop :=
  ∃ (k : Nat) (u8 u9 u10 u11 u12 u13 u14 u15 u16 u17 u18 u19 u20 u21 u22 u23 u24 u25 u26 u27 u28 u29 u30 : Value), a' = { tmps := #[.agg #[.int .i64 ep, .int .i64 nx, .slice (some ⟨b, off, none⟩) l.length c], .int .u8 kd, .int .i64 ky, .pointer (some ⟨w.heap.size, 0, none⟩), undef, undef, .bool false, .int .i64 k, u8, u9, u10, u11, u12, u13, u14, u15, u16, u17, u18, u19, u20, u21, u22, u23, u24, u25, u26, u27, u28, u29, u30], defers := [] } ∧
    k ≤ l.length ∧ hasB (l.take k) kd ky = false ∧ Below (w.heap.size + 1) (w.alloc (.cells #[.int .i64 ep, .int .i64 nx, .slice (some ⟨b, off, none⟩) l.length c] 37)) w'

end Go.Proofs.YthhgpiolcnojfaaDoor
