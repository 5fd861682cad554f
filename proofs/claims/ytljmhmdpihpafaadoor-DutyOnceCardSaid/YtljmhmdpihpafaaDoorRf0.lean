
/- The reference's functions of layer 12: kind, number, and which calls may be. -/
import Derived.Test.YtljmhmdpihpafaaDoorNm0
namespace Go.Proofs.YtljmhmdpihpafaaDoor
open Go.RowKit Go.Shelf

set_option maxHeartbeats 400000 in
theorem rkind_any (k : Int) (w : World) : Calls Tryd.prog 18 #[.int .u8 k] w fun e w' => e = .returned (.bool (kindB k)) ∧ w = w' := by
  by_cases h1 : 1 ≤ k
  · have d1 : decide (1 ≤ k) = true := by simpa using h1
    have e0 : kindB k = decide (k < 8) := by simp [kindB, h1]
    rw [e0]
    go_enter Tryd.func18, Tryd.ntmps18
    go_wp2
    go_ret
    exact ⟨rfl, rfl⟩
  · have d1 : decide (1 ≤ k) = false := by simpa using h1
    have e0 : kindB k = false := by simp [kindB]; omega
    rw [e0]
    go_enter Tryd.func18, Tryd.ntmps18
    go_wp2
    go_ret
    exact ⟨rfl, rfl⟩
set_option maxHeartbeats 400000 in
theorem rnum_any (n : Int) (w : World) : Calls Tryd.prog 19 #[.int .i64 n] w fun e w' => e = .returned (.bool (numB n)) ∧ w = w' := by
  by_cases h1 : 0 ≤ n
  · have d1 : decide (0 ≤ n) = true := by simpa using h1
    have e0 : numB n = decide (n ≤ 1099511627776) := by simp [numB, h1]
    rw [e0]
    go_enter Tryd.func19, Tryd.ntmps19
    go_wp2
    go_ret
    exact ⟨rfl, rfl⟩
  · have d1 : decide (0 ≤ n) = false := by simpa using h1
    have e0 : numB n = false := by simp [numB]; omega
    rw [e0]
    go_enter Tryd.func19, Tryd.ntmps19
    go_wp2
    go_ret
    exact ⟨rfl, rfl⟩
/-- What a round of the reference's Right looks at: the call at a place, by those ahead of it. -/
def refAt (ep nx : Int) (pre : List CallV) (x : CallV) : Bool :=
  decide (1 ≤ wrap64 (x.id - ep * 1048576)) && (decide (wrap64 (x.id - ep * 1048576) < nx) && ((match pre.getLast? with | none => true | some y => decide (y.id < x.id)) && (kindB x.kind && (numB x.key && (numB x.sent && !hasB pre x.kind x.key)))))

def goF (ep nx : Int) : List CallV → List CallV → Bool
  | _, [] => true
  | pre, x :: xs => refAt ep nx pre x && goF ep nx (pre ++ [x]) xs
end Go.Proofs.YtljmhmdpihpafaaDoor
