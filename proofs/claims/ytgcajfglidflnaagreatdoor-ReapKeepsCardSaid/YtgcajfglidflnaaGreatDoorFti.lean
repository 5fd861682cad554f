import Derived.Test.YtgcajfglidflnaaGreatDoorEsm
import Derived.Test.YtgcajfglidflnaaGreatDoorGtm
import Derived.Test.YtgcajfglidflnaaGreatDoorPlk
/- brain.Same of brains in hand. -/
namespace Go.Proofs.YtgcajfglidflnaaGreatDoor
open Go.RowKit Go.Shelf

theorem bsame_is {A B : BrainV} {u v : Value} {w : World} (b : Bool) (hb : sameB A B = b) (h : BrIs w A u) (h' : BrIs w B v) : Calls Tryz.prog 27 #[u, v] w fun e w' => e = .returned (.bool b) ∧ Below w.heap.size w w' := by
 obtain ⟨m1, i1, k1, rfl, q1, q2, q3⟩ := h
 obtain ⟨m2, i2, k2, rfl, p1, p2, p3⟩ := h'
 rw [← hb]
 exact bsame_any A B m1 i1 k1 m2 i2 k2 w q1 q2 q3 p1 p2 p3
end Go.Proofs.YtgcajfglidflnaaGreatDoor

/- brain.Find, brain.Token of a brain in hand. -/
namespace Go.Proofs.YtgcajfglidflnaaGreatDoor
open Go.RowKit Go.Shelf

theorem appM {n : Nat} (hn : 4 ≤ n) : ∀ (R : List RecE) {B : BrainV}, B.M.length ≤ n → (applyAll B R).M.length ≤ n
 | [], _, h => h
 | r :: R, B, h => appM hn R (applyB_M B r.k r.L h hn)
theorem find_is {B : BrainV} {v : Value} {w : World} (t r : Int) (hr : idxL B.K (fun x => x.id == t) = r) (h : BrIs w B v) (hl : B.K.length ≤ 1000) : Calls Tryz.prog 43 #[v, .int .i64 t] w fun e w' => e = .returned (.int .i64 r) ∧ Below w.heap.size w w' := by
 obtain ⟨m1, i1, k1, rfl, q1, q2, q3⟩ := h
 rw [← hr]
 exact bfind_any _ _ _ (brT_bc _ _ _ _ _) B.K t w q3 hl
theorem token_is {B : BrainV} {v : Value} {w : World} (t r : Int) (hr : idxL B.I (fun x => x.token == t) = r) (h : BrIs w B v) (hl : B.I.length ≤ 1000) : Calls Tryz.prog 42 #[v, .int .i64 t] w fun e w' => e = .returned (.int .i64 r) ∧ Below w.heap.size w w' := by
 obtain ⟨m1, i1, k1, rfl, q1, q2, q3⟩ := h
 rw [← hr]
 exact btoken_any _ _ _ (brT_bc _ _ _ _ _) B.I t w q2 hl
end Go.Proofs.YtgcajfglidflnaaGreatDoor
