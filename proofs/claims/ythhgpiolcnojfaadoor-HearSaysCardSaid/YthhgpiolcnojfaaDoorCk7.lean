
/- herdref07.Check of a group, exact. Printed by gn_ck7.py. -/
import Derived.Test.YthhgpiolcnojfaaDoorCfm
import Derived.Deep.RegionHeld3
namespace Go.Proofs.YthhgpiolcnojfaaDoor
open Go.RowKit Go.Shelf

theorem quiet_left {P : Program} {f : FuncId} {args : Array Value} {w : World} {n : Nat} {v : Value} (h : Calls P f args (w.drewN n) fun e w' => e = .returned v ∧ w.drewN n = w') : Calls P f args (w.drewN n) fun e w'' => e = .returned v ∧ ∃ m, w'' = w.drewN m :=
  h.mono fun _ _ ⟨he, hm⟩ => ⟨he, n, hm.symm⟩
/-- Which numbers the five waits are. -/
def wIx (j : Nat) : Nat := [4, 5, 6, 7, 11].getD j 0
theorem wIx_lt {k : Nat} (h : k < 5) : wIx k < 13 := by
  match k, h with
  | 0, _ => decide
  | 1, _ => decide
  | 2, _ => decide
  | 3, _ => decide
  | 4, _ => decide
theorem wIx_lim {k : Nat} (h : k < 5) : limAt (wIx k) = (0, 20) := by
  match k, h with
  | 0, _ => rfl
  | 1, _ => rfl
  | 2, _ => rfl
  | 3, _ => rfl
  | 4, _ => rfl
theorem check_no {f : Nat → Int} {M : List Int} {i : Nat} (hi : i < 13) (h : withB (f i) (limAt i).1 (limAt i).2 = false) : checkB f M = false := by
  unfold checkB
  rw [fieldsB_no hi h]
  rfl
theorem check_long {f : Nat → Int} {M : List Int} (h : 4 < M.length) : checkB f M = false := by
  unfold checkB
  have : decide (M.length ≤ 4) = false := by simp; omega
  rw [this]
  simp
theorem check_marks {f : Nat → Int} {M : List Int} (h : marksB M = false) : checkB f M = false := by
  unfold checkB
  rw [h]
  simp
theorem fieldsB_all {f : Nat → Int} (h0 : withB (f 0) 0 6 = true) (h1 : withB (f 1) 0 100 = true) (h2 : withB (f 2) 0 3 = true) (h3 : withB (f 3) 0 3 = true) (h5 : ∀ j, j < 5 → withB (f (wIx j)) 0 20 = true)
    (h8 : withB (f 8) 1 20 = true) (h9 : withB (f 9) 1 20 = true) (h10 : withB (f 10) 1 20 = true) (h12 : withB (f 12) 1 1099511627776 = true) : fieldsB f = true := by
  unfold fieldsB
  rw [List.all_eq_true]
  intro i hi
  have hi := List.mem_range.1 hi
  match i, hi with
  | 0, _ => exact h0
  | 1, _ => exact h1
  | 2, _ => exact h2
  | 3, _ => exact h3
  | 4, _ => exact h5 0 (by decide)
  | 5, _ => exact h5 1 (by decide)
  | 6, _ => exact h5 2 (by decide)
  | 7, _ => exact h5 3 (by decide)
  | 8, _ => exact h8
  | 9, _ => exact h9
  | 10, _ => exact h10
  | 11, _ => exact h5 4 (by decide)
  | 12, _ => exact h12
attribute [-go_sem] loadVar
attribute [local go_sem] load_other2

end Go.Proofs.YthhgpiolcnojfaaDoor
