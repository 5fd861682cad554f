
/- herdref13.Right: exact. Printed by gn_rr.py. -/
import Derived.Test.YthhgpiolcnojfaaDoorRt
import Derived.Test.YthhgpiolcnojfaaDoorEqm
import Derived.BigQuiet
namespace Go.Proofs.YthhgpiolcnojfaaDoor
open Go.RowKit Go.Shelf
attribute [-go_sem] loadVar
attribute [local go_sem] load_other2

theorem right_fine {B : BrainV} (h : rightB B = true) : 0 ≤ B.f 0 ∧ B.f 0 ≤ 1099511627776 ∧ 0 ≤ B.f 1 ∧ B.f 1 ≤ 1099511627776 ∧ phasesB B.K = true ∧ riseB (B.f 1) (B.I.map IntentV.token) = true ∧ riseB 1099511627776 (B.K.map KeptV.id) = true := by
  have hf : fineB B = true := by
    unfold rightB at h
    have hr : refB B = true := by
      split at h
      · exact (Bool.and_eq_true _ _ ▸ h).1
      · exact (Bool.and_eq_true _ _ ▸ h).1
    unfold refB at hr
    split at hr
    · exact (Bool.and_eq_true _ _ ▸ hr).1
    · exact hr
  unfold fineB at hf
  simpa only [Bool.and_eq_true, decide_eq_true_eq] using hf
theorem right_iff {B : BrainV} : rightB B = true ↔ (0 ≤ B.f 0 ∧ B.f 0 ≤ 1099511627776 ∧ 0 ≤ B.f 1 ∧ B.f 1 ≤ 1099511627776 ∧ phasesB B.K = true ∧ riseB (B.f 1) (B.I.map IntentV.token) = true ∧ riseB 1099511627776 (B.K.map KeptV.id) = true) ∧
    (B.f 20 = 1 → 1 ≤ B.f 21 ∧ B.f 21 ≤ 1099511627776 ∧ 1 ≤ B.f 22 ∧ B.f 22 ≤ 1099511627776) ∧ (B.g 2 = true → checkB (fun i => B.f (i + 3)) B.M = true) ∧ (B.g 2 = false → B.I.length = 0 ∧ B.f 20 = 0) := by
  have hfi : fineB B = true ↔ (0 ≤ B.f 0 ∧ B.f 0 ≤ 1099511627776 ∧ 0 ≤ B.f 1 ∧ B.f 1 ≤ 1099511627776 ∧ phasesB B.K = true ∧ riseB (B.f 1) (B.I.map IntentV.token) = true ∧ riseB 1099511627776 (B.K.map KeptV.id) = true) := by
    unfold fineB
    simp only [Bool.and_eq_true, decide_eq_true_eq]
  rw [← hfi]
  have hrf : refB B = true ↔ fineB B = true ∧ (B.f 20 = 1 → 1 ≤ B.f 21 ∧ B.f 21 ≤ 1099511627776 ∧ 1 ≤ B.f 22 ∧ B.f 22 ≤ 1099511627776) := by
    unfold refB
    by_cases h : B.f 20 = 1
    · simp only [h, if_true, Bool.and_eq_true, decide_eq_true_eq, true_implies]
      constructor
      · rintro ⟨h1, h2, h3⟩; exact ⟨h1, by have := Int.min_le_left (B.f 21) (B.f 22); have := Int.min_le_right (B.f 21) (B.f 22); have := Int.le_max_left (B.f 21) (B.f 22); have := Int.le_max_right (B.f 21) (B.f 22); omega⟩
      · rintro ⟨h1, h2⟩; exact ⟨h1, by omega⟩
    · simp [h]
  unfold rightB
  cases hg : B.g 2
  · simp only [Bool.false_eq_true, if_false, Bool.and_eq_true, decide_eq_true_eq, hrf, true_implies, false_imp_iff, true_and, and_assoc]
  · simp only [if_true, Bool.and_eq_true, hrf, true_implies, and_assoc, Bool.true_eq_false, false_imp_iff, and_true]
theorem right_no {B : BrainV} {r : Bool} (hr : rightB B = r) (h : rightB B = true → False) : r = false := by
  rw [← hr, Bool.eq_false_iff]
  exact h
theorem map_at {α β : Type} {l : List α} {k : Nat} {x : α} (f : α → β) (h : l[k]? = some x) : (l.map f)[k]? = some (f x) := by simp [h]
theorem map_take' {α β : Type} (l : List α) (k : Nat) (f : α → β) : (l.map f).take k = (l.take k).map f := by simp [List.map_take]
end Go.Proofs.YthhgpiolcnojfaaDoor
