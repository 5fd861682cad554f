/- A record that is not as it is to be changes nothing: plain facts. -/
import Derived.Test.YthnigndpibgibaaDoorPlk
namespace Go.Proofs.YthnigndpibgibaaDoor
open Go.RowKit Go.Shelf

theorem lookup_map {β γ : Type} (f : β → γ) (k : Int) : ∀ l : List (Int × β), (l.map fun t => (t.1, f t.2)).lookup k = (l.lookup k).map f
  | [] => rfl
  | (a, b) :: l => by
    by_cases h : k = a
    · subst h
      simp [List.lookup]
    · have hb : (k == a) = false := by simpa using h
      simp only [List.map_cons, List.lookup, hb]
      exact lookup_map f k l
/-- How many numbers a record of a kind has. -/
def deedN (k : Int) : Option Nat := [((1 : Int), 0), (3, 3), (4, 3), (8, 5), (6, 3), (7, 1), (9, 2), (10, 1), (11, 2), (5, 1), (12, 0), (13, 0), (14, 1), (15, 0), (16, 0)].lookup k
theorem deedN_is (B : BrainV) (k : Int) (L : List Int) : ((deedTs B L).lookup k).map (·.1) = deedN k := by
  rw [← lookup_map (f := fun t : Nat × BrainV => t.1)]
  rfl
theorem not_kind {B : BrainV} {k : Int} (h2 : k ≠ 2) (hn : deedN k = none) (L : List Int) : applyB B k L = B := by
  have := deedN_is B k L
  rw [hn] at this
  have hno : (deedTs B L).lookup k = none := by
    cases h : (deedTs B L).lookup k with
    | none => rfl
    | some x => rw [h] at this; cases this
  unfold applyB
  rw [if_neg h2, hno]
  split <;> rfl
theorem not_len {B : BrainV} {k : Int} (h2 : k ≠ 2) {n : Nat} (hn : deedN k = some n) {L : List Int} (hl : L.length ≠ n) : applyB B k L = B := by
  have := deedN_is B k L
  rw [hn] at this
  unfold applyB
  rw [if_neg h2]
  split
  · rfl
  · cases h : (deedTs B L).lookup k with
    | none => rfl
    | some x =>
      obtain ⟨m, R⟩ := x
      rw [h] at this
      cases this
      dsimp only
      rw [if_neg hl]
theorem not_bad {B : BrainV} {k : Int} {L : List Int} {y : Int} (hy : y ∈ L) (hb : badN y = true) : applyB B k L = B := by
  unfold applyB
  rw [if_pos (List.any_eq_true.2 ⟨y, hy, hb⟩)]
/-- A record that changes something: with another count of numbers it changes nothing. -/
theorem other_len {B : BrainV} {k : Int} {L L' : List Int} (h2 : k ≠ 2) (h : applyB B k L ≠ B) (hl : L'.length ≠ L.length) : applyB B k L' = B := by
  cases hn : deedN k with
  | none => exact absurd (not_kind h2 hn L) h
  | some n =>
    by_cases hL : L.length = n
    · exact not_len h2 hn (by omega)
    · exact absurd (not_len h2 hn hL) h
theorem deedN_great {k : Int} (h : 17 ≤ k) : deedN k = none := by
  unfold deedN
  simp only [List.lookup]
  have e : ∀ m : Int, m < 17 → (k == m) = false := fun m hm => by rw [beq_eq_false_iff_ne]; omega
  rw [e 1 (by omega), e 3 (by omega), e 4 (by omega), e 8 (by omega), e 6 (by omega), e 7 (by omega), e 9 (by omega), e 10 (by omega), e 11 (by omega), e 5 (by omega), e 12 (by omega), e 13 (by omega), e 14 (by omega), e 15 (by omega), e 16 (by omega)]
theorem deedN_zero : deedN 0 = none := by decide
end Go.Proofs.YthnigndpibgibaaDoor
