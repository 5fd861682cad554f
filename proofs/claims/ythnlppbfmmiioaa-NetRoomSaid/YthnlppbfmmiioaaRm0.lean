/- The walk of NetRoom. -/
import Derived.Test.YthnlppbfmmiioaaTn0
namespace Go.Proofs.Ythnlppbfmmiioaa
open Go.RowKit Go.Shelf

theorem sendV_full (n : NetV) (x : AskV) (h : 60 ≤ n.asks.length) : sendV n x = (n, 110) := by unfold sendV; rw [if_neg (by omega)]
theorem postV_full (n : NetV) (x : TellV) (h : 60 ≤ n.tells.length) : postV n x = (n, 110) := by unfold postV; rw [if_neg (by omega)]
theorem twice_empty (n : NetV) (at' : Int) (b : Bool) (h : (if b then n.tells.length else n.asks.length) = 0) : twiceV n at' b = (n, 0) := by
  unfold twiceV
  cases b
  · have : n.asks = [] := List.eq_nil_of_length_eq_zero (by simpa using h)
    rw [this]; rfl
  · have : n.tells = [] := List.eq_nil_of_length_eq_zero (by simpa using h)
    rw [this]; rfl
/-- What a sending twice comes to: the new lengths, the error. -/
def roomOf (n D : NetV) (f : Int) (b : Bool) : Prop :=
  if b then D.asks.length = n.asks.length ∧ ((n.tells.length = 0 ∧ D.tells.length = 0 ∧ f = 0) ∨ (60 ≤ n.tells.length ∧ D.tells.length = n.tells.length ∧ f = 110) ∨ (0 < n.tells.length ∧ n.tells.length < 60 ∧ D.tells.length = n.tells.length + 1 ∧ f = 0))
  else D.tells.length = n.tells.length ∧ ((n.asks.length = 0 ∧ D.asks.length = 0 ∧ f = 0) ∨ (60 ≤ n.asks.length ∧ D.asks.length = n.asks.length ∧ f = 110) ∨ (0 < n.asks.length ∧ n.asks.length < 60 ∧ D.asks.length = n.asks.length + 1 ∧ f = 0))
theorem room_is {n D : NetV} {f : Int} (hs : small n) (at' : Int) (b : Bool) (h : twiceV n at' b = (D, f)) : roomOf n D f b := by
  cases b
  · unfold roomOf
    simp only [Bool.false_eq_true, if_false]
    by_cases h0 : n.asks.length = 0
    · rw [twice_empty n at' false (by simpa using h0)] at h
      cases h; exact ⟨rfl, .inl ⟨h0, h0, rfl⟩⟩
    · obtain ⟨x, m, _, h2, _⟩ := ask_some n at' (by omega) hs.ok.1
      rw [h2] at h
      by_cases h6 : 60 ≤ n.asks.length
      · rw [sendV_full n x h6] at h
        cases h; exact ⟨rfl, .inr (.inl ⟨h6, rfl, rfl⟩)⟩
      · rw [sendV_room n x (by omega)] at h
        cases h; exact ⟨rfl, .inr (.inr ⟨by omega, by omega, by simp, rfl⟩)⟩
  · unfold roomOf
    simp only [if_true]
    by_cases h0 : n.tells.length = 0
    · rw [twice_empty n at' true (by simpa using h0)] at h
      cases h; exact ⟨rfl, .inl ⟨h0, h0, rfl⟩⟩
    · obtain ⟨x, m, _, h2, _⟩ := tell_some n at' (by omega) hs.ok.2.1
      rw [h2] at h
      by_cases h6 : 60 ≤ n.tells.length
      · rw [postV_full n x h6] at h
        cases h; exact ⟨rfl, .inr (.inl ⟨h6, rfl, rfl⟩)⟩
      · rw [postV_room n x (by omega)] at h
        cases h; exact ⟨rfl, .inr (.inr ⟨by omega, by omega, by simp, rfl⟩)⟩
end Go.Proofs.Ythnlppbfmmiioaa
