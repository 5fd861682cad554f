/- brain.rising. -/
import Derived.Test.YtgcajfglidflnaaGreatDoorCk7
namespace Go.Proofs.YtgcajfglidflnaaGreatDoor
open Go.RowKit Go.Shelf

def RiseP (hi : Int) (l : List Int) : Prop := (∀ x ∈ l, 0 < x ∧ x ≤ hi) ∧ l.Pairwise (· < ·)
def riseB (hi : Int) (l : List Int) : Bool := decide ((∀ x ∈ l, 0 < x ∧ x ≤ hi) ∧ l.Pairwise (· < ·))
theorem riseB_iff {hi : Int} {l : List Int} : riseB hi l = true ↔ RiseP hi l := by unfold riseB RiseP; exact decide_eq_true_iff
def RiseL (hi : Int) (l : List Int) (last : Int) : Prop := RiseP hi l ∧ (∀ y ∈ l, y ≤ last) ∧ 0 ≤ last ∧ (last = 0 ∨ last ∈ l)
theorem RiseL.nil (hi : Int) : RiseL hi [] 0 := ⟨⟨by simp, List.Pairwise.nil⟩, by simp, by omega, .inl rfl⟩
theorem RiseL.snoc {hi : Int} {l : List Int} {last x : Int} (h : RiseL hi l last) (h1 : ¬ x ≤ last) (h2 : ¬ hi < x) : RiseL hi (l ++ [x]) x := by
 obtain ⟨⟨p1, p2⟩, p3, p4, _⟩ := h
 refine ⟨⟨?_, ?_⟩, ?_, by omega, .inr (by simp)⟩
 ·intro y hy
  rcases List.mem_append.1 hy with hy | hy
  ·exact p1 y hy
  ·simp at hy; subst hy; omega
 ·rw [List.pairwise_append]
  refine ⟨p2, List.pairwise_singleton _ _, ?_⟩
  intro a ha c hc
  simp at hc
  subst hc
  have := p3 a ha
  omega
 ·intro y hy
  rcases List.mem_append.1 hy with hy | hy
  ·have := p3 y hy; omega
  ·simp at hy; omega
theorem RiseL.stop {hi : Int} {l : List Int} {last x : Int} {k : Nat} (h : RiseL hi (l.take k) last) (hx : l[k]? = some x) (hb : x ≤ last ∨ hi < x) : riseB hi l = false := by
 apply Bool.eq_false_iff.2
 intro hr
 obtain ⟨q1, q2⟩ := riseB_iff.1 hr
 have hm := q1 x (mem_get hx)
 obtain ⟨_, _, p4, p5⟩ := h
 rcases hb with hb | hb
 ·rcases p5 with rfl | hin
  ·omega
  ·obtain ⟨j, hj, e⟩ := List.mem_iff_getElem.1 hin
   have hjk : j < k := by simp at hj; omega
   have hkl := lt_get hx
   have := List.pairwise_iff_getElem.1 q2 j k (by omega) hkl hjk
   rw [List.getElem_take] at e
   rw [List.getElem?_eq_getElem hkl] at hx
   cases hx
   omega
 ·omega
end Go.Proofs.YtgcajfglidflnaaGreatDoor
