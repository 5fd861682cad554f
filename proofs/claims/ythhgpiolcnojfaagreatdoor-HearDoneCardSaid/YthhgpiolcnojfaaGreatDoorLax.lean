import Derived.Test.YthhgpiolcnojfaaGreatDoorCam
/- A part of the proofs about open calls: contracts of functions, or plain facts that they want. -/
namespace Go.Proofs.YthhgpiolcnojfaaGreatDoor
open Go.RowKit Go.Shelf

end Go.Proofs.YthhgpiolcnojfaaGreatDoor

/- Plain facts on calls (out of Nm0, Nm1, Lt0). -/
namespace Go.Proofs.YthhgpiolcnojfaaGreatDoor
open Go.RowKit Go.Shelf

theorem rightB_iff {c : CallsV} : crightB c = true ↔ (0 ≤ c.epoch ∧ c.epoch ≤ 524288 ∧ 1 ≤ c.next ∧ c.next ≤ 1048576) ∧ goR (c.epoch * 1048576 + c.next) (c.epoch * 1048576) [] c.opens = true := by
 unfold crightB
 simp only [Bool.and_eq_true, decide_eq_true_eq]
 constructor
 ·rintro ⟨⟨⟨⟨a, b⟩, c⟩, d⟩, e⟩; exact ⟨⟨a, b, c, d⟩, e⟩
 ·rintro ⟨⟨a, b, c, d⟩, e⟩; exact ⟨⟨⟨⟨a, b⟩, c⟩, d⟩, e⟩

theorem shape_row {α : Type} {k : Nat} {enc : α → List Value} {w : World} {v : Value} {l : List α} (h : RowOf k enc w v l) : ∃ a c, v = .slice a l.length c := by
 obtain ⟨a, c, rfl, _⟩ := h.open; exact ⟨a, c, rfl⟩

theorem own12_row {w : World} {base : Nat} {v : Value} {l : List CallV} (h : Own12 w base v l) : Row12 w v l := h.row encC_len (by decide)
end Go.Proofs.YthhgpiolcnojfaaGreatDoor
