import Derived.Test.YthhgpiolcnojfaaGreatDoorCam
/- A part of the proofs about open calls: contracts of functions, or plain facts that they want. -/
namespace Go.Proofs.YthhgpiolcnojfaaGreatDoor
open Go.RowKit Go.Shelf

end Go.Proofs.YthhgpiolcnojfaaGreatDoor

/- Plain facts on calls (out of Nm0, Nm1, Lt0). -/
namespace Go.Proofs.YthhgpiolcnojfaaGreatDoor
open Go.RowKit Go.Shelf

theorem goR_cons {hi last : Int} {seen : List (Int × Int)} {x : CallV} {xs : List CallV} :
  goR hi last seen (x :: xs) = true ↔ (kindB x.kind = true ∧ numB x.key = true ∧ numB x.sent = true ∧ last < x.id ∧ x.id < hi ∧ (x.kind, x.key) ∉ seen) ∧ goR hi x.id (seen ++ [(x.kind, x.key)]) xs = true := by
 rw [goR]
 simp only [Bool.and_eq_true, decide_eq_true_eq]
 constructor
 ·rintro ⟨⟨⟨⟨⟨⟨a, b⟩, c⟩, d⟩, e⟩, f⟩, g⟩
  exact ⟨⟨a, b, c, d, e, f⟩, g⟩
 ·rintro ⟨⟨a, b, c, d, e, f⟩, g⟩
  exact ⟨⟨⟨⟨⟨⟨a, b⟩, c⟩, d⟩, e⟩, f⟩, g⟩

theorem goR_filter {hi : Int} (f : CallV → Bool) : ∀ (l : List CallV) (last last' : Int) (seen seen' : List (Int × Int)), goR hi last seen l = true → last' ≤ last → (∀ k ∈ seen', k ∈ seen) → goR hi last' seen' (l.filter f) = true
 | [], _, _, _, _, _, _, _ => rfl
 | x :: xs, last, last', seen, seen', h, hl, hs => by
  obtain ⟨⟨a, b, c, d, e, g⟩, h'⟩ := goR_cons.1 h
  rw [List.filter_cons]
  split
  ·refine goR_cons.2 ⟨⟨a, b, c, by omega, e, fun hm => g (hs _ hm)⟩, ?_⟩
   refine goR_filter f xs x.id x.id _ _ h' (Int.le_refl _) ?_
   intro k hk
   rcases List.mem_append.1 hk with hk | hk
   ·exact List.mem_append_left _ (hs k hk)
   ·exact List.mem_append_right _ hk
  ·exact goR_filter f xs x.id last' _ seen' h' (by omega) (fun k hk => List.mem_append_left _ (hs k hk))

theorem rightB_iff {c : CallsV} : crightB c = true ↔ (0 ≤ c.epoch ∧ c.epoch ≤ 524288 ∧ 1 ≤ c.next ∧ c.next ≤ 1048576) ∧ goR (c.epoch * 1048576 + c.next) (c.epoch * 1048576) [] c.opens = true := by
 unfold crightB
 simp only [Bool.and_eq_true, decide_eq_true_eq]
 constructor
 ·rintro ⟨⟨⟨⟨a, b⟩, c⟩, d⟩, e⟩; exact ⟨⟨a, b, c, d⟩, e⟩
 ·rintro ⟨⟨a, b, c, d⟩, e⟩; exact ⟨⟨⟨⟨a, b⟩, c⟩, d⟩, e⟩

theorem filter_right {c : CallsV} (f : CallV → Bool) (h : crightB c = true) : crightB ⟨c.epoch, c.next, c.opens.filter f⟩ = true := by
 rw [rightB_iff] at h ⊢
 exact ⟨h.1, goR_filter f _ _ _ _ _ h.2 (Int.le_refl _) (fun _ h => h)⟩
theorem kept_right {c : CallsV} (f : CallV → Bool) (h : crightB c = true) : crightB ⟨c.epoch, c.next, keptL c f⟩ = true := by
 unfold keptL; rw [if_pos h]; exact filter_right f h
theorem kept_len (c : CallsV) (f : CallV → Bool) : (keptL c f).length ≤ c.opens.length := by
 unfold keptL; split
 ·exact List.length_filter_le _ _
 ·exact Nat.le_refl _
end Go.Proofs.YthhgpiolcnojfaaGreatDoor
