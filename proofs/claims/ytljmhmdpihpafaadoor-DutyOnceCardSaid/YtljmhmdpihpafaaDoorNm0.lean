/- Plain facts on calls that may be: what opening, closing and being late leave may be, too. -/
import Derived.Test.YtljmhmdpihpafaaDoorOpe
import Derived.Test.YtljmhmdpihpafaaDoorLat
namespace Go.Proofs.YtljmhmdpihpafaaDoor
open Go.RowKit Go.Shelf

theorem goR_cons {hi last : Int} {seen : List (Int × Int)} {x : CallV} {xs : List CallV} :
    goR hi last seen (x :: xs) = true ↔ (kindB x.kind = true ∧ numB x.key = true ∧ numB x.sent = true ∧ last < x.id ∧ x.id < hi ∧ (x.kind, x.key) ∉ seen) ∧ goR hi x.id (seen ++ [(x.kind, x.key)]) xs = true := by
  rw [goR]
  simp only [Bool.and_eq_true, decide_eq_true_eq]
  constructor
  · rintro ⟨⟨⟨⟨⟨⟨a, b⟩, c⟩, d⟩, e⟩, f⟩, g⟩
    exact ⟨⟨a, b, c, d, e, f⟩, g⟩
  · rintro ⟨⟨a, b, c, d, e, f⟩, g⟩
    exact ⟨⟨⟨⟨⟨⟨a, b⟩, c⟩, d⟩, e⟩, f⟩, g⟩

theorem goR_filter {hi : Int} (f : CallV → Bool) : ∀ (l : List CallV) (last last' : Int) (seen seen' : List (Int × Int)), goR hi last seen l = true → last' ≤ last → (∀ k ∈ seen', k ∈ seen) → goR hi last' seen' (l.filter f) = true
  | [], _, _, _, _, _, _, _ => rfl
  | x :: xs, last, last', seen, seen', h, hl, hs => by
    obtain ⟨⟨a, b, c, d, e, g⟩, h'⟩ := goR_cons.1 h
    rw [List.filter_cons]
    split
    · refine goR_cons.2 ⟨⟨a, b, c, by omega, e, fun hm => g (hs _ hm)⟩, ?_⟩
      refine goR_filter f xs x.id x.id _ _ h' (Int.le_refl _) ?_
      intro k hk
      rcases List.mem_append.1 hk with hk | hk
      · exact List.mem_append_left _ (hs k hk)
      · exact List.mem_append_right _ hk
    · exact goR_filter f xs x.id last' _ seen' h' (by omega) (fun k hk => List.mem_append_left _ (hs k hk))

theorem goR_snoc {hi hi' : Int} (n : CallV) (h1 : kindB n.kind = true) (h2 : numB n.key = true) (h3 : numB n.sent = true) (hn : hi ≤ n.id) (hn' : n.id < hi') : ∀ (l : List CallV) (last : Int) (seen : List (Int × Int)), goR hi last seen l = true → last < n.id → (n.kind, n.key) ∉ seen → hasB l n.kind n.key = false → goR hi' last seen (l ++ [n]) = true
  | [], last, seen, _, hl, hs, _ => goR_cons.2 ⟨⟨h1, h2, h3, hl, hn', hs⟩, rfl⟩
  | x :: xs, last, seen, h, hl, hs, hh => by
    obtain ⟨⟨a, b, c, d, e, g⟩, h'⟩ := goR_cons.1 h
    simp only [hasB, List.any_cons, Bool.or_eq_false_iff] at hh
    refine goR_cons.2 ⟨⟨a, b, c, d, by omega, g⟩, ?_⟩
    refine goR_snoc n h1 h2 h3 hn hn' xs x.id _ h' (by omega) ?_ hh.2
    intro hm
    rcases List.mem_append.1 hm with hm | hm
    · exact hs hm
    · simp only [List.mem_singleton, Prod.mk.injEq] at hm
      have := hh.1
      simp [hm.1, hm.2] at this

theorem goR_lt {hi : Int} : ∀ (l : List CallV) (last : Int) (seen : List (Int × Int)), goR hi last seen l = true → ∀ x ∈ l, x.id < hi
  | [], _, _, _, _, hx => by simp at hx
  | y :: ys, last, seen, h, x, hx => by
    obtain ⟨⟨a, b, c, d, e, g⟩, h'⟩ := goR_cons.1 h
    rcases List.mem_cons.1 hx with rfl | hx
    · exact e
    · exact goR_lt ys y.id _ h' x hx
theorem goR_nums {hi : Int} : ∀ (l : List CallV) (last : Int) (seen : List (Int × Int)), goR hi last seen l = true → ∀ x ∈ l, kindB x.kind = true ∧ numB x.key = true ∧ numB x.sent = true ∧ last < x.id
  | [], _, _, _, _, hx => by simp at hx
  | y :: ys, last, seen, h, x, hx => by
    obtain ⟨⟨a, b, c, d, e, g⟩, h'⟩ := goR_cons.1 h
    rcases List.mem_cons.1 hx with rfl | hx
    · exact ⟨a, b, c, d⟩
    · obtain ⟨p, q, r, s⟩ := goR_nums ys y.id _ h' x hx
      exact ⟨p, q, r, by omega⟩

theorem rightB_iff {c : CallsV} : rightB c = true ↔ (0 ≤ c.epoch ∧ c.epoch ≤ 524288 ∧ 1 ≤ c.next ∧ c.next ≤ 1048576) ∧ goR (c.epoch * 1048576 + c.next) (c.epoch * 1048576) [] c.opens = true := by
  unfold rightB
  simp only [Bool.and_eq_true, decide_eq_true_eq]
  constructor
  · rintro ⟨⟨⟨⟨a, b⟩, c⟩, d⟩, e⟩; exact ⟨⟨a, b, c, d⟩, e⟩
  · rintro ⟨⟨a, b, c, d⟩, e⟩; exact ⟨⟨⟨⟨a, b⟩, c⟩, d⟩, e⟩

theorem filter_right {c : CallsV} (f : CallV → Bool) (h : rightB c = true) : rightB ⟨c.epoch, c.next, c.opens.filter f⟩ = true := by
  rw [rightB_iff] at h ⊢
  exact ⟨h.1, goR_filter f _ _ _ _ _ h.2 (Int.le_refl _) (fun _ h => h)⟩
theorem kept_right {c : CallsV} (f : CallV → Bool) (h : rightB c = true) : rightB ⟨c.epoch, c.next, keptL c f⟩ = true := by
  unfold keptL; rw [if_pos h]; exact filter_right f h
theorem late_right {c : CallsV} (now tm : Int) (h : rightB c = true) : rightB ⟨c.epoch, c.next, lateL c now tm⟩ = true := by
  unfold lateL; split
  · exact kept_right _ h
  · exact h
theorem kept_len (c : CallsV) (f : CallV → Bool) : (keptL c f).length ≤ c.opens.length := by
  unfold keptL; split
  · exact List.length_filter_le _ _
  · exact Nat.le_refl _
theorem late_len (c : CallsV) (now tm : Int) : (lateL c now tm).length ≤ c.opens.length := by
  unfold lateL; split
  · exact kept_len _ _
  · exact Nat.le_refl _

theorem open_right {c : CallsV} {k key now : Int} (h : rightB c = true) (h0 : openErr c k key now = 0) : rightB ⟨c.epoch, c.next + 1, c.opens ++ [⟨c.epoch * 1048576 + c.next, k, key, now⟩]⟩ = true := by
  obtain ⟨_, e2, e3, e4, e5⟩ := openErr_zero h0
  rw [Bool.and_eq_true] at e3
  rw [rightB_iff] at h ⊢
  obtain ⟨⟨a, b, c1, d⟩, g⟩ := h
  refine ⟨⟨a, b, by simp only; omega, by simp only; omega⟩, ?_⟩
  exact goR_snoc _ e2 e3.1 e3.2 (by simp only; omega) (by simp only; omega) _ _ _ g (by simp only; omega) (by simp) e4
theorem open_find {c : CallsV} {k key now : Int} (h : rightB c = true) : findC (c.opens ++ [⟨c.epoch * 1048576 + c.next, k, key, now⟩]) (c.epoch * 1048576 + c.next) = (⟨c.epoch * 1048576 + c.next, k, key, now⟩, true) := by
  rw [rightB_iff] at h
  have hlt := goR_lt _ _ _ h.2
  unfold findC
  have hn : c.opens.find? (fun x => x.id == c.epoch * 1048576 + c.next) = none := by
    rw [List.find?_eq_none]
    intro x hx
    have := hlt x hx
    simp; omega
  rw [List.find?_append, hn]
  simp
theorem close_find {c : CallsV} (id : Int) (h : rightB c = true) : findC (keptL c (fun x => x.id != id)) id = (⟨0, 0, 0, 0⟩, false) := by
  unfold keptL findC
  rw [if_pos h]
  have hn : (c.opens.filter (fun x => x.id != id)).find? (fun x => x.id == id) = none := by
    rw [List.find?_eq_none]
    intro x hx
    have := (List.mem_filter.1 hx).2
    simpa using this
  rw [hn]
end Go.Proofs.YtljmhmdpihpafaaDoor
