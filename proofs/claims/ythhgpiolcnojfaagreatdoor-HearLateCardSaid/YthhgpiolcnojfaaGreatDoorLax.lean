
import Derived.Test.YthhgpiolcnojfaaGreatDoorCam
/- A part of the proofs about open calls: contracts of functions, or plain facts that they want. -/
namespace Go.Proofs.YthhgpiolcnojfaaGreatDoor
open Go.RowKit Go.Shelf

/-- What Late leaves. -/
def lateL (c : CallsV) (now tm : Int) : List CallV := if numB now && numB tm then keptL c (fun x => decide (now < wrap64 (x.sent + tm))) else c.opens

theorem keptL_all (c : CallsV) : keptL c (fun _ => true) = c.opens := by unfold keptL; split <;> simp

end Go.Proofs.YthhgpiolcnojfaaGreatDoor

/- Plain facts on calls (out of Nm0, Nm1, Lt0). -/
namespace Go.Proofs.YthhgpiolcnojfaaGreatDoor
open Go.RowKit Go.Shelf

theorem goR_cons {hi last : Int} {seen : List (Int × Int)} {x : CallV} {xs : List CallV} :
    goR hi last seen (x :: xs) = true ↔ (kindB x.kind = true ∧ numB x.key = true ∧ numB x.sent = true ∧ last < x.id ∧ x.id < hi ∧ (x.kind, x.key) ∉ seen) ∧ goR hi x.id (seen ++ [(x.kind, x.key)]) xs = true := by
  rw [goR]
  simp only [Bool.and_eq_true, decide_eq_true_eq]
  constructor
  · rintro ⟨⟨⟨⟨⟨⟨a, b⟩, c⟩, d⟩, e⟩, f⟩, g⟩
    exact ⟨⟨a, b, c, d, e, f⟩, g⟩
  · rintro ⟨⟨a, b, c, d, e, f⟩, g⟩
    exact ⟨⟨⟨⟨⟨⟨a, b⟩, c⟩, d⟩, e⟩, f⟩, g⟩

theorem goR_filter {hi : Int} (f : CallV → Bool) : ∀ (l : List CallV) (last last' : Int) (seen seen' : List (Int × Int)), goR hi last seen l = true → last' ≤ last → (∀ k ∈ seen', k ∈ seen) → goR hi last' seen' (l.filter f) = true
  | [], _, _, _, _, _, _, _ => rfl
  | x :: xs, last, last', seen, seen', h, hl, hs => by
    obtain ⟨⟨a, b, c, d, e, g⟩, h'⟩ := goR_cons.1 h
    rw [List.filter_cons]
    split
    · refine goR_cons.2 ⟨⟨a, b, c, by omega, e, fun hm => g (hs _ hm)⟩, ?_⟩
      refine goR_filter f xs x.id x.id _ _ h' (Int.le_refl _) ?_
      intro k hk
      rcases List.mem_append.1 hk with hk | hk
      · exact List.mem_append_left _ (hs k hk)
      · exact List.mem_append_right _ hk
    · exact goR_filter f xs x.id last' _ seen' h' (by omega) (fun k hk => List.mem_append_left _ (hs k hk))

theorem goR_lt {hi : Int} : ∀ (l : List CallV) (last : Int) (seen : List (Int × Int)), goR hi last seen l = true → ∀ x ∈ l, x.id < hi
  | [], _, _, _, _, hx => by simp at hx
  | y :: ys, last, seen, h, x, hx => by
    obtain ⟨⟨a, b, c, d, e, g⟩, h'⟩ := goR_cons.1 h
    rcases List.mem_cons.1 hx with rfl | hx
    · exact e
    · exact goR_lt ys y.id _ h' x hx
theorem goR_nums {hi : Int} : ∀ (l : List CallV) (last : Int) (seen : List (Int × Int)), goR hi last seen l = true → ∀ x ∈ l, kindB x.kind = true ∧ numB x.key = true ∧ numB x.sent = true ∧ last < x.id
  | [], _, _, _, _, hx => by simp at hx
  | y :: ys, last, seen, h, x, hx => by
    obtain ⟨⟨a, b, c, d, e, g⟩, h'⟩ := goR_cons.1 h
    rcases List.mem_cons.1 hx with rfl | hx
    · exact ⟨a, b, c, d⟩
    · obtain ⟨p, q, r, s⟩ := goR_nums ys y.id _ h' x hx
      exact ⟨p, q, r, by omega⟩

theorem rightB_iff {c : CallsV} : crightB c = true ↔ (0 ≤ c.epoch ∧ c.epoch ≤ 524288 ∧ 1 ≤ c.next ∧ c.next ≤ 1048576) ∧ goR (c.epoch * 1048576 + c.next) (c.epoch * 1048576) [] c.opens = true := by
  unfold crightB
  simp only [Bool.and_eq_true, decide_eq_true_eq]
  constructor
  · rintro ⟨⟨⟨⟨a, b⟩, c⟩, d⟩, e⟩; exact ⟨⟨a, b, c, d⟩, e⟩
  · rintro ⟨⟨a, b, c, d⟩, e⟩; exact ⟨⟨⟨⟨a, b⟩, c⟩, d⟩, e⟩

theorem filter_right {c : CallsV} (f : CallV → Bool) (h : crightB c = true) : crightB ⟨c.epoch, c.next, c.opens.filter f⟩ = true := by
  rw [rightB_iff] at h ⊢
  exact ⟨h.1, goR_filter f _ _ _ _ _ h.2 (Int.le_refl _) (fun _ h => h)⟩
theorem kept_right {c : CallsV} (f : CallV → Bool) (h : crightB c = true) : crightB ⟨c.epoch, c.next, keptL c f⟩ = true := by
  unfold keptL; rw [if_pos h]; exact filter_right f h
theorem late_right {c : CallsV} (now tm : Int) (h : crightB c = true) : crightB ⟨c.epoch, c.next, lateL c now tm⟩ = true := by
  unfold lateL; split
  · exact kept_right _ h
  · exact h
theorem kept_len (c : CallsV) (f : CallV → Bool) : (keptL c f).length ≤ c.opens.length := by
  unfold keptL; split
  · exact List.length_filter_le _ _
  · exact Nat.le_refl _
theorem late_len (c : CallsV) (now tm : Int) : (lateL c now tm).length ≤ c.opens.length := by
  unfold lateL; split
  · exact kept_len _ _
  · exact Nat.le_refl _

theorem close_find {c : CallsV} (id : Int) (h : crightB c = true) : findC (keptL c (fun x => x.id != id)) id = (⟨0, 0, 0, 0⟩, false) := by
  unfold keptL findC
  rw [if_pos h]
  have hn : (c.opens.filter (fun x => x.id != id)).find? (fun x => x.id == id) = none := by
    rw [List.find?_eq_none]
    intro x hx
    have := (List.mem_filter.1 hx).2
    simpa using this
  rw [hn]
theorem shape_row {α : Type} {k : Nat} {enc : α → List Value} {w : World} {v : Value} {l : List α} (h : RowOf k enc w v l) : ∃ a c, v = .slice a l.length c := by
  obtain ⟨a, c, rfl, _⟩ := h.open; exact ⟨a, c, rfl⟩

theorem own12_row {w : World} {base : Nat} {v : Value} {l : List CallV} (h : Own12 w base v l) : Row12 w v l := h.row encC_len (by decide)
def keepP (now tm : Int) (x : CallV) : Bool := decide (now - x.sent < tm)

theorem numB_iff {n : Int} : numB n = true ↔ 0 ≤ n ∧ n ≤ 1099511627776 := by unfold numB; simp
theorem right_sent {C : CallsV} (h : crightB C = true) : ∀ x ∈ C.opens, 0 ≤ x.sent ∧ x.sent ≤ 1099511627776 := fun x hx => numB_iff.1 (goR_nums _ _ _ (rightB_iff.1 h).2 x hx).2.2.1
theorem late_is {C : CallsV} {now tm : Int} (h : crightB C = true) (h0 : 0 ≤ now) (h1 : now ≤ 1099511627776) (h2 : 0 ≤ tm) (h3 : tm ≤ 1099511627776) : lateL C now tm = C.opens.filter (keepP now tm) := by
  unfold lateL keptL
  rw [if_pos (by rw [numB_iff.2 ⟨h0, h1⟩, numB_iff.2 ⟨h2, h3⟩]; rfl), if_pos h]
  refine List.filter_congr fun x hx => ?_
  have := right_sent h x hx
  unfold keepP wrap64
  exact decide_eq_decide.2 (by omega)
theorem late_twice {C : CallsV} {now tm : Int} (h : crightB C = true) (h0 : 0 ≤ now) (h1 : now ≤ 1099511627776) (h2 : 0 ≤ tm) (h3 : tm ≤ 1099511627776) :
    lateL ⟨C.epoch, C.next, C.opens.filter (keepP now tm)⟩ now tm = C.opens.filter (keepP now tm) := by
  rw [late_is (filter_right _ h) h0 h1 h2 h3]
  simp [List.filter_filter]

theorem filter_at {α : Type} (p : α → Bool) : ∀ (l : List α) (i : Nat) (x : α), l[i]? = some x → p x = true → (l.filter p)[((l.take i).filter p).length]? = some x
  | [], i, x, h, _ => by simp at h
  | a :: l, 0, x, h, hp => by simp at h; subst h; simp [hp]
  | a :: l, i + 1, x, h, hp => by
    have ih := filter_at p l i x (by simpa using h) hp
    simp only [List.take_succ_cons, List.filter_cons]
    split
    · simpa using ih
    · exact ih
theorem filter_yes {α : Type} (p : α → Bool) {l : List α} {i : Nat} {x : α} (h : l[i]? = some x) (hp : p x = true) : ((l.take (i + 1)).filter p).length = ((l.take i).filter p).length + 1 := by
  rw [take_snoc l i x h]; simp [hp]
theorem filter_no {α : Type} (p : α → Bool) {l : List α} {i : Nat} {x : α} (h : l[i]? = some x) (hp : p x = false) : ((l.take (i + 1)).filter p).length = ((l.take i).filter p).length := by
  rw [take_snoc l i x h]; simp [hp]

end Go.Proofs.YthhgpiolcnojfaaGreatDoor
