/- Plain facts of nets: what is sent twice is taken twice. -/
import Derived.Test.YthnlppbfmmiioaaWkn
namespace Go.Proofs.Ythnlppbfmmiioaa
open Go.RowKit Go.Shelf

theorem placeN_last (n : Nat) (hn : n ≤ 1000) : placeN (-1) (n + 1) = n := by
  by_cases h : n = 0
  · subst h; decide +kernel
  · have h1 : (-1 : Int).tmod ((n + 1 : Nat) : Int) = -1 := by
      rw [show (-1 : Int) = -(1 : Int) from rfl, Int.neg_tmod, Int.tmod_eq_of_lt (by omega) (by omega)]
    have h2 : (-1 : Int) + ((n + 1 : Nat) : Int) = n := by omega
    have h3 : wrap64 (n : Int) = n := by unfold wrap64; omega
    unfold placeN
    rw [h1, h2, h3, Int.tmod_eq_of_lt (by omega) (by omega)]
    omega

theorem eraseIdx_last {α : Type} (l : List α) (x : α) : (l ++ [x]).eraseIdx l.length = l := by
  rw [List.eraseIdx_append_of_length_le (Nat.le_refl _)]; simp
theorem askV_last (l : List AskV) (m : List TellV) (x : AskV) (h : l.length ≤ 1000) : askV ⟨l ++ [x], m⟩ (-1) = (⟨l, m⟩, x, true) := by
  unfold askV
  simp only [List.length_append, List.length_cons, List.length_nil, Nat.zero_add, placeN_last _ h]
  simp [eraseIdx_last]
theorem tellV_last (l : List AskV) (m : List TellV) (x : TellV) (h : m.length ≤ 1000) : tellV ⟨l, m ++ [x]⟩ (-1) = (⟨l, m⟩, x, true) := by
  unfold tellV
  simp only [List.length_append, List.length_cons, List.length_nil, Nat.zero_add, placeN_last _ h]
  simp [eraseIdx_last]
theorem ask_some (n : NetV) (at' : Int) (h : 0 < n.asks.length) (h' : n.asks.length ≤ 1000) : ∃ x m, askV n at' = (m, x, true) ∧ twiceV n at' false = sendV n x ∧ x ∈ n.asks ∧ m.tells = n.tells ∧ m.asks.length + 1 = n.asks.length := by
  obtain ⟨x, hx⟩ := get_lt (placeN_is at' _ h (by omega)).2
  refine ⟨x, ⟨n.asks.eraseIdx (placeN at' n.asks.length), n.tells⟩, by unfold askV; rw [hx], by unfold twiceV; simp only [hx], mem_get hx, rfl, ?_⟩
  rw [List.length_eraseIdx]
  rw [if_pos (lt_get hx)]; omega
theorem tell_some (n : NetV) (at' : Int) (h : 0 < n.tells.length) (h' : n.tells.length ≤ 1000) : ∃ x m, tellV n at' = (m, x, true) ∧ twiceV n at' true = postV n x ∧ x ∈ n.tells ∧ m.asks = n.asks ∧ m.tells.length + 1 = n.tells.length := by
  obtain ⟨x, hx⟩ := get_lt (placeN_is at' _ h (by omega)).2
  refine ⟨x, ⟨n.asks, n.tells.eraseIdx (placeN at' n.tells.length)⟩, by unfold tellV; rw [hx], by unfold twiceV; simp only [hx], mem_get hx, rfl, ?_⟩
  rw [List.length_eraseIdx]
  rw [if_pos (lt_get hx)]; omega
theorem sendV_room (n : NetV) (x : AskV) (h : n.asks.length < 60) : sendV n x = (⟨n.asks ++ [x], n.tells⟩, 0) := by unfold sendV; rw [if_pos h]
theorem postV_room (n : NetV) (x : TellV) (h : n.tells.length < 60) : postV n x = (⟨n.asks, n.tells ++ [x]⟩, 0) := by unfold postV; rw [if_pos h]
theorem small.send {n : NetV} (h : small n) (x : AskV) : netOk ⟨n.asks ++ [x], n.tells⟩ := ⟨by have := h.1; simp; omega, h.ok.2.1, h.ok.2.2⟩
theorem small.post {n : NetV} (h : small n) (x : TellV) (hx : x.seen.length ≤ 1000) : netOk ⟨n.asks, n.tells ++ [x]⟩ := ⟨h.ok.1, by have := h.2.1; simp; omega, fun y hy => by
  rcases List.mem_append.1 hy with hy | hy
  · exact h.ok.2.2 y hy
  · simp at hy; subst hy; exact hx⟩
end Go.Proofs.Ythnlppbfmmiioaa
