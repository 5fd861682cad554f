/- HearLate, in plain Lean: who is closed, late, or of another epoch is not found. -/
import Derived.Test.YthhgpiolcnojfaaGreatDoorHpl
import Derived.Test.YthhgpiolcnojfaaGreatDoorLax
namespace Go.Proofs.YthhgpiolcnojfaaGreatDoor
open Go.RowKit Go.Shelf

theorem find_no {L : List CallV} {c : Int} (h : ∀ x ∈ L, x.id ≠ c) : findC L c = (⟨0, 0, 0, 0⟩, false) := by
  unfold findC
  rw [List.find?_eq_none.2 (fun x hx => by simpa using h x hx)]
theorem find_yes {L : List CallV} {c : Int} {y : CallV} (h : findC L c = (y, true)) : y ∈ L ∧ y.id = c := by
  unfold findC at h
  split at h
  · rename_i x hx
    cases h
    exact ⟨List.mem_of_find?_eq_some hx, by simpa using List.find?_some hx⟩
  · cases h
theorem find_none {L : List CallV} {c : Int} {y : CallV} (h : findC L c = (y, false)) : ∀ x ∈ L, x.id ≠ c := by
  unfold findC at h
  split at h
  · cases h
  · rename_i hx
    intro x hm
    simpa using List.find?_eq_none.1 hx x hm
theorem heard_no {L : List CallV} {c k : Int} (h : ∀ x ∈ L, x.id ≠ c) : heardL L c k = (⟨0, 0, 0, 0⟩, false) := by
  unfold heardL
  rw [find_no h]
  exact if_neg (fun h => by cases h.1)
theorem hear_no (B : BrainV) {C : CallsV} {c k : Int} (d i now : Int) (h : ∀ x ∈ C.opens, x.id ≠ c) : hearL B C c k d i now = [] ∧ hearC C c k = C.opens := by
  unfold hearL hearC
  rw [heard_no h]
  exact ⟨if_neg (fun h => by cases h.1), if_neg (fun h => by cases h.1)⟩
theorem goR_gt {hi : Int} : ∀ (l : List CallV) (last : Int) (seen : List (Int × Int)), goR hi last seen l = true → ∀ x ∈ l, last < x.id
  | [], _, _, _, x, hx => by cases hx
  | y :: l, last, seen, h, x, hx => by
    have h := goR_cons.1 h
    rcases List.mem_cons.1 hx with h1 | h1
    · rw [h1]
      exact h.1.2.2.2.1
    · have := goR_gt l _ _ h.2 x h1
      have := h.1.2.2.2.1
      omega
theorem goR_one {hi : Int} : ∀ (l : List CallV) (last : Int) (seen : List (Int × Int)), goR hi last seen l = true → ∀ x ∈ l, ∀ y ∈ l, x.id = y.id → x = y
  | [], _, _, _, x, hx, _, _, _ => by cases hx
  | z :: l, last, seen, h, x, hx, y, hy, he => by
    have h := goR_cons.1 h
    rcases List.mem_cons.1 hx with h1 | h1
    · rcases List.mem_cons.1 hy with h2 | h2
      · rw [h1, h2]
      · have := goR_gt l _ _ h.2 y h2
        rw [h1] at he
        omega
    · rcases List.mem_cons.1 hy with h2 | h2
      · have := goR_gt l _ _ h.2 x h1
        rw [h2] at he
        omega
      · exact goR_one l _ _ h.2 x h1 y h2 he
theorem closed_no {C : CallsV} (hC : crightB C = true) (c : Int) : ∀ x ∈ keptL C (fun x => x.id != c), x.id ≠ c := by
  intro x hx
  unfold keptL at hx
  rw [if_pos hC] at hx
  simpa using (List.mem_filter.1 hx).2
theorem late_no {C : CallsV} (hC : crightB C = true) {c now : Int} {y : CallV} {ok : Bool} (h0 : 0 ≤ now) (h1 : now ≤ 1099511627776) (hf : findC C.opens c = (y, ok)) (hl : ok = false ∨ y.sent ≤ now) : ∀ x ∈ lateL C now 0, x.id ≠ c := by
  intro x hx
  have hn : numB now = true := numB_iff.2 ⟨h0, h1⟩
  have hz : numB 0 = true := rfl
  unfold lateL at hx
  rw [hn, hz] at hx
  simp only [Bool.and_self, if_true] at hx
  unfold keptL at hx
  rw [if_pos hC] at hx
  obtain ⟨hm, hp⟩ := List.mem_filter.1 hx
  have hsent := right_sent hC x hm
  have hp := of_decide_eq_true hp
  have hw : wrap64 (x.sent + 0) = x.sent := by unfold wrap64; omega
  rw [hw] at hp
  cases ok with
  | false => exact find_none hf x hm
  | true =>
    obtain ⟨h2, h3⟩ := find_yes hf
    intro he
    have : x = y := goR_one _ _ _ (rightB_iff.1 hC).2 x hm y h2 (by rw [he, h3])
    subst this
    rcases hl with h | h
    · cases h
    · omega
theorem old_no {C : CallsV} (hC : crightB C = true) {bf c : Int} {y : CallV} (h0 : 1 ≤ bf) (h1 : bf ≤ 1000) (hf : findC C.opens c = (y, true)) :
    wrap64 (y.id - wrap64 (bf * 1048576)) = y.id - bf * 1048576 ∧ ∀ x ∈ C.opens, x.id ≠ y.id - bf * 1048576 := by
  obtain ⟨h2, h3⟩ := find_yes hf
  have hr := rightB_iff.1 hC
  have a1 := goR_gt _ _ _ hr.2 y h2
  have a2 := goR_lt _ _ _ hr.2 y h2
  have e := hr.1
  refine ⟨by unfold wrap64; omega, fun x hx => ?_⟩
  have := goR_gt _ _ _ hr.2 x hx
  omega
end Go.Proofs.YthhgpiolcnojfaaGreatDoor
