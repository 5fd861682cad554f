/- What a record leaves of a brain's rows: plain facts. -/
import Derived.Test.YthnigndpibgibaaDoorAp
namespace Go.Proofs.YthnigndpibgibaaDoor
open Go.RowKit Go.Shelf

/-- A brain whose rows are no longer than some number, and whose phases are phases. -/
def Fine (B : BrainV) (n : Nat) : Prop := B.I.length ≤ n ∧ B.K.length ≤ n ∧ ∀ x ∈ B.K, in8 x.phase
theorem Fine.up {B : BrainV} {n m : Nat} (h : Fine B n) (hm : n ≤ m) : Fine B m := ⟨Nat.le_trans h.1 hm, Nat.le_trans h.2.1 hm, h.2.2⟩
theorem Fine.keep {B : BrainV} {n : Nat} (h : Fine B n) (x : KeptV) (hx : in8 x.phase) : Fine (keepB B x) (n + 1) := by
  refine ⟨Nat.le_succ_of_le h.1, ?_, ?_⟩
  · show (insAt B.K _ x).length ≤ n + 1
    have := placeK_le B.K x.id
    unfold insAt
    simp
    have := h.2.1
    omega
  · intro y hy
    have hy : y ∈ insAt B.K (placeK B.K x.id) x := hy
    unfold insAt at hy
    simp only [List.mem_append, List.mem_cons, List.not_mem_nil, or_false] at hy
    rcases hy with (hy | rfl) | hy
    · exact h.2.2 y (List.mem_of_mem_take hy)
    · exact hx
    · exact h.2.2 y (List.mem_of_mem_drop hy)
theorem Fine.kept {B : BrainV} {n : Nat} (h : Fine B n) (D : Nat → KeptV → BrainV) (x0 : Int) (hD : ∀ i x, B.K[i]? = some x → Fine (D i x) n) : Fine (keptB B D x0) n := by
  unfold keptB
  split
  · exact h
  · split
    · rename_i x hx
      exact hD _ x hx
    · exact h
theorem Fine.setK {B : BrainV} {n : Nat} (h : Fine B n) (i : Nat) (x : KeptV) (hx : in8 x.phase) : Fine (setK B i x) n := by
  refine ⟨h.1, by show (B.K.set i x).length ≤ n; simpa using h.2.1, fun y hy => ?_⟩
  rcases List.mem_or_eq_of_mem_set hy with hy | rfl
  · exact h.2.2 y hy
  · exact hx
theorem Fine.same {B R : BrainV} {n : Nat} (h : Fine B n) (h1 : R.I = B.I) (h2 : R.K = B.K) : Fine R n := by
  unfold Fine
  rw [h1, h2]
  exact h
theorem Fine.active {B R : BrainV} {n : Nat} (h : Fine B n) (h1 : R.I = B.I) (h2 : R.K = B.K) : Fine (activeB B R) n := by
  unfold activeB
  split
  · exact h.same h1 h2
  · exact h
theorem Fine.made {B : BrainV} {n : Nat} (h : Fine B n) (L : List Int) : Fine (madeB B L) (n + 1) := by
  unfold madeB
  split
  · exact h.up (Nat.le_succ n)
  · split
    · exact h.up (Nat.le_succ n)
    · rename_i x hx
      have hB : Fine { B with I := B.I.eraseIdx (idxL B.I fun x => x.token == L.getD 0 0).toNat } n := ⟨Nat.le_trans (List.length_eraseIdx_le _ _) h.1, h.2.1, h.2.2⟩
      have hp : in8 (if x.warm then 9 else 1) := by split <;> (unfold in8; omega)
      unfold madeX
      split
      · exact (hB.keep ⟨L.getD 1 0, x.token, x.version, x.zone, if x.warm then 9 else 1, L.getD 2 0, false, false⟩ hp).same rfl rfl
      · exact hB.keep ⟨L.getD 1 0, x.token, x.version, x.zone, if x.warm then 9 else 1, L.getD 2 0, false, false⟩ hp
theorem deedTs_fine {B : BrainV} {n : Nat} (h : Fine B n) (L : List Int) (hb : ∀ y ∈ L, badN y = false) : ∀ t ∈ deedTs B L, L.length = t.2.1 → Fine t.2.2 (n + 1) := by
  have hu := h.up (Nat.le_succ n)
  intro t ht hl
  unfold deedTs at ht
  simp only [List.mem_cons, List.not_mem_nil, or_false] at ht
  rcases ht with rfl | rfl | rfl | rfl | rfl | rfl | rfl | rfl | rfl | rfl | rfl | rfl | rfl | rfl | rfl
  · show Fine (bootB B) (n + 1)
    unfold bootB; split <;> exact hu
  · show Fine (intentB B (L.getD 0 0) (L.getD 1 0) (L.getD 2 0)) (n + 1)
    unfold intentB
    split
    · exact ⟨by simp; exact h.1, hu.2.1, hu.2.2⟩
    · exact hu
  · exact h.made L
  · show Fine (takeB B L) (n + 1)
    unfold takeB
    split
    · exact h.keep ⟨L.getD 0 0, L.getD 1 0, L.getD 2 0, L.getD 3 0, 8, L.getD 4 0, false, false⟩ (show in8 8 by unfold in8; omega)
    · exact hu
  · refine hu.kept _ _ fun i x hx => ?_
    unfold phaseB
    split
    · rename_i hlg
      refine hu.setK i _ ?_
      have hlt : ∀ p t, legalB p t = true → t < 11 := fun p t h => by unfold legalB at h; simp at h; omega
      have := hlt _ _ hlg
      have hl : L.length = 3 := hl
      have h0 : 0 ≤ L.getD 1 0 := by
        obtain ⟨y, hy⟩ := get_lt (l := L) (k := 1) (by omega)
        rw [lint L 1 y hy]
        have := hb y (mem_get hy)
        unfold badN at this
        simp at this
        omega
      exact ⟨h0, by show L.getD 1 0 ≤ 255; omega⟩
    · exact hu
  · refine hu.kept _ _ fun i x hx => ⟨hu.1, Nat.le_trans (List.length_eraseIdx_le _ _) hu.2.1, fun y hy => hu.2.2 y (List.mem_of_mem_eraseIdx hy)⟩
  · refine hu.kept _ _ fun i x hx => ?_
    unfold guardB
    split
    · exact hu.setK i _ (h.2.2 x (List.mem_of_getElem? hx))
    · exact hu
  · refine hu.kept _ _ fun i x hx => ?_
    exact hu.setK i _ (h.2.2 x (List.mem_of_getElem? hx))
  · show Fine (startB B (L.getD 0 0) (L.getD 1 0)) (n + 1)
    unfold startB; split <;> exact hu
  · exact hu.active (by unfold failB; split <;> rfl) (by unfold failB; split <;> rfl)
  · exact hu.active rfl rfl
  · exact hu.active rfl rfl
  · exact hu.active (by unfold pauseB; split <;> rfl) (by unfold pauseB; split <;> rfl)
  · exact hu.active (by unfold goB; split <;> rfl) (by unfold goB; split <;> rfl)
  · exact hu.active rfl rfl
theorem mem_lookup {β : Type} {k : Int} {v : β} : ∀ {l : List (Int × β)}, l.lookup k = some v → (k, v) ∈ l
  | (a, b) :: l, h => by
    by_cases hk : k = a
    · subst hk
      simp [List.lookup] at h
      subst h
      simp
    · have hb : (k == a) = false := by simpa using hk
      simp only [List.lookup, hb] at h
      exact List.mem_cons_of_mem _ (mem_lookup h)
theorem Fine.apply {B : BrainV} {n : Nat} (h : Fine B n) (k : Int) (L : List Int) : Fine (applyB B k L) (n + 1) := by
  have hu := h.up (Nat.le_succ n)
  unfold applyB
  split
  · exact hu
  · rename_i hbad
    split
    · unfold groupB; split <;> exact hu
    · split
      · exact hu
      · rename_i m R hm
        split
        · rename_i hl
          refine deedTs_fine h L (fun y hy => ?_) (k, m, R) (mem_lookup hm) hl
          have := List.any_eq_false.1 (by simpa using hbad : L.any badN = false) y hy
          simpa using this
        · exact hu
end Go.Proofs.YthnigndpibgibaaDoor
