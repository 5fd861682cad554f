/- A record of one instance changes no other one: plain facts. -/
import Derived.Test.YthnigndpibgibaaDoorPlk
namespace Go.Proofs.YthnigndpibgibaaDoor
open Go.RowKit Go.Shelf

theorem rise_uniq {hi : Int} {K : List KeptV} (h : RiseP hi (K.map KeptV.id)) {i j : Nat} {x y : KeptV} (hx : K[i]? = some x) (hy : K[j]? = some y) (he : x.id = y.id) : i = j := by
  have hi' := lt_get hx
  have hj' := lt_get hy
  rw [List.getElem?_eq_getElem hi'] at hx
  rw [List.getElem?_eq_getElem hj'] at hy
  cases hx
  cases hy
  rcases Nat.lt_trichotomy i j with h1 | h1 | h1
  · have := List.pairwise_iff_getElem.1 h.2 i j (by simpa using hi') (by simpa using hj') h1
    simp only [List.getElem_map] at this
    omega
  · exact h1
  · have := List.pairwise_iff_getElem.1 h.2 j i (by simpa using hj') (by simpa using hi') h1
    simp only [List.getElem_map] at this
    omega
theorem find_mem {hi : Int} {K : List KeptV} (h : RiseP hi (K.map KeptV.id)) {x : KeptV} (hx : x ∈ K) : ∃ j : Nat, idxL K (fun y => y.id == x.id) = j ∧ K[j]? = some x := by
  rcases idxL_cases K (fun y => y.id == x.id) with ⟨_, h1⟩ | ⟨k, y, hk, hy, hp, _⟩
  · have := h1 x hx
    simp at this
  · obtain ⟨i, hi'⟩ := List.getElem?_of_mem hx
    have he : y.id = x.id := by simpa using hp
    have := rise_uniq h hy hi' he
    subst this
    rw [hy] at hi'
    cases hi'
    exact ⟨k, hk, hy⟩
theorem mem_set_other {α : Type} {l : List α} {i j : Nat} {x y : α} (hj : l[j]? = some x) (hne : i ≠ j) : x ∈ l.set i y := by
  refine List.mem_of_getElem? (i := j) ?_
  rw [List.getElem?_set_ne hne]
  exact hj
/-- What a record of one instance leaves. -/
def OneI (B : BrainV) (L : List Int) (R : BrainV) : Prop := R.f = B.f ∧ R.g = B.g ∧ R.M = B.M ∧ R.I = B.I ∧ ∀ x ∈ B.K, x.id ≠ L.getD 0 0 → x ∈ R.K
def kindI (k : Int) : Prop := k = 6 ∨ k = 7 ∨ k = 8 ∨ k = 9 ∨ k = 10
theorem one_inst {B : BrainV} {k : Int} (hk : kindI k) (L : List Int) : OneI B L (applyB B k L) := by
  have hs : OneI B L B := ⟨rfl, rfl, rfl, rfl, fun x hx _ => hx⟩
  have hset : ∀ (i : Nat) (x y : KeptV), B.K[i]? = some x → x.id = L.getD 0 0 → OneI B L (setK B i y) := fun i x y hx he => ⟨rfl, rfl, rfl, rfl, fun z hz hne => by
    obtain ⟨j, hj⟩ := List.getElem?_of_mem hz
    refine mem_set_other hj (fun e => ?_)
    subst e
    rw [hx] at hj
    cases hj
    exact hne he⟩
  refine (apply_ind (P := fun k R => kindI k → OneI B L R) B k L (fun _ => hs) (fun _ _ h => by unfold kindI at h; omega) (fun hb t ht hl hkt => ?_)) hk
  unfold deedTs at ht
  simp only [List.mem_cons, List.not_mem_nil, or_false] at ht
  unfold kindI at hkt
  rcases ht with rfl | rfl | rfl | rfl | rfl | rfl | rfl | rfl | rfl | rfl | rfl | rfl | rfl | rfl | rfl
  · simp at hkt
  · simp at hkt
  · simp at hkt
  · show OneI B L (takeB B L)
    unfold takeB
    split
    · exact ⟨rfl, rfl, rfl, rfl, fun x hx _ => mem_keep.2 (.inr hx)⟩
    · exact hs
  · show OneI B L (keptB B (fun i x => phaseB B i x (L.getD 1 0) (L.getD 2 0)) (L.getD 0 0))
    refine keptB_cases (P := OneI B L) hs (fun i x hx he => ?_)
    unfold phaseB
    split
    · exact hset i x _ hx he
    · exact hs
  · show OneI B L (keptB B (fun i _ => goneAt B i) (L.getD 0 0))
    refine keptB_cases (P := OneI B L) hs (fun i x hx he => ⟨rfl, rfl, rfl, rfl, fun z hz hne => ?_⟩)
    obtain ⟨j, hj⟩ := List.getElem?_of_mem hz
    refine List.mem_eraseIdx_iff_getElem?.2 ⟨j, fun e => ?_, hj⟩
    subst e
    rw [hx] at hj
    cases hj
    exact hne he
  · show OneI B L (keptB B (fun i x => guardB B i x (L.getD 1 0)) (L.getD 0 0))
    refine keptB_cases (P := OneI B L) hs (fun i x hx he => ?_)
    unfold guardB
    split
    · exact hset i x _ hx he
    · exact hs
  · show OneI B L (keptB B (fun i x => completeB B i x) (L.getD 0 0))
    exact keptB_cases (P := OneI B L) hs (fun i x hx he => hset i x _ hx he)
  all_goals simp at hkt
/-- What a launch, meant or made, leaves. -/
def OneL (B R : BrainV) : Prop := R.f 0 = B.f 0 ∧ R.g 2 = B.g 2 ∧ (∀ i, i < 13 → R.f (i + 3) = B.f (i + 3)) ∧ R.g 16 = B.g 16 ∧ R.M = B.M ∧ R.f 20 = B.f 20 ∧ R.f 22 = B.f 22
theorem one_launch {B : BrainV} {k : Int} (hk : k = 3 ∨ k = 4) (L : List Int) : OneL B (applyB B k L) := by
  have hs : OneL B B := ⟨rfl, rfl, fun _ _ => rfl, rfl, rfl, rfl, rfl⟩
  refine (apply_ind (P := fun k R => k = 3 ∨ k = 4 → OneL B R) B k L (fun _ => hs) (fun _ _ h => by omega) (fun hb t ht hl hkt => ?_)) hk
  unfold deedTs at ht
  simp only [List.mem_cons, List.not_mem_nil, or_false] at ht
  rcases ht with rfl | rfl | rfl | rfl | rfl | rfl | rfl | rfl | rfl | rfl | rfl | rfl | rfl | rfl | rfl
  · simp at hkt
  · show OneL B (intentB B _ _ _)
    unfold intentB
    split
    · exact ⟨by simp [upd], rfl, fun i hi => by simp [upd], rfl, rfl, by simp [upd], by simp [upd]⟩
    · exact hs
  · show OneL B (madeB B L)
    unfold madeB
    split
    · exact hs
    · split
      · exact hs
      · unfold madeX
        split
        · exact ⟨by simp [upd], rfl, fun i hi => by simp only [upd]; rw [if_neg (by omega)], rfl, rfl, by simp [upd], by simp [upd]⟩
        · exact ⟨rfl, rfl, fun _ _ => rfl, rfl, rfl, rfl, rfl⟩
  all_goals simp at hkt
/-- What any other record leaves. -/
def OneO (B R : BrainV) : Prop := R.K = B.K ∧ R.I = B.I ∧ R.f 1 = B.f 1
theorem one_other {B : BrainV} {k : Int} (hk : ¬ (k = 3 ∨ k = 4)) {L : List Int} (h : ¬ (kindI k ∧ 0 < L.length)) : OneO B (applyB B k L) := by
  have hs : OneO B B := ⟨rfl, rfl, rfl⟩
  refine (apply_ind (P := fun k R => ¬ (k = 3 ∨ k = 4) → ¬ (kindI k ∧ 0 < L.length) → OneO B R) B k L (fun _ _ => hs) (fun _ _ _ _ => ⟨rfl, rfl, by show groupF B L 1 = _; unfold groupF; rw [if_neg (by omega)]⟩) (fun hb t ht hl hkt hkn => ?_)) hk h
  have ha : ∀ R, OneO B R → OneO B (activeB B R) := fun R hR => by unfold activeB; split; exact hR; exact hs
  unfold deedTs at ht
  simp only [List.mem_cons, List.not_mem_nil, or_false] at ht
  rcases ht with rfl | rfl | rfl | rfl | rfl | rfl | rfl | rfl | rfl | rfl | rfl | rfl | rfl | rfl | rfl
  · show OneO B (bootB B)
    unfold bootB
    split
    · exact ⟨rfl, rfl, by simp [upd]⟩
    · exact hs
  · simp at hkt
  · simp at hkt
  · exact absurd ⟨by unfold kindI; simp, by have hl : L.length = 5 := hl; omega⟩ hkn
  · exact absurd ⟨by unfold kindI; simp, by have hl : L.length = 3 := hl; omega⟩ hkn
  · exact absurd ⟨by unfold kindI; simp, by have hl : L.length = 1 := hl; omega⟩ hkn
  · exact absurd ⟨by unfold kindI; simp, by have hl : L.length = 2 := hl; omega⟩ hkn
  · exact absurd ⟨by unfold kindI; simp, by have hl : L.length = 1 := hl; omega⟩ hkn
  · show OneO B (startB B _ _)
    unfold startB
    split
    · exact ⟨rfl, rfl, by simp [upd]⟩
    · exact hs
  · refine ha _ ?_
    unfold failB
    split
    · exact ⟨rfl, rfl, by simp [upd]⟩
    · exact ⟨rfl, rfl, by simp [upd]⟩
  · exact ha _ ⟨rfl, rfl, by simp [cancelB, upd]⟩
  · exact ha _ ⟨rfl, rfl, by simp [rollB, upd]⟩
  · refine ha _ ?_
    unfold pauseB
    split
    · exact hs
    · exact ⟨rfl, rfl, by simp [upd]⟩
  · refine ha _ ?_
    unfold goB
    split
    · exact ⟨rfl, rfl, by simp [upd]⟩
    · exact hs
  · exact ha _ ⟨rfl, rfl, by simp [doneB, upd]⟩
end Go.Proofs.YthnigndpibgibaaDoor
