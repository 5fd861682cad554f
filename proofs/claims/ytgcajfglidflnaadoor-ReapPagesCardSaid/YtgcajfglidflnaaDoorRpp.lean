import Derived.Test.YtgcajfglidflnaaDoorPlm
import Derived.Test.YtgcajfglidflnaaDoorRpd
/- What a listing says, in plain Lean: which records, and what they make of a brain. -/
namespace Go.Proofs.YtgcajfglidflnaaDoor
open Go.RowKit Go.Shelf

theorem applyL_append (B : BrainV) (a b : List RecP) : applyL B (a ++ b) = applyL (applyL B a) b := by unfold applyL; rw [List.foldl_append]
/-- The records of a listing. -/
def kindR (r : RecP) : Prop := (r.1 = 4 ∧ r.2.length = 3) ∨ (r.1 = 6 ∧ r.2.length = 3) ∨ (r.1 = 7 ∧ r.2.length = 1) ∨ (r.1 = 8 ∧ r.2.length = 5)
def idR (r : RecP) : Int := if r.1 = 4 then r.2.getD 1 0 else r.2.getD 0 0
theorem keptI_some {l : List SeenV} {frm now : Int} {k : KeptV} {r : RecP} (h : keptI l frm now k = some r) :
    k.since < frm ∧ ((firstS l k.id = none ∧ r = (7, [k.id])) ∨ ∃ x t, firstS l k.id = some x ∧ k.phase = 4 ∧ ¬ (x.well = true ∧ x.inn = true) ∧ (t = 3 ∨ t = 5) ∧ r = (6, [k.id, t, now])) := by
  unfold keptI at h
  split at h
  · rename_i hs
    refine ⟨hs, ?_⟩
    unfold keptR at h
    split at h
    · rename_i hf
      cases h
      exact .inl ⟨hf, rfl⟩
    · rename_i x hf
      split at h
      · cases h
      · rename_i hc
        have h1 : k.phase = 4 := by
          rcases Int.decEq k.phase 4 with h' | h'
          · exact absurd (.inl h') hc
          · exact h'
        have h2 : ¬ (x.well = true ∧ x.inn = true) := fun e => hc (.inr e)
        split at h
        · cases h
          exact .inr ⟨x, 3, hf, h1, h2, .inl rfl, rfl⟩
        · cases h
          exact .inr ⟨x, 5, hf, h1, h2, .inr rfl, rfl⟩
  · cases h
theorem keptI_kind {l : List SeenV} {frm now : Int} {k : KeptV} {r : RecP} (h : keptI l frm now k = some r) : kindR r ∧ idR r = k.id := by
  obtain ⟨_, ⟨_, rfl⟩ | ⟨x, t, _, _, _, _, rfl⟩⟩ := keptI_some h
  · exact ⟨.inr (.inr (.inl ⟨rfl, rfl⟩)), rfl⟩
  · exact ⟨.inr (.inl ⟨rfl, rfl⟩), rfl⟩
theorem seenI_some {B : BrainV} {now : Int} {x : SeenV} {r : RecP} (h : seenI B now x = some r) :
    (∀ y ∈ B.K, y.id ≠ x.id) ∧ ((0 < x.token ∧ 0 ≤ idxL B.I (fun y => y.token == x.token) ∧ r = (4, [x.token, x.id, now])) ∨ (¬ (0 < x.token ∧ 0 ≤ idxL B.I (fun y => y.token == x.token)) ∧ r = (8, [x.id, x.token, x.version, x.zone, now]))) := by
  unfold seenI at h
  split at h
  · cases h
  · rename_i hn
    refine ⟨fun y hy => ?_, ?_⟩
    · have := idx_none (L := B.K) (p := fun y => y.id == x.id) (by omega) y hy
      simpa using this
    · split at h
      · rename_i hc
        cases h
        exact .inl ⟨hc.1, hc.2, rfl⟩
      · rename_i hc
        cases h
        exact .inr ⟨hc, rfl⟩
theorem seenI_none {B : BrainV} {now : Int} {x : SeenV} (h : seenI B now x = none) : ∃ y ∈ B.K, y.id = x.id := by
  unfold seenI at h
  split at h
  · rename_i hp
    obtain ⟨k, y, _, hy, he⟩ := idx_some hp
    exact ⟨y, mem_get hy, by simpa using he⟩
  · split at h <;> cases h
theorem seenI_kind {B : BrainV} {now : Int} {x : SeenV} {r : RecP} (h : seenI B now x = some r) : kindR r ∧ idR r = x.id := by
  obtain ⟨_, ⟨_, _, rfl⟩ | ⟨_, rfl⟩⟩ := seenI_some h
  · exact ⟨.inl ⟨rfl, rfl⟩, rfl⟩
  · exact ⟨.inr (.inr (.inr ⟨rfl, rfl⟩)), rfl⟩
theorem seenL_nil (now : Int) (B : BrainV) : seenL now B [] = [] := rfl
theorem seenL_none {now : Int} {B : BrainV} {x : SeenV} (h : seenI B now x = none) (l : List SeenV) : seenL now B (x :: l) = seenL now B l := by
  conv => lhs; unfold seenL
  rw [h]
theorem seenL_some {now : Int} {B : BrainV} {x : SeenV} {r : RecP} (h : seenI B now x = some r) (l : List SeenV) : seenL now B (x :: l) = r :: seenL now (applyB B r.1 r.2) l := by
  conv => lhs; unfold seenL
  rw [h]
theorem applyL_cons (B : BrainV) (r : RecP) (l : List RecP) : applyL B (r :: l) = applyL (applyB B r.1 r.2) l := rfl
theorem seenL_append {now : Int} : ∀ (a b : List SeenV) (B : BrainV), seenL now B (a ++ b) = seenL now B a ++ seenL now (applyL B (seenL now B a)) b
  | [], _, _ => rfl
  | x :: a, b, B => by
    rw [List.cons_append]
    cases h : seenI B now x with
    | none => rw [seenL_none h, seenL_none h]; exact seenL_append a b B
    | some r => rw [seenL_some h, seenL_some h, seenL_append a b, applyL_cons]; rfl
theorem seenL_kind {now : Int} : ∀ (l : List SeenV) (B : BrainV), ∀ r ∈ seenL now B l, kindR r
  | [], _, _, h => by cases h
  | x :: l, B, r, h => by
    unfold seenL at h
    split at h
    · exact seenL_kind l B r h
    · rename_i r' hr'
      rcases List.mem_cons.1 h with rfl | h
      · exact (seenI_kind hr').1
      · exact seenL_kind l _ r h
theorem keptL_kind {B : BrainV} {l : List SeenV} {frm now : Int} {r : RecP} (h : r ∈ keptL21 B l frm now) : kindR r := by
  obtain ⟨k, _, hk⟩ := List.mem_filterMap.1 h
  exact (keptI_kind hk).1
theorem itemsL_kind {B : BrainV} {l : List SeenV} {frm now : Int} : ∀ r ∈ itemsL B l frm now, kindR r := fun r hr => by
  rcases List.mem_append.1 hr with h | h
  · exact keptL_kind h
  · exact seenL_kind l _ r h
theorem seenL_len {now : Int} : ∀ (l : List SeenV) (B : BrainV), (seenL now B l).length ≤ l.length
  | [], _ => Nat.le_refl _
  | x :: l, B => by
    unfold seenL
    split
    · have := seenL_len (now := now) l B; simp; omega
    · simp only [List.length_cons]
      exact Nat.succ_le_succ (seenL_len l _)
theorem itemsL_len {B : BrainV} {l : List SeenV} {frm now : Int} : (itemsL B l frm now).length ≤ B.K.length + l.length := by
  unfold itemsL keptL21
  rw [List.length_append]
  have h1 := List.length_filterMap_le (keptI l frm now) B.K
  have h2 := seenL_len (now := now) l (applyL B (B.K.filterMap (keptI l frm now)))
  omega
theorem toldL_sub : ∀ (l : List RecP) (B : BrainV), List.Sublist (toldL B l) l
  | [], _ => List.Sublist.refl _
  | r :: l, B => by
    unfold toldL
    split
    · exact (toldL_sub l _).cons _
    · exact (toldL_sub l _).cons_cons _
theorem recordsL_kind {B : BrainV} {l : List SeenV} {frm now : Int} : ∀ r ∈ recordsL B l frm now, kindR r := fun r hr => itemsL_kind r ((toldL_sub _ _).mem hr)
theorem recordsL_len {B : BrainV} {l : List SeenV} {frm now : Int} : (recordsL B l frm now).length ≤ B.K.length + l.length := Nat.le_trans (toldL_sub _ _).length_le itemsL_len

theorem applyOf (B : BrainV) (k : Int) (L : List Int) (n : Nat) (R : BrainV) (hb : L.any badN = false) (h2 : k ≠ 2) (hk : (deedTs B L).lookup k = some (n, R)) (hL : L.length = n) : applyB B k L = R := by
  unfold applyB
  rw [hb, hk, if_neg (by simp), if_neg h2]
  exact if_pos hL
theorem applyBad {B : BrainV} {k : Int} {L : List Int} (hb : L.any badN = true) : applyB B k L = B := by unfold applyB; rw [if_pos hb]
/-- What such a record does. -/
def Eff (B : BrainV) (r : RecP) (R : BrainV) : Prop :=
  R = B ∨ (r.1 = 7 ∧ ∃ i x, B.K[i]? = some x ∧ x.id = idR r ∧ R = goneAt B i) ∨
  (r.1 = 6 ∧ ∃ i x, B.K[i]? = some x ∧ x.id = idR r ∧ R = setK B i { x with phase := r.2.getD 1 0, since := r.2.getD 2 0, complete := false }) ∨
  (r.1 = 8 ∧ (∀ y ∈ B.K, y.id ≠ idR r) ∧ R = keepB B ⟨r.2.getD 0 0, r.2.getD 1 0, r.2.getD 2 0, r.2.getD 3 0, 8, r.2.getD 4 0, false, false⟩) ∨
  (r.1 = 4 ∧ (∀ y ∈ B.K, y.id ≠ idR r) ∧ ∃ i x, B.I[i]? = some x ∧ x.token = r.2.getD 0 0 ∧ R = madeX B i x (r.2.getD 1 0) (r.2.getD 2 0))
theorem eff {B : BrainV} {r : RecP} (h : kindR r) : Eff B r (applyB B r.1 r.2) := by
  obtain ⟨k, L⟩ := r
  unfold kindR at h
  dsimp only at h ⊢
  cases hb : L.any badN with
  | true => exact .inl (applyBad hb)
  | false =>
    rcases h with ⟨rfl, hl⟩ | ⟨rfl, hl⟩ | ⟨rfl, hl⟩ | ⟨rfl, hl⟩
    · rw [applyOf B 4 L 3 _ hb (by decide) rfl hl]
      unfold madeB
      split
      · exact .inl rfl
      · rename_i hc
        obtain ⟨i, x, hi, hx, hp⟩ := idx_some (L := B.I) (p := fun x => x.token == L.getD 0 0) (by omega)
        rw [hi]
        simp only [Int.toNat_natCast, hx]
        refine .inr (.inr (.inr (.inr ⟨rfl, fun y hy => ?_, i, x, hx, by simpa using hp, rfl⟩)))
        have := idx_none (L := B.K) (p := fun x => x.id == L.getD 1 0) (by omega) y hy
        simpa [idR] using this
    · rw [applyOf B 6 L 3 _ hb (by decide) rfl hl]
      refine keptB_cases (P := fun R => Eff B (6, L) R) (.inl rfl) (fun i x hx he => ?_)
      unfold phaseB
      split
      · exact .inr (.inr (.inl ⟨rfl, i, x, hx, by simpa [idR] using he, rfl⟩))
      · exact .inl rfl
    · rw [applyOf B 7 L 1 _ hb (by decide) rfl hl]
      exact keptB_cases (P := fun R => Eff B (7, L) R) (.inl rfl) (fun i x hx he => .inr (.inl ⟨rfl, i, x, hx, by simpa [idR] using he, rfl⟩))
    · rw [applyOf B 8 L 5 _ hb (by decide) rfl hl]
      unfold takeB
      split
      · rename_i hc
        refine .inr (.inr (.inr (.inl ⟨rfl, fun y hy => ?_, rfl⟩)))
        have := idx_none (L := B.K) (p := fun x => x.id == L.getD 0 0) hc.2 y hy
        simpa [idR] using this
      · exact .inl rfl
theorem madeX_K {B : BrainV} {i : Nat} {x : IntentV} {id since : Int} {y : KeptV} : y ∈ (madeX B i x id since).K ↔ y = ⟨id, x.token, x.version, x.zone, if x.warm then 9 else 1, since, false, false⟩ ∨ y ∈ B.K := by
  unfold madeX
  split
  · exact mem_keep
  · exact mem_keep
theorem madeX_I {B : BrainV} {i : Nat} {x : IntentV} {id since : Int} : (madeX B i x id since).I = B.I.eraseIdx i := by
  unfold madeX
  split <;> rfl
theorem madeX_f {B : BrainV} {i : Nat} {x : IntentV} {id since : Int} {j : Nat} (hj : j ≠ 26) : (madeX B i x id since).f j = B.f j := by
  unfold madeX
  split
  · simp [upd, hj]
  · rfl
/-- What else is as it was. -/
theorem Eff.f {B R : BrainV} {r : RecP} (h : Eff B r R) : ∀ j, j ≠ 26 → R.f j = B.f j := by
  intro j hj
  rcases h with rfl | ⟨_, i, x, _, _, rfl⟩ | ⟨_, i, x, _, _, rfl⟩ | ⟨_, _, rfl⟩ | ⟨_, _, i, x, _, _, rfl⟩
  · rfl
  · rfl
  · rfl
  · rfl
  · exact madeX_f hj
theorem Eff.I {B R : BrainV} {r : RecP} (h : Eff B r R) : List.Sublist R.I B.I := by
  rcases h with rfl | ⟨_, i, x, _, _, rfl⟩ | ⟨_, i, x, _, _, rfl⟩ | ⟨_, _, rfl⟩ | ⟨_, _, i, x, _, _, rfl⟩
  · exact List.Sublist.refl _
  · exact List.Sublist.refl _
  · exact List.Sublist.refl _
  · exact List.Sublist.refl _
  · rw [madeX_I]; exact List.eraseIdx_sublist _ _
/-- Others stay. -/
theorem Eff.other {B R : BrainV} {r : RecP} (h : Eff B r R) {y : KeptV} (hy : y.id ≠ idR r) : y ∈ R.K ↔ y ∈ B.K := by
  rcases h with rfl | ⟨_, i, x, hx, he, rfl⟩ | ⟨_, i, x, hx, he, rfl⟩ | ⟨hk, hn, rfl⟩ | ⟨hk, hn, i, x, hx, he, rfl⟩
  · exact Iff.rfl
  · refine ⟨fun h => List.mem_of_mem_eraseIdx h, fun h => ?_⟩
    obtain ⟨j, hj⟩ := List.getElem?_of_mem h
    refine List.mem_eraseIdx_iff_getElem?.2 ⟨j, fun e => ?_, hj⟩
    subst e
    rw [hx] at hj
    cases hj
    exact hy he
  · refine ⟨fun h => ?_, fun h => ?_⟩
    · rcases mem_set' h with rfl | h
      · exact absurd he hy
      · exact h
    · obtain ⟨j, hj⟩ := List.getElem?_of_mem h
      refine mem_set_other hj (fun e => ?_)
      subst e
      rw [hx] at hj
      cases hj
      exact hy he
  · rw [mem_keep]
    refine ⟨fun h => ?_, .inr⟩
    rcases h with rfl | h
    · exact absurd (by simp [idR, hk]) hy
    · exact h
  · rw [madeX_K]
    refine ⟨fun h => ?_, .inr⟩
    rcases h with rfl | h
    · exact absurd (by simp [idR, hk]) hy
    · exact h
/-- Who is the same is the very one. -/
theorem brain_ext {A B : BrainV} (h1 : A.f = B.f) (h2 : A.g = B.g) (h3 : A.M = B.M) (h4 : A.I = B.I) (h5 : A.K = B.K) : A = B := by
  obtain ⟨a, b, c, d, e⟩ := A
  obtain ⟨a', b', c', d', e'⟩ := B
  dsimp only at h1 h2 h3 h4 h5
  subst h1; subst h2; subst h3; subst h4; subst h5
  rfl
theorem Eff.same {B R : BrainV} {r : RecP} (h : Eff B r R) (hs : sameB R B = true) : R = B := by
  have hp := sameB_iff_parts.1 hs
  have hI := hp.2.2.2.2.2.1
  have hK := hp.2.2.2.2.2.2
  rcases h with rfl | ⟨_, i, x, hx, he, rfl⟩ | ⟨_, i, x, hx, he, rfl⟩ | ⟨hk, hn, rfl⟩ | ⟨hk, hn, i, x, hx, he, rfl⟩
  · rfl
  · exact brain_ext rfl rfl rfl rfl hK
  · exact brain_ext rfl rfl rfl rfl hK
  · exact brain_ext rfl rfl rfl rfl hK
  · rw [madeX_I] at hI
    have h1 := lt_get hx
    have h2 := congrArg List.length hI
    rw [List.length_eraseIdx_of_lt h1] at h2
    omega
theorem applyL_told : ∀ (l : List RecP) (B : BrainV), (∀ r ∈ l, kindR r) → applyL B (toldL B l) = applyL B l
  | [], _, _ => rfl
  | r :: l, B, h => by
    unfold toldL
    have ih := applyL_told l (applyB B r.1 r.2) (fun r hr => h r (List.mem_cons_of_mem _ hr))
    split
    · rename_i hs
      have e := (eff (B := B) (h r List.mem_cons_self)).same hs
      rw [List.nil_append, show applyL B (r :: l) = applyL (applyB B r.1 r.2) l from rfl]
      rw [e] at ih ⊢
      exact ih
    · show applyL (applyB B r.1 r.2) _ = applyL (applyB B r.1 r.2) l
      exact ih
end Go.Proofs.YtgcajfglidflnaaDoor
