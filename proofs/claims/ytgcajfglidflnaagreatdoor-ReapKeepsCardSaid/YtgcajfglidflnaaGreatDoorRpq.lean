import Derived.Test.YtgcajfglidflnaaGreatDoorPlm
import Derived.Test.YtgcajfglidflnaaGreatDoorRpd
/- What a listing says, in plain Lean: which records, and what they make of a brain. -/
namespace Go.Proofs.YtgcajfglidflnaaGreatDoor
open Go.RowKit Go.Shelf

theorem applyL_append (B : BrainV) (a b : List RecP) : applyL B (a ++ b) = applyL (applyL B a) b := by unfold applyL; rw [List.foldl_append]
/-- The records of a listing. -/
def kindR (r : RecP) : Prop := (r.1 = 4 ∧ r.2.length = 3) ∨ (r.1 = 6 ∧ r.2.length = 3) ∨ (r.1 = 7 ∧ r.2.length = 1) ∨ (r.1 = 8 ∧ r.2.length = 5)
def idR (r : RecP) : Int := if r.1 = 4 then r.2.getD 1 0 else r.2.getD 0 0
theorem keptI_some {l : List SeenV} {frm now : Int} {k : KeptV} {r : RecP} (h : keptI l frm now k = some r) :
  k.since < frm ∧ ((firstS l k.id = none ∧ r = (7, [k.id])) ∨ ∃ x t, firstS l k.id = some x ∧ k.phase = 4 ∧ ¬ (x.well = true ∧ x.inn = true) ∧ (t = 3 ∨ t = 5) ∧ r = (6, [k.id, t, now])) := by
 unfold keptI at h
 split at h
 ·rename_i hs
  refine ⟨hs, ?_⟩
  unfold keptR at h
  split at h
  ·rename_i hf
   cases h
   exact .inl ⟨hf, rfl⟩
  ·rename_i x hf
   split at h
   ·cases h
   ·rename_i hc
    have h1 : k.phase = 4 := by
     rcases Int.decEq k.phase 4 with h' | h'
     ·exact absurd (.inl h') hc
     ·exact h'
    have h2 : ¬ (x.well = true ∧ x.inn = true) := fun e => hc (.inr e)
    split at h
    ·cases h
     exact .inr ⟨x, 3, hf, h1, h2, .inl rfl, rfl⟩
    ·cases h
     exact .inr ⟨x, 5, hf, h1, h2, .inr rfl, rfl⟩
 ·cases h
theorem keptI_kind {l : List SeenV} {frm now : Int} {k : KeptV} {r : RecP} (h : keptI l frm now k = some r) : kindR r ∧ idR r = k.id := by
 obtain ⟨_, ⟨_, rfl⟩ | ⟨x, t, _, _, _, _, rfl⟩⟩ := keptI_some h
 ·exact ⟨.inr (.inr (.inl ⟨rfl, rfl⟩)), rfl⟩
 ·exact ⟨.inr (.inl ⟨rfl, rfl⟩), rfl⟩
theorem seenI_some {B : BrainV} {now : Int} {x : SeenV} {r : RecP} (h : seenI B now x = some r) :
  (∀ y ∈ B.K, y.id ≠ x.id) ∧ ((0 < x.token ∧ 0 ≤ idxL B.I (fun y => y.token == x.token) ∧ r = (4, [x.token, x.id, now])) ∨ (¬ (0 < x.token ∧ 0 ≤ idxL B.I (fun y => y.token == x.token)) ∧ r = (8, [x.id, x.token, x.version, x.zone, now]))) := by
 unfold seenI at h
 split at h
 ·cases h
 ·rename_i hn
  refine ⟨fun y hy => ?_, ?_⟩
  ·have := idx_none (L := B.K) (p := fun y => y.id == x.id) (by omega) y hy
   simpa using this
  ·split at h
   ·rename_i hc
    cases h
    exact .inl ⟨hc.1, hc.2, rfl⟩
   ·rename_i hc
    cases h
    exact .inr ⟨hc, rfl⟩
theorem seenI_none {B : BrainV} {now : Int} {x : SeenV} (h : seenI B now x = none) : ∃ y ∈ B.K, y.id = x.id := by
 unfold seenI at h
 split at h
 ·rename_i hp
  obtain ⟨k, y, _, hy, he⟩ := idx_some hp
  exact ⟨y, mem_get hy, by simpa using he⟩
 ·split at h <;> cases h
theorem seenI_kind {B : BrainV} {now : Int} {x : SeenV} {r : RecP} (h : seenI B now x = some r) : kindR r ∧ idR r = x.id := by
 obtain ⟨_, ⟨_, _, rfl⟩ | ⟨_, rfl⟩⟩ := seenI_some h
 ·exact ⟨.inl ⟨rfl, rfl⟩, rfl⟩
 ·exact ⟨.inr (.inr (.inr ⟨rfl, rfl⟩)), rfl⟩
theorem seenL_nil (now : Int) (B : BrainV) : seenL now B [] = [] := rfl
theorem seenL_none {now : Int} {B : BrainV} {x : SeenV} (h : seenI B now x = none) (l : List SeenV) : seenL now B (x :: l) = seenL now B l := by
 conv => lhs; unfold seenL
 rw [h]
theorem seenL_some {now : Int} {B : BrainV} {x : SeenV} {r : RecP} (h : seenI B now x = some r) (l : List SeenV) : seenL now B (x :: l) = r :: seenL now (applyB B r.1 r.2) l := by
 conv => lhs; unfold seenL
 rw [h]
theorem applyL_cons (B : BrainV) (r : RecP) (l : List RecP) : applyL B (r :: l) = applyL (applyB B r.1 r.2) l := rfl
theorem seenL_append {now : Int} : ∀ (a b : List SeenV) (B : BrainV), seenL now B (a ++ b) = seenL now B a ++ seenL now (applyL B (seenL now B a)) b
 | [], _, _ => rfl
 | x :: a, b, B => by
  rw [List.cons_append]
  cases h : seenI B now x with
  | none => rw [seenL_none h, seenL_none h]; exact seenL_append a b B
  | some r => rw [seenL_some h, seenL_some h, seenL_append a b, applyL_cons]; rfl
theorem seenL_kind {now : Int} : ∀ (l : List SeenV) (B : BrainV), ∀ r ∈ seenL now B l, kindR r
 | [], _, _, h => by cases h
 | x :: l, B, r, h => by
  unfold seenL at h
  split at h
  ·exact seenL_kind l B r h
  ·rename_i r' hr'
   rcases List.mem_cons.1 h with rfl | h
   ·exact (seenI_kind hr').1
   ·exact seenL_kind l _ r h
theorem keptL_kind {B : BrainV} {l : List SeenV} {frm now : Int} {r : RecP} (h : r ∈ keptL21 B l frm now) : kindR r := by
 obtain ⟨k, _, hk⟩ := List.mem_filterMap.1 h
 exact (keptI_kind hk).1
theorem itemsL_kind {B : BrainV} {l : List SeenV} {frm now : Int} : ∀ r ∈ itemsL B l frm now, kindR r := fun r hr => by
 rcases List.mem_append.1 hr with h | h
 ·exact keptL_kind h
 ·exact seenL_kind l _ r h
theorem seenL_len {now : Int} : ∀ (l : List SeenV) (B : BrainV), (seenL now B l).length ≤ l.length
 | [], _ => Nat.le_refl _
 | x :: l, B => by
  unfold seenL
  split
  ·have := seenL_len (now := now) l B; simp; omega
  ·simp only [List.length_cons]
   exact Nat.succ_le_succ (seenL_len l _)
theorem itemsL_len {B : BrainV} {l : List SeenV} {frm now : Int} : (itemsL B l frm now).length ≤ B.K.length + l.length := by
 unfold itemsL keptL21
 rw [List.length_append]
 have h1 := List.length_filterMap_le (keptI l frm now) B.K
 have h2 := seenL_len (now := now) l (applyL B (B.K.filterMap (keptI l frm now)))
 omega
theorem toldL_sub : ∀ (l : List RecP) (B : BrainV), List.Sublist (toldL B l) l
 | [], _ => List.Sublist.refl _
 | r :: l, B => by
  unfold toldL
  split
  ·exact (toldL_sub l _).cons _
  ·exact (toldL_sub l _).cons_cons _
theorem recordsL_kind {B : BrainV} {l : List SeenV} {frm now : Int} : ∀ r ∈ recordsL B l frm now, kindR r := fun r hr => itemsL_kind r ((toldL_sub _ _).mem hr)
theorem recordsL_len {B : BrainV} {l : List SeenV} {frm now : Int} : (recordsL B l frm now).length ≤ B.K.length + l.length := Nat.le_trans (toldL_sub _ _).length_le itemsL_len

theorem applyOf (B : BrainV) (k : Int) (L : List Int) (n : Nat) (R : BrainV) (hb : L.any badN = false) (h2 : k ≠ 2) (hk : (deedTs B L).lookup k = some (n, R)) (hL : L.length = n) : applyB B k L = R := by
 unfold applyB
 rw [hb, hk, if_neg (by simp), if_neg h2]
 exact if_pos hL
theorem applyBad {B : BrainV} {k : Int} {L : List Int} (hb : L.any badN = true) : applyB B k L = B := by unfold applyB; rw [if_pos hb]
/-- What such a record does. -/
def Eff (B : BrainV) (r : RecP) (R : BrainV) : Prop :=
 R = B ∨ (r.1 = 7 ∧ ∃ i x, B.K[i]? = some x ∧ x.id = idR r ∧ R = goneAt B i) ∨
 (r.1 = 6 ∧ ∃ i x, B.K[i]? = some x ∧ x.id = idR r ∧ R = setK B i { x with phase := r.2.getD 1 0, since := r.2.getD 2 0, complete := false }) ∨
 (r.1 = 8 ∧ (∀ y ∈ B.K, y.id ≠ idR r) ∧ R = keepB B ⟨r.2.getD 0 0, r.2.getD 1 0, r.2.getD 2 0, r.2.getD 3 0, 8, r.2.getD 4 0, false, false⟩) ∨
 (r.1 = 4 ∧ (∀ y ∈ B.K, y.id ≠ idR r) ∧ ∃ i x, B.I[i]? = some x ∧ x.token = r.2.getD 0 0 ∧ R = madeX B i x (r.2.getD 1 0) (r.2.getD 2 0))
theorem eff {B : BrainV} {r : RecP} (h : kindR r) : Eff B r (applyB B r.1 r.2) := by
 obtain ⟨k, L⟩ := r
 unfold kindR at h
 dsimp only at h ⊢
 cases hb : L.any badN with
 | true => exact .inl (applyBad hb)
 | false =>
  rcases h with ⟨rfl, hl⟩ | ⟨rfl, hl⟩ | ⟨rfl, hl⟩ | ⟨rfl, hl⟩
  ·rw [applyOf B 4 L 3 _ hb (by decide) rfl hl]
   unfold madeB
   split
   ·exact .inl rfl
   ·rename_i hc
    obtain ⟨i, x, hi, hx, hp⟩ := idx_some (L := B.I) (p := fun x => x.token == L.getD 0 0) (by omega)
    rw [hi]
    simp only [Int.toNat_natCast, hx]
    refine .inr (.inr (.inr (.inr ⟨rfl, fun y hy => ?_, i, x, hx, by simpa using hp, rfl⟩)))
    have := idx_none (L := B.K) (p := fun x => x.id == L.getD 1 0) (by omega) y hy
    simpa [idR] using this
  ·rw [applyOf B 6 L 3 _ hb (by decide) rfl hl]
   refine keptB_cases (P := fun R => Eff B (6, L) R) (.inl rfl) (fun i x hx he => ?_)
   unfold phaseB
   split
   ·exact .inr (.inr (.inl ⟨rfl, i, x, hx, by simpa [idR] using he, rfl⟩))
   ·exact .inl rfl
  ·rw [applyOf B 7 L 1 _ hb (by decide) rfl hl]
   exact keptB_cases (P := fun R => Eff B (7, L) R) (.inl rfl) (fun i x hx he => .inr (.inl ⟨rfl, i, x, hx, by simpa [idR] using he, rfl⟩))
  ·rw [applyOf B 8 L 5 _ hb (by decide) rfl hl]
   unfold takeB
   split
   ·rename_i hc
    refine .inr (.inr (.inr (.inl ⟨rfl, fun y hy => ?_, rfl⟩)))
    have := idx_none (L := B.K) (p := fun x => x.id == L.getD 0 0) hc.2 y hy
    simpa [idR] using this
   ·exact .inl rfl
theorem madeX_K {B : BrainV} {i : Nat} {x : IntentV} {id since : Int} {y : KeptV} : y ∈ (madeX B i x id since).K ↔ y = ⟨id, x.token, x.version, x.zone, if x.warm then 9 else 1, since, false, false⟩ ∨ y ∈ B.K := by
 unfold madeX
 split
 ·exact mem_keep
 ·exact mem_keep
theorem madeX_I {B : BrainV} {i : Nat} {x : IntentV} {id since : Int} : (madeX B i x id since).I = B.I.eraseIdx i := by
 unfold madeX
 split <;> rfl
theorem madeX_f {B : BrainV} {i : Nat} {x : IntentV} {id since : Int} {j : Nat} (hj : j ≠ 26) : (madeX B i x id since).f j = B.f j := by
 unfold madeX
 split
 ·simp [upd, hj]
 ·rfl
/-- What else is as it was. -/
theorem Eff.f {B R : BrainV} {r : RecP} (h : Eff B r R) : ∀ j, j ≠ 26 → R.f j = B.f j := by
 intro j hj
 rcases h with rfl | ⟨_, i, x, _, _, rfl⟩ | ⟨_, i, x, _, _, rfl⟩ | ⟨_, _, rfl⟩ | ⟨_, _, i, x, _, _, rfl⟩
 ·rfl
 ·rfl
 ·rfl
 ·rfl
 ·exact madeX_f hj
theorem Eff.I {B R : BrainV} {r : RecP} (h : Eff B r R) : List.Sublist R.I B.I := by
 rcases h with rfl | ⟨_, i, x, _, _, rfl⟩ | ⟨_, i, x, _, _, rfl⟩ | ⟨_, _, rfl⟩ | ⟨_, _, i, x, _, _, rfl⟩
 ·exact List.Sublist.refl _
 ·exact List.Sublist.refl _
 ·exact List.Sublist.refl _
 ·exact List.Sublist.refl _
 ·rw [madeX_I]; exact List.eraseIdx_sublist _ _
/-- Others stay. -/
theorem Eff.other {B R : BrainV} {r : RecP} (h : Eff B r R) {y : KeptV} (hy : y.id ≠ idR r) : y ∈ R.K ↔ y ∈ B.K := by
 rcases h with rfl | ⟨_, i, x, hx, he, rfl⟩ | ⟨_, i, x, hx, he, rfl⟩ | ⟨hk, hn, rfl⟩ | ⟨hk, hn, i, x, hx, he, rfl⟩
 ·exact Iff.rfl
 ·refine ⟨fun h => List.mem_of_mem_eraseIdx h, fun h => ?_⟩
  obtain ⟨j, hj⟩ := List.getElem?_of_mem h
  refine List.mem_eraseIdx_iff_getElem?.2 ⟨j, fun e => ?_, hj⟩
  subst e
  rw [hx] at hj
  cases hj
  exact hy he
 ·refine ⟨fun h => ?_, fun h => ?_⟩
  ·rcases mem_set' h with rfl | h
   ·exact absurd he hy
   ·exact h
  ·obtain ⟨j, hj⟩ := List.getElem?_of_mem h
   refine mem_set_other hj (fun e => ?_)
   subst e
   rw [hx] at hj
   cases hj
   exact hy he
 ·rw [mem_keep]
  refine ⟨fun h => ?_, .inr⟩
  rcases h with rfl | h
  ·exact absurd (by simp [idR, hk]) hy
  ·exact h
 ·rw [madeX_K]
  refine ⟨fun h => ?_, .inr⟩
  rcases h with rfl | h
  ·exact absurd (by simp [idR, hk]) hy
  ·exact h
/-- Who is the same is the very one. -/
theorem brain_ext {A B : BrainV} (h1 : A.f = B.f) (h2 : A.g = B.g) (h3 : A.M = B.M) (h4 : A.I = B.I) (h5 : A.K = B.K) : A = B := by
 obtain ⟨a, b, c, d, e⟩ := A
 obtain ⟨a', b', c', d', e'⟩ := B
 dsimp only at h1 h2 h3 h4 h5
 subst h1; subst h2; subst h3; subst h4; subst h5
 rfl
theorem Eff.same {B R : BrainV} {r : RecP} (h : Eff B r R) (hs : sameB R B = true) : R = B := by
 have hp := sameB_iff_parts.1 hs
 have hI := hp.2.2.2.2.2.1
 have hK := hp.2.2.2.2.2.2
 rcases h with rfl | ⟨_, i, x, hx, he, rfl⟩ | ⟨_, i, x, hx, he, rfl⟩ | ⟨hk, hn, rfl⟩ | ⟨hk, hn, i, x, hx, he, rfl⟩
 ·rfl
 ·exact brain_ext rfl rfl rfl rfl hK
 ·exact brain_ext rfl rfl rfl rfl hK
 ·exact brain_ext rfl rfl rfl rfl hK
 ·rw [madeX_I] at hI
  have h1 := lt_get hx
  have h2 := congrArg List.length hI
  rw [List.length_eraseIdx_of_lt h1] at h2
  omega
theorem applyL_told : ∀ (l : List RecP) (B : BrainV), (∀ r ∈ l, kindR r) → applyL B (toldL B l) = applyL B l
 | [], _, _ => rfl
 | r :: l, B, h => by
  unfold toldL
  have ih := applyL_told l (applyB B r.1 r.2) (fun r hr => h r (List.mem_cons_of_mem _ hr))
  split
  ·rename_i hs
   have e := (eff (B := B) (h r List.mem_cons_self)).same hs
   rw [List.nil_append, show applyL B (r :: l) = applyL (applyB B r.1 r.2) l from rfl]
   rw [e] at ih ⊢
   exact ih
  ·show applyL (applyB B r.1 r.2) _ = applyL (applyB B r.1 r.2) l
   exact ih
end Go.Proofs.YtgcajfglidflnaaGreatDoor

/- What records of a listing leave of a brain that may be: plain laws. -/
namespace Go.Proofs.YtgcajfglidflnaaGreatDoor
open Go.RowKit Go.Shelf

def goodN (n : Int) : Prop := 0 ≤ n ∧ n ≤ 1099511627776
theorem good_bad {n : Int} (h : goodN n) : badN n = false := by unfold goodN at h; unfold badN; simp; omega
theorem nowL_good {now : Int} (h : goodN now) : nowL now = now := by unfold goodN at h; unfold nowL; omega
structure FineS (x : SeenV) : Prop where
 id : 1 ≤ x.id ∧ x.id ≤ 1099511627776
 token : goodN x.token
 version : goodN x.version
 zone : goodN x.zone
theorem applyL_right : ∀ (l : List RecP) {B : BrainV}, RightP B → RightP (applyL B l)
 | [], _, h => h
 | r :: l, _, h => applyL_right l (h.apply r.1 r.2).1
theorem applyL_other : ∀ (l : List RecP) {B : BrainV} {y : KeptV}, (∀ r ∈ l, kindR r ∧ y.id ≠ idR r) → (y ∈ (applyL B l).K ↔ y ∈ B.K)
 | [], _, _, _ => Iff.rfl
 | r :: l, B, y, h => by
  have := applyL_other l (B := applyB B r.1 r.2) (y := y) (fun r hr => h r (List.mem_cons_of_mem _ hr))
  obtain ⟨h1, h2⟩ := h r List.mem_cons_self
  exact this.trans ((eff (B := B) h1).other h2)
theorem right_uniq {B : BrainV} (h : RightP B) {x y : KeptV} (hx : x ∈ B.K) (hy : y ∈ B.K) (he : x.id = y.id) : x = y := by
 obtain ⟨i, hi⟩ := List.getElem?_of_mem hx
 obtain ⟨j, hj⟩ := List.getElem?_of_mem hy
 have := rise_uniq h.ids hi hj he
 subst this
 rw [hi] at hj
 cases hj
 rfl
theorem right_id {B : BrainV} (h : RightP B) {x : KeptV} (hx : x ∈ B.K) : 0 < x.id ∧ x.id ≤ 1099511627776 := h.ids.1 _ (List.mem_map.2 ⟨x, hx, rfl⟩)
/-- One that is gone. -/
theorem gone_eff {B : BrainV} (h : RightP B) {k : KeptV} (hk : k ∈ B.K) : ∀ y ∈ (applyB B 7 [k.id]).K, y.id ≠ k.id := by
 have hg := right_id h hk
 have e : applyB B 7 [k.id] = _ := applyOf B 7 [k.id] 1 _ (by simp [good_bad (n := k.id) ⟨by omega, hg.2⟩]) (by decide) rfl rfl
 rw [e]
 intro y hy he
 obtain ⟨j, hj, hjk⟩ := find_mem h.ids hk
 unfold keptB at hy
 rw [show ([k.id] : List Int).getD 0 0 = k.id from rfl, hj, if_neg (by omega)] at hy
 simp only [Int.toNat_natCast, hjk] at hy
 have hy : y ∈ B.K.eraseIdx j := hy
 obtain ⟨q, hq, hqy⟩ := List.mem_eraseIdx_iff_getElem?.1 hy
 exact hq (rise_uniq h.ids hqy hjk he)
/-- One that serves no more. -/
theorem phase_eff {B : BrainV} (h : RightP B) {k : KeptV} (hk : k ∈ B.K) (h4 : k.phase = 4) {t now : Int} (ht : t = 3 ∨ t = 5) (hn : goodN now) : { k with phase := t, since := now, complete := false } ∈ (applyB B 6 [k.id, t, now]).K := by
 have hg := right_id h hk
 have e : applyB B 6 [k.id, t, now] = _ := applyOf B 6 [k.id, t, now] 3 _ (by simp [good_bad (n := k.id) ⟨by omega, hg.2⟩, good_bad hn, good_bad (n := t) (by unfold goodN; omega)]) (by decide) rfl rfl
 rw [e]
 obtain ⟨j, hj, hjk⟩ := find_mem h.ids hk
 unfold keptB
 rw [show ([k.id, t, now] : List Int).getD 0 0 = k.id from rfl, show ([k.id, t, now] : List Int).getD 1 0 = t from rfl, show ([k.id, t, now] : List Int).getD 2 0 = now from rfl, hj, if_neg (by omega)]
 simp only [Int.toNat_natCast, hjk]
 have hl : legalB k.phase t = true := by rw [h4]; rcases ht with rfl | rfl <;> decide
 unfold phaseB
 rw [if_pos hl]
 exact List.mem_set (lt_get hjk) _
theorem idx_not {α : Type} {L : List α} {p : α → Bool} (h : ∀ y ∈ L, p y = false) : idxL L p < 0 := by
 rcases Int.lt_or_le (idxL L p) 0 with h1 | h1
 ·exact h1
 ·obtain ⟨k, x, _, hx, hp⟩ := idx_some h1
  rw [h x (mem_get hx)] at hp
  cases hp
/-- A stray one. -/
theorem take_eff {B : BrainV} {x : SeenV} {now : Int} (hx : FineS x) (hn : goodN now) (ha : ∀ y ∈ B.K, y.id ≠ x.id) : applyB B 8 [x.id, x.token, x.version, x.zone, now] = keepB B ⟨x.id, x.token, x.version, x.zone, 8, now, false, false⟩ := by
 have e : applyB B 8 [x.id, x.token, x.version, x.zone, now] = _ := applyOf B 8 [x.id, x.token, x.version, x.zone, now] 5 _ (by simp [good_bad (n := x.id) ⟨by have := hx.id; omega, hx.id.2⟩, good_bad hn, good_bad hx.token, good_bad hx.version, good_bad hx.zone]) (by decide) rfl rfl
 rw [e]
 unfold takeB
 exact if_pos ⟨hx.id.1, idx_not (fun y hy => by simpa using ha y hy)⟩
/-- One whose launch is meant. -/
theorem made_eff {B : BrainV} {x : SeenV} {now : Int} (hx : FineS x) (hn : goodN now) (ha : ∀ y ∈ B.K, y.id ≠ x.id) (ht : 0 ≤ idxL B.I (fun y => y.token == x.token)) : ∃ i z, B.I[i]? = some z ∧ z.token = x.token ∧ applyB B 4 [x.token, x.id, now] = madeX B i z x.id now := by
 have e : applyB B 4 [x.token, x.id, now] = _ := applyOf B 4 [x.token, x.id, now] 3 _ (by simp [good_bad (n := x.id) ⟨by have := hx.id; omega, hx.id.2⟩, good_bad hn, good_bad hx.token]) (by decide) rfl rfl
 rw [e]
 obtain ⟨i, z, hi, hz, hp⟩ := idx_some ht
 refine ⟨i, z, hz, by simpa using hp, ?_⟩
 have h1 : idxL B.K (fun y => y.id == x.id) < 0 := idx_not (fun y hy => by simpa using ha y hy)
 have h2 := hx.id
 unfold madeB
 rw [show ([x.token, x.id, now] : List Int).getD 0 0 = x.token from rfl, show ([x.token, x.id, now] : List Int).getD 1 0 = x.id from rfl, show ([x.token, x.id, now] : List Int).getD 2 0 = now from rfl, hi, if_neg (by omega)]
 simp only [Int.toNat_natCast, hz]

/-- What becomes of a Kept in the first part. -/
def outK (l : List SeenV) (frm now : Int) (k : KeptV) : Option KeptV :=
 match keptI l frm now k with
 | none => some k
 | some r => if r.1 = 7 then none else some { k with phase := r.2.getD 1 0, since := r.2.getD 2 0, complete := false }
theorem outK_id {l : List SeenV} {frm now : Int} {k y : KeptV} (h : outK l frm now k = some y) : y.id = k.id := by
 unfold outK at h
 split at h
 ·cases h; rfl
 ·split at h
  ·cases h
  ·cases h; rfl
theorem part_one {B : BrainV} (h : RightP B) {l : List SeenV} {frm now : Int} (hn : goodN now) (y : KeptV) : y ∈ (applyL B (keptL21 B l frm now)).K ↔ ∃ k ∈ B.K, outK l frm now k = some y := by
 -- of one that is kept
 have one : ∀ k ∈ B.K, ∀ z : KeptV, z.id = k.id → (z ∈ (applyL B (keptL21 B l frm now)).K ↔ outK l frm now k = some z) := by
  intro k hk z hz
  obtain ⟨i, hi⟩ := List.getElem?_of_mem hk
  have hs : B.K = B.K.take i ++ k :: B.K.drop (i + 1) := by
   have hlt := lt_get hi
   rw [List.getElem?_eq_getElem hlt] at hi
   cases hi
   rw [← List.drop_eq_getElem_cons hlt, List.take_append_drop]
  have hpre : ∀ r ∈ (B.K.take i).filterMap (keptI l frm now), kindR r ∧ k.id ≠ idR r := by
   intro r hr
   obtain ⟨k', hk', hr'⟩ := List.mem_filterMap.1 hr
   obtain ⟨h1, h2⟩ := keptI_kind hr'
   refine ⟨h1, fun e => ?_⟩
   obtain ⟨j, hj⟩ := List.getElem?_of_mem hk'
   rw [List.getElem?_take] at hj
   split at hj
   ·have := rise_uniq h.ids hi hj (by omega)
    omega
   ·cases hj
  have hpost : ∀ r ∈ (B.K.drop (i + 1)).filterMap (keptI l frm now), kindR r ∧ k.id ≠ idR r := by
   intro r hr
   obtain ⟨k', hk', hr'⟩ := List.mem_filterMap.1 hr
   obtain ⟨h1, h2⟩ := keptI_kind hr'
   refine ⟨h1, fun e => ?_⟩
   obtain ⟨j, hj⟩ := List.getElem?_of_mem hk'
   rw [List.getElem?_drop] at hj
   have := rise_uniq h.ids hi hj (by omega)
   omega
  have hL : keptL21 B l frm now = (B.K.take i).filterMap (keptI l frm now) ++ ((keptI l frm now k).toList ++ (B.K.drop (i + 1)).filterMap (keptI l frm now)) := by
   unfold keptL21
   conv => lhs; rw [hs]
   rw [List.filterMap_append, List.filterMap_cons]
   cases keptI l frm now k <;> rfl
  rw [hL, applyL_append, applyL_append]
  have hR1 := applyL_right ((B.K.take i).filterMap (keptI l frm now)) h
  generalize hB1 : applyL B ((B.K.take i).filterMap (keptI l frm now)) = B1 at hR1 ⊢
  have hk1 : k ∈ B1.K := by rw [← hB1]; exact (applyL_other _ hpre).2 hk
  rw [applyL_other ((B.K.drop (i + 1)).filterMap (keptI l frm now)) (fun r hr => by rw [hz]; exact hpost r hr)]
  unfold outK
  cases hq : keptI l frm now k with
  | none =>
   show z ∈ B1.K ↔ _
   refine ⟨fun hzz => ?_, fun e => by cases e; exact hk1⟩
   rw [right_uniq hR1 hk1 hzz hz.symm]
  | some r =>
   show z ∈ (applyB B1 r.1 r.2).K ↔ _
   obtain ⟨_, ⟨_, rfl⟩ | ⟨x, t, _, h4, _, ht, rfl⟩⟩ := keptI_some hq
   ·refine ⟨fun hzz => absurd hz (gone_eff hR1 hk1 z hzz), fun e => ?_⟩
    cases e
   ·have hm := phase_eff hR1 hk1 h4 ht hn
    refine ⟨fun hzz => ?_, fun e => ?_⟩
    ·have := right_uniq (hR1.apply 6 [k.id, t, now]).1 hm hzz hz.symm
     rw [← this]
     rfl
    ·have e : some _ = some z := e
     cases e
     exact hm
 constructor
 ·intro hy
  by_cases hex : ∃ k ∈ B.K, y.id = k.id
  ·obtain ⟨k, hk, he⟩ := hex
   exact ⟨k, hk, (one k hk y he).1 hy⟩
  ·have : y ∈ B.K := (applyL_other (keptL21 B l frm now) (fun r hr => ⟨keptL_kind hr, fun e => by
    obtain ⟨k', hk', hr'⟩ := List.mem_filterMap.1 hr
    exact hex ⟨k', hk', by rw [e, (keptI_kind hr').2]⟩⟩)).1 hy
   exact absurd ⟨y, this, rfl⟩ hex
 ·rintro ⟨k, hk, ho⟩
  exact (one k hk y (outK_id ho)).2 ho
theorem part_one_I {B : BrainV} {l : List SeenV} {frm now : Int} : (applyL B (keptL21 B l frm now)).I = B.I := by
 have : ∀ (q : List RecP) (B : BrainV), (∀ r ∈ q, r.1 = 6 ∨ r.1 = 7) → (applyL B q).I = B.I := by
  intro q
  induction q with
  | nil => intros; rfl
  | cons r q ih =>
   intro B hr
   have h1 := ih (applyB B r.1 r.2) (fun r hq => hr r (List.mem_cons_of_mem _ hq))
   have h2 := (one_inst (B := B) (k := r.1) (by unfold kindI; have := hr r List.mem_cons_self; omega) r.2).2.2.2.1
   exact h1.trans h2
 refine this _ B (fun r hr => ?_)
 obtain ⟨k, _, hk⟩ := List.mem_filterMap.1 hr
 obtain ⟨_, ⟨_, rfl⟩ | ⟨x, t, _, _, _, _, rfl⟩⟩ := keptI_some hk
 ·exact .inr rfl
 ·exact .inl rfl

/-- One step of the second part. -/
theorem seen_step {B : BrainV} {now : Int} {x : SeenV} {r : RecP} (h : seenI B now x = some r) :
  (∀ y ∈ B.K, y ∈ (applyB B r.1 r.2).K) ∧ (∀ y ∈ (applyB B r.1 r.2).K, y ∈ B.K ∨ (y.id = x.id ∧ y.since = now)) := by
 obtain ⟨hk, hid⟩ := seenI_kind h
 obtain ⟨ha, h1⟩ := seenI_some h
 have he := eff (B := B) hk
 refine ⟨fun y hy => (he.other (by rw [hid]; exact ha y hy)).2 hy, fun y hy => ?_⟩
 rcases he with e | ⟨hk7, _⟩ | ⟨hk6, _⟩ | ⟨hk8, hn, e⟩ | ⟨hk4, hn, i, z, hz, hze, e⟩
 ·rw [e] at hy; exact .inl hy
 ·rcases h1 with ⟨_, _, rfl⟩ | ⟨_, rfl⟩ <;> simp at hk7
 ·rcases h1 with ⟨_, _, rfl⟩ | ⟨_, rfl⟩ <;> simp at hk6
 ·rcases h1 with ⟨_, _, rfl⟩ | ⟨_, rfl⟩
  ·simp at hk8
  ·rw [e, mem_keep] at hy
   rcases hy with rfl | hy
   ·exact .inr ⟨rfl, rfl⟩
   ·exact .inl hy
 ·rcases h1 with ⟨_, _, rfl⟩ | ⟨_, rfl⟩
  ·rw [e, madeX_K] at hy
   rcases hy with rfl | hy
   ·exact .inr ⟨rfl, rfl⟩
   ·exact .inl hy
  ·simp at hk4
theorem two_stay {now : Int} : ∀ (l : List SeenV) {B : BrainV} {y : KeptV}, y ∈ B.K → y ∈ (applyL B (seenL now B l)).K
 | [], _, _, h => h
 | x :: l, B, y, h => by
  unfold seenL
  split
  ·exact two_stay l h
  ·rename_i r hr
   exact two_stay l (B := applyB B r.1 r.2) ((seen_step hr).1 y h)
theorem two_from {now : Int} : ∀ (l : List SeenV) {B : BrainV} {y : KeptV}, y ∈ (applyL B (seenL now B l)).K → y ∈ B.K ∨ (y.since = now ∧ ∃ x ∈ l, y.id = x.id)
 | [], _, _, h => .inl h
 | x :: l, B, y, h => by
  unfold seenL at h
  split at h
  ·rcases two_from l h with h | ⟨h1, z, hz, h2⟩
   ·exact .inl h
   ·exact .inr ⟨h1, z, List.mem_cons_of_mem _ hz, h2⟩
  ·rename_i r hr
   rcases two_from l (B := applyB B r.1 r.2) h with h | ⟨h1, z, hz, h2⟩
   ·rcases (seen_step hr).2 y h with h | ⟨h1, h2⟩
    ·exact .inl h
    ·exact .inr ⟨h2, x, List.mem_cons_self, h1⟩
   ·exact .inr ⟨h1, z, List.mem_cons_of_mem _ hz, h2⟩
theorem two_I {now : Int} (l : List SeenV) (B : BrainV) : List.Sublist (applyL B (seenL now B l)).I B.I := by
 have : ∀ (q : List RecP) (B : BrainV), (∀ r ∈ q, kindR r) → List.Sublist (applyL B q).I B.I := by
  intro q
  induction q with
  | nil => intro B _; exact List.Sublist.refl _
  | cons r q ih =>
   intro B hr
   exact (ih (applyB B r.1 r.2) (fun r hq => hr r (List.mem_cons_of_mem _ hq))).trans (eff (B := B) (hr r List.mem_cons_self)).I
 exact this _ B (seenL_kind l B)
/-- One that is seen, and may be, is kept. -/
theorem seen_kept {B : BrainV} {now : Int} {x : SeenV} {r : RecP} (hx : FineS x) (hn : goodN now) (h : seenI B now x = some r) : ∃ y ∈ (applyB B r.1 r.2).K, y.id = x.id := by
 obtain ⟨ha, ⟨_, ht, rfl⟩ | ⟨_, rfl⟩⟩ := seenI_some h
 ·obtain ⟨i, z, hz, hze, e⟩ := made_eff hx hn ha ht
  refine ⟨_, by rw [e]; exact madeX_K.2 (.inl rfl), rfl⟩
 ·refine ⟨_, by rw [take_eff hx hn ha]; exact mem_keep.2 (.inl rfl), rfl⟩
theorem two_kept {now : Int} (hn : goodN now) : ∀ (l : List SeenV) {B : BrainV}, ∀ x ∈ l, FineS x → ∃ y ∈ (applyL B (seenL now B l)).K, y.id = x.id
 | [], _, _, h, _ => by cases h
 | x :: l, B, z, h, hz => by
  unfold seenL
  rcases List.mem_cons.1 h with rfl | h
  ·split
   ·rename_i hq
    obtain ⟨y, hy, he⟩ := seenI_none hq
    exact ⟨y, two_stay l hy, he⟩
   ·rename_i r hr
    obtain ⟨y, hy, he⟩ := seen_kept hz hn hr
    exact ⟨y, two_stay l (B := applyB B r.1 r.2) hy, he⟩
  ·split
   ·exact two_kept hn l z h hz
   ·rename_i r hr
    exact two_kept hn l (B := applyB B r.1 r.2) z h hz
theorem firstS_some {l : List SeenV} {id : Int} {x : SeenV} (h : firstS l id = some x) : x ∈ l ∧ x.id = id := by
 unfold firstS at h
 exact ⟨List.mem_of_find?_eq_some h, by simpa using List.find?_some h⟩
/-- The brain behind all that is said. -/
def outB (B : BrainV) (l : List SeenV) (frm now : Int) : BrainV := applyL B (itemsL B l frm now)
theorem out_told {B : BrainV} {l : List SeenV} {frm now : Int} (hn : goodN now) : applyL B (recordsL B l frm now) = outB B l frm now := by
 unfold recordsL outB
 rw [nowL_good hn, applyL_told _ _ itemsL_kind]
theorem out_two {B : BrainV} {l : List SeenV} {frm now : Int} : outB B l frm now = applyL (applyL B (keptL21 B l frm now)) (seenL now (applyL B (keptL21 B l frm now)) l) := by
 unfold outB itemsL
 rw [applyL_append]
/-- ReapStays, in plain words. -/
theorem stays_plain {B : BrainV} (h : RightP B) {l : List SeenV} {frm now : Int} (hn : goodN now) {k : KeptV} (hk : k ∈ B.K) :
  (frm ≤ k.since ∨ (∃ x, firstS l k.id = some x ∧ ((x.well = true ∧ x.inn = true) ∨ k.phase ≠ 4)) → k ∈ (outB B l frm now).K) ∧
  (¬ (frm ≤ k.since ∨ (∃ x, firstS l k.id = some x ∧ ((x.well = true ∧ x.inn = true) ∨ k.phase ≠ 4))) → (∃ x, firstS l k.id = some x) → ∃ y ∈ (outB B l frm now).K, y.id = k.id ∧ (y.phase = 5 ∨ y.phase = 3) ∧ y.since = now) := by
 rw [out_two]
 refine ⟨fun hc => two_stay l ((part_one h hn k).2 ⟨k, hk, ?_⟩), fun hc ⟨x, hx⟩ => ?_⟩
 ·have : keptI l frm now k = none := by
   unfold keptI keptR
   rcases hc with hc | ⟨x, hx, hc⟩
   ·rw [if_neg (by omega)]
   ·split
    ·rw [hx]
     dsimp only
     exact if_pos (hc.elim .inr .inl)
    ·rfl
  unfold outK
  rw [this]
 ·have h1 : k.since < frm := by
   rcases Int.lt_or_le k.since frm with h1 | h1
   ·exact h1
   ·exact absurd (.inl h1) hc
  have h2 : ¬ (k.phase ≠ 4 ∨ (x.well = true ∧ x.inn = true)) := fun e => hc (.inr ⟨x, hx, e.elim .inr .inl⟩)
  have h3 : ∃ t, (t = 3 ∨ t = 5) ∧ keptI l frm now k = some (6, [k.id, t, now]) := by
   unfold keptI keptR
   rw [if_pos h1, hx]
   dsimp only
   rw [if_neg h2]
   split
   ·exact ⟨3, .inl rfl, rfl⟩
   ·exact ⟨5, .inr rfl, rfl⟩
  obtain ⟨t, ht, h3⟩ := h3
  refine ⟨{ k with phase := t, since := now, complete := false }, two_stay l ((part_one h hn _).2 ⟨k, hk, ?_⟩), rfl, by dsimp only; omega, rfl⟩
  unfold outK
  rw [h3]
  rfl
/-- ReapKeeps, in plain words. -/
theorem keeps_plain {B : BrainV} (h : RightP B) {l : List SeenV} {now : Int} (hn : goodN now) (hl : ∀ x ∈ l, FineS x) :
  (∀ x ∈ l, ∃ y ∈ (outB B l now now).K, y.id = x.id) ∧
  (∀ k ∈ B.K, (∃ y ∈ (outB B l now now).K, y.id = k.id) ↔ ((∃ x ∈ l, x.id = k.id) ∨ now ≤ k.since)) ∧
  itemsL (outB B l now now) l now now = [] := by
 have hR1 := applyL_right (keptL21 B l now now) h
 have hR2 : RightP (outB B l now now) := applyL_right _ h
 have hA : ∀ x ∈ l, ∃ y ∈ (outB B l now now).K, y.id = x.id := by
  intro x hx
  rw [out_two]
  exact two_kept hn l x hx (hl x hx)
 refine ⟨hA, fun k hk => ⟨fun ⟨y, hy, he⟩ => ?_, fun hc => ?_⟩, ?_⟩
 ·rw [out_two] at hy
  rcases two_from l hy with hy | ⟨_, x, hx, hxe⟩
  ·obtain ⟨k', hk', ho⟩ := (part_one h hn y).1 hy
   have : k' = k := right_uniq h hk' hk (by rw [← outK_id ho]; exact he)
   subst this
   rcases Int.lt_or_le k'.since now with h1 | h1
   ·left
    cases hf : firstS l k'.id with
    | none =>
     have : keptI l now now k' = some (7, [k'.id]) := by unfold keptI keptR; rw [if_pos h1, hf]
     unfold outK at ho
     rw [this] at ho
     cases ho
    | some x => exact ⟨x, firstS_some hf⟩
   ·exact .inr h1
  ·exact .inl ⟨x, hx, by omega⟩
 ·rcases hc with ⟨x, hx, he⟩ | hc
  ·obtain ⟨y, hy, hye⟩ := hA x hx
   exact ⟨y, hy, by omega⟩
  ·exact ⟨k, (stays_plain h hn hk).1 (.inl hc), rfl⟩
 ·have h1 : keptL21 (outB B l now now) l now now = [] := by
   unfold keptL21
   rw [List.filterMap_eq_nil_iff]
   intro y hy
   cases hq : keptI l now now y with
   | none => rfl
   | some r =>
    exfalso
    have hs := (keptI_some hq).1
    have hy' := hy
    rw [out_two] at hy'
    rcases two_from l hy' with hy1 | ⟨h1, _⟩
    ·obtain ⟨k, hk, ho⟩ := (part_one h hn y).1 hy1
     unfold outK at ho
     split at ho
     ·rename_i hn'
      cases ho
      rw [hq] at hn'
      cases hn'
     ·rename_i r' hr'
      split at ho
      ·cases ho
      ·rename_i h7
       obtain ⟨_, ⟨_, rfl⟩ | ⟨x, t, _, _, _, _, rfl⟩⟩ := keptI_some hr'
       ·exact h7 rfl
       ·cases ho
        simp at hs
    ·omega
  have h2 : ∀ (q : List SeenV) (B' : BrainV), (∀ x ∈ q, ∃ y ∈ B'.K, y.id = x.id) → seenL now B' q = [] := by
   intro q
   induction q with
   | nil => intros; rfl
   | cons x q ih =>
    intro B' hq
    unfold seenL
    split
    ·exact ih B' (fun x hx => hq x (List.mem_cons_of_mem _ hx))
    ·rename_i r hr
     obtain ⟨y, hy, he⟩ := hq x List.mem_cons_self
     exact absurd he ((seenI_some hr).1 y hy)
  unfold itemsL
  rw [h1]
  exact h2 l _ hA
end Go.Proofs.YtgcajfglidflnaaGreatDoor

/- ReapKeeps, plain: how many are kept behind a listing; said again it says nothing. -/
namespace Go.Proofs.YtgcajfglidflnaaGreatDoor
open Go.RowKit Go.Shelf

theorem few_in : ∀ (a b : List Int), a.Pairwise (· < ·) → (∀ x ∈ a, x ∈ b) → a.length ≤ b.length
 | [], b, _, _ => Nat.zero_le _
 | x :: a, b, hp, hs => by
  have hx := hs x (List.mem_cons_self ..)
  have hp' := List.pairwise_cons.1 hp
  have := few_in a (b.erase x) hp'.2 fun y hy => by
   have hne : y ≠ x := by have := hp'.1 y hy; omega
   exact (List.mem_erase_of_ne hne).2 (hs y (List.mem_cons_of_mem _ hy))
  rw [List.length_erase_of_mem hx] at this
  have hpos := List.length_pos_of_mem hx
  rw [List.length_cons]
  omega
theorem out_few {B : BrainV} (h : RightP B) {l : List SeenV} {frm now : Int} (hn : goodN now) : (outB B l frm now).K.length ≤ B.K.length + l.length ∧ (outB B l frm now).I.length ≤ B.I.length := by
 have hO : RightP (outB B l frm now) := applyL_right _ h
 rw [out_two] at hO ⊢
 refine ⟨?_, ?_⟩
 ·have := few_in ((applyL (applyL B (keptL21 B l frm now)) (seenL now (applyL B (keptL21 B l frm now)) l)).K.map KeptV.id) (B.K.map KeptV.id ++ l.map SeenV.id) hO.ids.2 fun x hx => by
   obtain ⟨y, hy, rfl⟩ := List.mem_map.1 hx
   rcases two_from l hy with h1 | ⟨_, z, hz, he⟩
   ·obtain ⟨k, hk, ho⟩ := (part_one h hn y).1 h1
    exact List.mem_append_left _ (List.mem_map.2 ⟨k, hk, (outK_id ho).symm⟩)
   ·exact List.mem_append_right _ (List.mem_map.2 ⟨z, hz, he.symm⟩)
  simpa using this
 ·have := (two_I (now := now) l (applyL B (keptL21 B l frm now))).length_le
  rw [part_one_I] at this
  exact this
theorem applyL_M {n : Nat} (hn : 4 ≤ n) : ∀ (R : List RecP) {B : BrainV}, B.M.length ≤ n → (applyL B R).M.length ≤ n
 | [], _, h => h
 | r :: R, _, h => applyL_M hn R (applyB_M _ r.1 r.2 h hn)
theorem rec_nil {O : BrainV} {l : List SeenV} {now : Int} (hn : goodN now) (h : itemsL O l now now = []) : recordsL O l now now = [] := by
 unfold recordsL
 rw [nowL_good hn, h]
 rfl
end Go.Proofs.YtgcajfglidflnaaGreatDoor
