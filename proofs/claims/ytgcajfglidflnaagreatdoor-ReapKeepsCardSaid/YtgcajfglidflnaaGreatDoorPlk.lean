import Derived.Test.YtgcajfglidflnaaGreatDoorRr
import Derived.Test.YtgcajfglidflnaaGreatDoorRcm
/- What records make of a brain: plain facts. -/
namespace Go.Proofs.YtgcajfglidflnaaGreatDoor
open Go.RowKit Go.Shelf

theorem good_at {L : List Int} (hb : ∀ y ∈ L, badN y = false) {i : Nat} (hi : i < L.length) : 0 ≤ L.getD i 0 ∧ L.getD i 0 ≤ 1099511627776 := by
 have e : L.getD i 0 = L[i] := by rw [List.getD_eq_getElem?_getD, List.getElem?_eq_getElem hi]; rfl
 have := hb L[i] (List.getElem_mem hi)
 unfold badN at this
 simp at this
 rw [e]
 omega
/-- What comes of a record: nothing, a group, or a deed. -/
theorem apply_ind {P : Int → BrainV → Prop} (B : BrainV) (k : Int) (L : List Int) (h0 : P k B)
  (h2 : (∀ y ∈ L, badN y = false) → ofB L = true → P 2 { f := groupF B L, g := upd (upd B.g 16 (ofG L)) 2 true, M := L.drop 14, I := B.I, K := B.K })
  (hD : (∀ y ∈ L, badN y = false) → ∀ t ∈ deedTs B L, L.length = t.2.1 → P t.1 t.2.2) : P k (applyB B k L) := by
 unfold applyB
 split
 ·exact h0
 ·rename_i hbad
  have hb : ∀ y ∈ L, badN y = false := fun y hy => by
   cases hq : badN y with
   | false => rfl
   | true => exact absurd (List.any_eq_true.2 ⟨y, hy, hq⟩) hbad
  split
  ·rename_i hk
   subst hk
   unfold groupB
   split
   ·rename_i ho
    exact h2 hb ho
   ·exact h0
  ·split
   ·exact h0
   ·rename_i m R hm
    split
    ·rename_i hl
     exact hD hb (k, m, R) (mem_lookup hm) hl
    ·exact h0
theorem checkB_same {f f' : Nat → Int} {M : List Int} (h : ∀ i, i < 13 → f i = f' i) : checkB f M = checkB f' M := by
 have hf : fieldsB f = fieldsB f' := by
  unfold fieldsB
  rw [Bool.eq_iff_iff]
  simp only [List.all_eq_true, List.mem_range]
  constructor
  ·intro q i hi; rw [← h i hi]; exact q i hi
  ·intro q i hi; rw [h i hi]; exact q i hi
 unfold checkB
 rw [hf, h 0 (by omega), h 1 (by omega), h 2 (by omega)]
theorem checkB_version {f : Nat → Int} {M : List Int} (h : checkB f M = true) : 1 ≤ f 12 ∧ f 12 ≤ 1099511627776 := by
 unfold checkB at h
 rw [Bool.and_eq_true] at h
 have := h.1
 unfold fieldsB at this
 rw [List.all_eq_true] at this
 have := this 12 (List.mem_range.2 (by omega))
 simpa [withB, limAt, limL] using this
theorem checkB_marks {f : Nat → Int} {M : List Int} (h : checkB f M = true) : M.length ≤ 4 := by
 unfold checkB at h
 simp only [Bool.and_eq_true, decide_eq_true_eq] at h
 exact h.2.1
theorem checkB_set {f : Nat → Int} {M : List Int} {v : Int} (h : checkB f M = true) (hv : 1 ≤ v ∧ v ≤ 1099511627776) {f' : Nat → Int} (h12 : f' 12 = v) (hf : ∀ i, i < 12 → f' i = f i) : checkB f' M = true := by
 have h0 : fieldsB f' = true := by
  unfold fieldsB
  rw [List.all_eq_true]
  intro i hi
  have hi := List.mem_range.1 hi
  by_cases h' : i < 12
  ·rw [hf i h']
   unfold checkB at h
   rw [Bool.and_eq_true] at h
   have h1 := h.1
   unfold fieldsB at h1
   exact List.all_eq_true.1 h1 i (List.mem_range.2 hi)
  ·obtain rfl : i = 12 := by omega
   rw [h12]
   simpa [withB, limAt, limL] using hv
 unfold checkB at h ⊢
 rw [Bool.and_eq_true] at h ⊢
 refine ⟨h0, ?_⟩
 rw [hf 0 (by omega), hf 1 (by omega), hf 2 (by omega)]
 exact h.2
/-- A brain that may be. -/
structure RightP (B : BrainV) : Prop where
 e0 : 0 ≤ B.f 0
 e1 : B.f 0 ≤ 1099511627776
 s0 : 0 ≤ B.f 1
 s1 : B.f 1 ≤ 1099511627776
 ph : ∀ x ∈ B.K, 1 ≤ x.phase ∧ x.phase < 11
 tok : RiseP (B.f 1) (B.I.map IntentV.token)
 ids : RiseP 1099511627776 (B.K.map KeptV.id)
 rf : B.f 20 = 1 → 1 ≤ B.f 21 ∧ B.f 21 ≤ 1099511627776 ∧ 1 ≤ B.f 22 ∧ B.f 22 ≤ 1099511627776
 conf : B.g 2 = true → checkB (fun i => B.f (i + 3)) B.M = true
 none : B.g 2 = false → B.I.length = 0 ∧ B.f 20 = 0
theorem rightP_iff {B : BrainV} : rightB B = true ↔ RightP B := by
 rw [right_iff]
 constructor
 ·rintro ⟨⟨h1, h2, h3, h4, h5, h6, h7⟩, h8, h9, h10⟩
  exact ⟨h1, h2, h3, h4, of_decide_eq_true h5, riseB_iff.1 h6, riseB_iff.1 h7, h8, h9, h10⟩
 ·rintro ⟨h1, h2, h3, h4, h5, h6, h7, h8, h9, h10⟩
  exact ⟨⟨h1, h2, h3, h4, decide_eq_true h5, riseB_iff.2 h6, riseB_iff.2 h7⟩, h8, h9, h10⟩
theorem RiseP.sub {hi : Int} {l l' : List Int} (h : RiseP hi l) (hs : List.Sublist l' l) : RiseP hi l' := ⟨fun x hx => h.1 x (hs.mem hx), h.2.sublist hs⟩
theorem RiseP.snoc {hi x : Int} {l : List Int} (h : RiseP hi l) (hx : hi < x) (h0 : 0 < x) : RiseP x (l ++ [x]) := by
 refine ⟨fun y hy => ?_, ?_⟩
 ·rcases List.mem_append.1 hy with h1 | h1
  ·have := h.1 y h1; omega
  ·simp at h1; omega
 ·rw [List.pairwise_append]
  refine ⟨h.2, List.pairwise_singleton _ _, fun a ha c hc => ?_⟩
  simp at hc
  have := h.1 a ha
  omega
theorem idx_none {α : Type} {L : List α} {p : α → Bool} (h : idxL L p < 0) : ∀ y ∈ L, p y = false := by
 rcases idxL_cases L p with ⟨_, h1⟩ | ⟨k, x, hk, _⟩
 ·exact h1
 ·omega
theorem idx_some {α : Type} {L : List α} {p : α → Bool} (h : 0 ≤ idxL L p) : ∃ (k : Nat) (x : α), idxL L p = k ∧ L[k]? = some x ∧ p x = true := by
 rcases idxL_cases L p with ⟨h0, _⟩ | ⟨k, x, hk, hx, hp, _⟩
 ·omega
 ·exact ⟨k, x, hk, hx, hp⟩
theorem placeK_take {K : List KeptV} {t : Int} : ∀ y ∈ K.take (placeK K t), y.id ≤ t := by
 intro y hy
 unfold placeK at hy
 cases hf : K.findIdx? (fun y => decide (t < y.id)) with
 | none =>
  have := List.findIdx?_eq_none_iff.1 hf y (List.mem_of_mem_take hy)
  simpa using this
 | some k =>
  rw [hf] at hy
  obtain ⟨hk, _, h2⟩ := List.findIdx?_eq_some_iff_getElem.1 hf
  obtain ⟨j, hj, e⟩ := List.mem_iff_getElem.1 hy
  have hjk : j < k := by simp at hj; omega
  have := h2 j hjk
  rw [List.getElem_take] at e
  rw [e] at this
  simpa using this
theorem placeK_drop {K : List KeptV} {t : Int} (hr : (K.map KeptV.id).Pairwise (· < ·)) : ∀ y ∈ K.drop (placeK K t), t < y.id := by
 intro y hy
 unfold placeK at hy
 cases hf : K.findIdx? (fun y => decide (t < y.id)) with
 | none => rw [hf] at hy; simp at hy
 | some k =>
  rw [hf] at hy
  obtain ⟨hk, h1, _⟩ := List.findIdx?_eq_some_iff_getElem.1 hf
  have h1 : t < K[k].id := by simpa using h1
  simp only [Option.getD_some] at hy
  obtain ⟨j, hj, e⟩ := List.mem_iff_getElem.1 hy
  rw [List.getElem_drop] at e
  have hlen : k + j < K.length := by simp at hj; omega
  rcases Nat.eq_zero_or_pos j with rfl | hj0
  ·simp only [Nat.add_zero] at e; rw [← e]; exact h1
  ·have := List.pairwise_iff_getElem.1 hr k (k + j) (by simpa using hk) (by simpa using hlen) (by omega)
   simp only [List.getElem_map] at this
   rw [e] at this
   omega
theorem keep_rise {B : BrainV} {x : KeptV} (h : RiseP 1099511627776 (B.K.map KeptV.id)) (hn : ∀ y ∈ B.K, (y.id == x.id) = false) (hx : 0 < x.id ∧ x.id ≤ 1099511627776) : RiseP 1099511627776 ((keepB B x).K.map KeptV.id) := by
 unfold keepB insAt
 have hne : ∀ y ∈ B.K, y.id ≠ x.id := fun y hy => by simpa using hn y hy
 simp only [List.map_append, List.map_cons, List.map_nil]
 refine ⟨fun y hy => ?_, ?_⟩
 ·rcases List.mem_append.1 hy with hy | hy
  ·rcases List.mem_append.1 hy with hy | hy
   ·obtain ⟨z, hz, rfl⟩ := List.mem_map.1 hy
    exact h.1 _ (List.mem_map.2 ⟨z, List.mem_of_mem_take hz, rfl⟩)
   ·simp at hy; rw [hy]; exact hx
  ·obtain ⟨z, hz, rfl⟩ := List.mem_map.1 hy
   exact h.1 _ (List.mem_map.2 ⟨z, List.mem_of_mem_drop hz, rfl⟩)
 ·rw [List.pairwise_append, List.pairwise_append]
  refine ⟨⟨h.2.sublist ((List.take_sublist _ _).map _), List.pairwise_singleton _ _, ?_⟩, h.2.sublist ((List.drop_sublist _ _).map _), ?_⟩
  ·intro a ha c hc
   simp at hc
   obtain ⟨z, hz, rfl⟩ := List.mem_map.1 ha
   have h1 := placeK_take z hz
   have h2 := hne z (List.mem_of_mem_take hz)
   omega
  ·intro a ha c hc
   obtain ⟨z, hz, rfl⟩ := List.mem_map.1 hc
   have h1 := placeK_drop h.2 z hz
   rcases List.mem_append.1 ha with ha | ha
   ·obtain ⟨z', hz', rfl⟩ := List.mem_map.1 ha
    have h3 := placeK_take z' hz'
    omega
   ·simp at ha; omega
theorem mem_keep {B : BrainV} {x y : KeptV} : y ∈ (keepB B x).K ↔ y = x ∨ y ∈ B.K := by
 unfold keepB insAt
 simp only [List.mem_append, List.mem_singleton]
 constructor
 ·rintro ((h | h) | h)
  ·exact .inr (List.mem_of_mem_take h)
  ·exact .inl h
  ·exact .inr (List.mem_of_mem_drop h)
 ·rintro (h | h)
  ·exact .inl (.inr h)
  ·rw [← List.take_append_drop (placeK B.K x.id) B.K] at h
   rcases List.mem_append.1 h with h | h
   ·exact .inl (.inl h)
   ·exact .inr h
theorem len_keep {B : BrainV} {x : KeptV} : (keepB B x).K.length = B.K.length + 1 := by
 have := placeK_le B.K x.id
 unfold keepB insAt
 simp only [List.length_append, List.length_take, List.length_drop, List.length_cons, List.length_nil]
 omega
/-- What a record of one that is kept does. -/
theorem keptB_cases {P : BrainV → Prop} {B : BrainV} {D : Nat → KeptV → BrainV} {x0 : Int} (h0 : P B) (h : ∀ (i : Nat) (x : KeptV), B.K[i]? = some x → x.id = x0 → P (D i x)) : P (keptB B D x0) := by
 unfold keptB
 split
 ·exact h0
 ·rename_i hi
  obtain ⟨k, x, hk, hx, hp⟩ := idx_some (by omega : 0 ≤ idxL B.K (fun x => x.id == x0))
  rw [hk]
  simp only [Int.toNat_natCast, hx]
  exact h k x hx (by simpa using hp)
theorem mem_set' {α : Type} {l : List α} {i : Nat} {x y : α} (h : y ∈ l.set i x) : y = x ∨ y ∈ l := by
 rcases List.mem_or_eq_of_mem_set h with h | h
 ·exact .inr h
 ·exact .inl h
theorem set_ids {K : List KeptV} {i : Nat} {x y : KeptV} (hx : K[i]? = some x) (he : y.id = x.id) : (K.set i y).map KeptV.id = K.map KeptV.id := by
 rw [List.map_set, he]
 refine List.ext_getElem? fun j => ?_
 by_cases hj : j = i
 ·subst hj
  have := lt_get hx
  rw [List.getElem?_set_self (by simpa using this), List.getElem?_map, hx]
  rfl
 ·rw [List.getElem?_set_ne (fun e => hj e.symm)]
theorem upd_ne {α : Type} {f : Nat → α} {j i : Nat} {v : α} (h : i ≠ j) : upd f j v i = f i := by unfold upd; rw [if_neg h]
theorem upd_at {α : Type} {f : Nat → α} {j : Nat} {v : α} : upd f j v j = v := by unfold upd; rw [if_pos rfl]
theorem wrap_small {x : Int} (h0 : 0 ≤ x) (h1 : x ≤ 1099511627776) : wrap64 (x + 1) = x + 1 := by unfold wrap64; omega
end Go.Proofs.YtgcajfglidflnaaGreatDoor

/- A brain that may be may be behind whatever record; what a record leaves of its numbers: plain facts. -/
namespace Go.Proofs.YtgcajfglidflnaaGreatDoor
open Go.RowKit Go.Shelf

structure StepB (k : Int) (B R : BrainV) : Prop where
 seq : B.f 1 ≤ R.f 1
 ep : B.f 0 ≤ R.f 0
 set : B.g 2 = true → R.g 2 = true
 hi : R.I.length + R.K.length ≤ B.I.length + B.K.length + 1
 lo : B.I.length + B.K.length ≤ R.I.length + R.K.length + 1
 up : R.I.length + R.K.length = B.I.length + B.K.length + 1 → k = 3 ∨ k = 8
 dn : R.I.length + R.K.length + 1 = B.I.length + B.K.length → k = 7
section
variable {B R : BrainV} {k : Int}
theorem StepB.flat (h0 : R.f 0 = B.f 0) (h1 : R.f 1 = B.f 1) (hg : R.g 2 = B.g 2) (hI : R.I.length = B.I.length) (hK : R.K.length = B.K.length) : StepB k B R :=
 ⟨by omega, by omega, fun h => by rw [hg]; exact h, by omega, by omega, fun h => by omega, fun h => by omega⟩
theorem RightP.ref (h : RightP B) (hI : R.I = B.I) (hK : R.K = B.K) (hM : R.M = B.M) (hg : R.g 2 = B.g 2) (hf : ∀ i, i < 15 → R.f i = B.f i) (h15 : R.f 15 = B.f 15 ∨ (1 ≤ R.f 15 ∧ R.f 15 ≤ 1099511627776))
  (hr : R.f 20 = 1 → 1 ≤ R.f 21 ∧ R.f 21 ≤ 1099511627776 ∧ 1 ≤ R.f 22 ∧ R.f 22 ≤ 1099511627776) (hn : B.g 2 = false → R.f 20 = 0) : RightP R ∧ StepB k B R := by
 have f0 := hf 0 (by omega)
 have f1 := hf 1 (by omega)
 refine ⟨⟨by rw [f0]; exact h.e0, by rw [f0]; exact h.e1, by rw [f1]; exact h.s0, by rw [f1]; exact h.s1, by rw [hK]; exact h.ph, by rw [hI, f1]; exact h.tok, by rw [hK]; exact h.ids, hr, fun hg' => ?_, fun hg' => ?_⟩, StepB.flat f0 f1 hg (by rw [hI]) (by rw [hK])⟩
 ·rw [hg] at hg'
  have hc := h.conf hg'
  rw [hM]
  rcases h15 with h15 | h15
  ·rw [checkB_same (f' := fun i => B.f (i + 3))]
   ·exact hc
   ·intro i hi
    by_cases h12 : i < 12
    ·exact hf (i + 3) (by omega)
    ·obtain rfl : i = 12 := by omega
     exact h15
  ·exact checkB_set hc h15 rfl (fun i hi => hf (i + 3) (by omega))
 ·rw [hg] at hg'
  exact ⟨by rw [hI]; exact (h.none hg').1, hn hg'⟩
theorem RightP.kept (h : RightP B) {K' : List KeptV} (hp : ∀ x ∈ K', 1 ≤ x.phase ∧ x.phase < 11) (hr : RiseP 1099511627776 (K'.map KeptV.id)) : RightP { B with K := K' } :=
 ⟨h.e0, h.e1, h.s0, h.s1, hp, h.tok, hr, h.rf, h.conf, h.none⟩
theorem RightP.setK (h : RightP B) {i : Nat} {x y : KeptV} (hx : B.K[i]? = some x) (he : y.id = x.id) (hp : 1 ≤ y.phase ∧ y.phase < 11) : RightP (setK B i y) ∧ StepB k B (setK B i y) := by
 refine ⟨h.kept (fun z hz => ?_) ?_, StepB.flat rfl rfl rfl rfl (by simp [Go.Proofs.YtgcajfglidflnaaGreatDoor.setK])⟩
 ·rcases mem_set' hz with rfl | hz
  ·exact hp
  ·exact h.ph z hz
 ·rw [set_ids hx he]
  exact h.ids
theorem active_set (h : RightP B) (ha : B.f 20 = 1) : B.g 2 = true := by
 cases hg : B.g 2 with
 | true => rfl
 | false => have := (h.none hg).2; omega
theorem legal_range {p t : Int} (h : legalB p t = true) (ht : 0 ≤ t) : 1 ≤ t ∧ t < 11 := by
 unfold legalB at h
 simp only [Bool.and_eq_true, decide_eq_true_eq] at h
 obtain ⟨_, h2, h3⟩ := h
 refine ⟨?_, h2⟩
 by_cases h0 : t = 0
 ·subst h0
  exfalso
  have hall : ∀ l ∈ chL, (0 : Int) ∉ l := by decide
  by_cases hl : p.toNat < chL.length
  ·rw [List.getD_eq_getElem?_getD, List.getElem?_eq_getElem hl] at h3
   exact hall _ (List.getElem_mem hl) (by simpa using h3)
  ·rw [List.getD_eq_getElem?_getD, List.getElem?_eq_none (by omega)] at h3
   simp at h3
 ·omega
theorem madeX_right (h : RightP B) {i : Nat} {x : IntentV} (hx : B.I[i]? = some x) {id since : Int} (hid : 1 ≤ id ∧ id ≤ 1099511627776) (hn : ∀ y ∈ B.K, (y.id == id) = false) : RightP (madeX B i x id since) ∧ StepB 4 B (madeX B i x id since) := by
 obtain ⟨kx, hkx⟩ : ∃ kx : KeptV, kx = ⟨id, x.token, x.version, x.zone, if x.warm then 9 else 1, since, false, false⟩ := ⟨_, rfl⟩
 have hid' : kx.id = id := by rw [hkx]
 have hph : 1 ≤ kx.phase ∧ kx.phase < 11 := by rw [hkx]; dsimp only; split <;> omega
 have hlt := lt_get hx
 have hs : List.Sublist ((B.I.eraseIdx i).map IntentV.token) (B.I.map IntentV.token) := (List.eraseIdx_sublist _ _).map _
 have hb : RightP { B with I := B.I.eraseIdx i } := ⟨h.e0, h.e1, h.s0, h.s1, h.ph, h.tok.sub hs, h.ids, h.rf, h.conf, fun hg => by have := (h.none hg).1; omega⟩
 have hk : RightP (keepB { B with I := B.I.eraseIdx i } kx) :=
  hb.kept (K' := (keepB { B with I := B.I.eraseIdx i } kx).K) (fun z hz => by rcases mem_keep.1 hz with rfl | hz; exact hph; exact h.ph z hz) (keep_rise (B := { B with I := B.I.eraseIdx i }) h.ids (by rw [hid']; exact hn) (by rw [hid']; omega))
 have hl : (keepB { B with I := B.I.eraseIdx i } kx).K.length = B.K.length + 1 := len_keep
 have hl2 : (keepB { B with I := B.I.eraseIdx i } kx).I.length = B.I.length - 1 := by
  show (B.I.eraseIdx i).length = _
  rw [List.length_eraseIdx, if_pos hlt]
 unfold madeX
 rw [← hkx]
 split
 ·refine ⟨(hk.ref (k := 4) (R := { keepB { B with I := B.I.eraseIdx i } kx with f := upd B.f 26 0 }) rfl rfl rfl rfl (fun i hi => upd_ne (f := B.f) (i := i) (j := 26) (v := 0) (by omega)) (.inl (upd_ne (f := B.f) (i := 15) (j := 26) (v := 0) (by decide))) ?_ ?_).1, ?_⟩
  ·intro ha
   have ha : B.f 20 = 1 := by simpa [upd] using ha
   rw [show (({ keepB { B with I := B.I.eraseIdx i } kx with f := upd B.f 26 0 } : BrainV).f 21) = B.f 21 from by simp [upd], show (({ keepB { B with I := B.I.eraseIdx i } kx with f := upd B.f 26 0 } : BrainV).f 22) = B.f 22 from by simp [upd]]
   exact h.rf ha
  ·intro hg
   rw [show (({ keepB { B with I := B.I.eraseIdx i } kx with f := upd B.f 26 0 } : BrainV).f 20) = B.f 20 from by simp [upd]]
   exact (h.none hg).2
  ·refine ⟨by simp [upd], by simp [upd], fun hg => hg, ?_, ?_, ?_, ?_⟩
   all_goals
    simp only [hl, hl2]
    omega
 ·refine ⟨hk, Int.le_refl _, Int.le_refl _, fun hg => hg, ?_, ?_, ?_, ?_⟩
  all_goals
   simp only [hl, hl2]
   omega
theorem take_right (h : RightP B) {x : KeptV} (hid : 1 ≤ x.id ∧ x.id ≤ 1099511627776) (hn : ∀ y ∈ B.K, (y.id == x.id) = false) (hph : 1 ≤ x.phase ∧ x.phase < 11) : RightP (keepB B x) ∧ StepB 8 B (keepB B x) := by
 refine ⟨h.kept (K' := (keepB B x).K) (fun z hz => by rcases mem_keep.1 hz with rfl | hz; exact hph; exact h.ph z hz) (keep_rise h.ids hn (by omega)), Int.le_refl _, Int.le_refl _, fun hg => hg, ?_, ?_, ?_, ?_⟩
 all_goals
  have e1 : (keepB B x).I.length = B.I.length := rfl
  have e2 : (keepB B x).K.length = B.K.length + 1 := len_keep
  omega
set_option maxHeartbeats 1000000 in
/-- The stage's theorem, of one record. -/
theorem RightP.apply (h : RightP B) (k : Int) (L : List Int) : RightP (applyB B k L) ∧ StepB k B (applyB B k L) := by
 have hsame : ∀ k, RightP B ∧ StepB k B B := fun k => ⟨h, StepB.flat rfl rfl rfl rfl rfl⟩
 refine apply_ind (P := fun k R => RightP R ∧ StepB k B R) B k L (hsame k) (fun _ ho => ?_) (fun hb => ?_)
 ·unfold ofB at ho
  simp only [Bool.and_eq_true, decide_eq_true_eq] at ho
  obtain ⟨_, _, hc⟩ := ho
  have hv := checkB_version hc
  refine ⟨⟨?_, ?_, ?_, ?_, h.ph, ?_, h.ids, ?_, fun _ => ?_, fun hg => ?_⟩, ?_, ?_, fun _ => ?_, ?_, ?_, ?_, ?_⟩
  ·exact h.e0
  ·exact h.e1
  ·exact h.s0
  ·exact h.s1
  ·exact h.tok
  ·exact h.rf
  ·cases hg : B.g 2 with
   | true =>
    have hv' := checkB_version (h.conf hg)
    refine checkB_set (v := B.f 15) hc hv' ?_ (fun i hi => ?_)
    ·show groupF B L 15 = _
     unfold groupF
     rw [if_pos (by omega), if_pos ⟨rfl, hg⟩]
    ·show groupF B L (i + 3) = _
     unfold groupF
     rw [if_pos (by omega), if_neg (fun e => by omega)]
     rfl
   | false =>
    refine (checkB_same (fun i hi => ?_)).trans hc
    show groupF B L (i + 3) = _
    unfold groupF
    rw [if_pos (by omega), if_neg (fun e => by rw [hg] at e; exact absurd e.2 (by decide))]
    rfl
  ·have : (upd (upd B.g 16 (ofG L)) 2 true) 2 = true := upd_at
   exact absurd (this.symm.trans hg) (by decide)
  ·exact Int.le_refl _
  ·exact Int.le_refl _
  ·show (upd (upd B.g 16 (ofG L)) 2 true) 2 = true
   exact upd_at
  ·show B.I.length + B.K.length ≤ _; omega
  ·show _ ≤ B.I.length + B.K.length + 1; omega
  ·intro e; exact absurd (show B.I.length + B.K.length = B.I.length + B.K.length + 1 from e) (by omega)
  ·intro e; exact absurd (show B.I.length + B.K.length + 1 = B.I.length + B.K.length from e) (by omega)
 ·have hact : ∀ k R, (B.f 20 = 1 → RightP R ∧ StepB k B R) → RightP (activeB B R) ∧ StepB k B (activeB B R) := by
   intro k R hR
   unfold activeB
   split
   ·rename_i ha; exact hR ha
   ·exact hsame k
  intro t ht hl
  unfold deedTs at ht
  simp only [List.mem_cons, List.not_mem_nil, or_false] at ht
  rcases ht with rfl | rfl | rfl | rfl | rfl | rfl | rfl | rfl | rfl | rfl | rfl | rfl | rfl | rfl | rfl
  ·show RightP (bootB B) ∧ StepB 1 B (bootB B)
   unfold bootB
   split
   ·rename_i hlt
    have hw : wrap64 (B.f 0 + 1) = B.f 0 + 1 := wrap_small h.e0 (by omega)
    have q0 : (upd B.f 0 (wrap64 (B.f 0 + 1))) 0 = B.f 0 + 1 := by rw [upd_at, hw]
    have hc : ∀ i, i ≠ 0 → (upd B.f 0 (wrap64 (B.f 0 + 1))) i = B.f i := fun i hi => upd_ne hi
    have he0 := h.e0
    refine ⟨⟨?_, ?_, ?_, ?_, h.ph, ?_, h.ids, ?_, fun hg => ?_, fun hg => ?_⟩, ?_, ?_, fun hg => hg, ?_, ?_, ?_, ?_⟩
    all_goals dsimp only
    ·rw [q0]; omega
    ·rw [q0]; omega
    ·rw [hc 1 (by omega)]; exact h.s0
    ·rw [hc 1 (by omega)]; exact h.s1
    ·rw [hc 1 (by omega)]; exact h.tok
    ·rw [hc 20 (by omega), hc 21 (by omega), hc 22 (by omega)]; exact h.rf
    ·exact (checkB_same (fun i hi => hc (i + 3) (by omega))).trans (h.conf hg)
    ·rw [hc 20 (by omega)]; exact h.none hg
    ·rw [hc 1 (by omega)]; exact Int.le_refl _
    ·rw [q0]; omega
    ·omega
    ·omega
    ·omega
    ·omega
   ·exact hsame 1
  ·show RightP (intentB B (L.getD 0 0) (L.getD 1 0) (L.getD 2 0)) ∧ StepB 3 B (intentB B (L.getD 0 0) (L.getD 1 0) (L.getD 2 0))
   unfold intentB
   split
   ·rename_i hc0
    obtain ⟨hg2, _, _, _, hlt⟩ := hc0
    have hw : wrap64 (B.f 1 + 1) = B.f 1 + 1 := wrap_small h.s0 (by omega)
    have q0 : (upd B.f 1 (wrap64 (B.f 1 + 1))) 1 = B.f 1 + 1 := by rw [upd_at, hw]
    have hc : ∀ i, i ≠ 1 → (upd B.f 1 (wrap64 (B.f 1 + 1))) i = B.f i := fun i hi => upd_ne hi
    have hs0 := h.s0
    refine ⟨⟨?_, ?_, ?_, ?_, h.ph, ?_, h.ids, ?_, fun hg => ?_, fun hg => ?_⟩, ?_, ?_, fun hg => hg, ?_, ?_, fun _ => .inl rfl, ?_⟩
    all_goals dsimp only
    ·rw [hc 0 (by omega)]; exact h.e0
    ·rw [hc 0 (by omega)]; exact h.e1
    ·rw [q0]; omega
    ·rw [q0]; omega
    ·rw [q0, hw, List.map_append]
     exact h.tok.snoc (by omega) (by omega)
    ·rw [hc 20 (by omega), hc 21 (by omega), hc 22 (by omega)]; exact h.rf
    ·exact (checkB_same (fun i hi => hc (i + 3) (by omega))).trans (h.conf hg)
    ·exact absurd (hg2.symm.trans hg) (by decide)
    ·rw [q0]; omega
    ·rw [hc 0 (by omega)]; exact Int.le_refl _
    ·simp; omega
    ·simp; omega
    ·intro e; simp at e; omega
   ·exact hsame 3
  ·show RightP (madeB B L) ∧ StepB 4 B (madeB B L)
   have hl : L.length = 3 := hl
   unfold madeB
   split
   ·exact hsame 4
   ·rename_i hc0
    obtain ⟨i, x, hi, hx, _⟩ := idx_some (by omega : 0 ≤ idxL B.I (fun x => x.token == L.getD 0 0))
    rw [hi]
    simp only [Int.toNat_natCast, hx]
    have := good_at hb (i := 1) (by omega)
    exact madeX_right h hx ⟨by omega, by omega⟩ (idx_none (by omega))
  ·show RightP (takeB B L) ∧ StepB 8 B (takeB B L)
   have hl : L.length = 5 := hl
   unfold takeB
   split
   ·rename_i hc0
    have := good_at hb (i := 0) (by omega)
    exact take_right h ⟨hc0.1, by dsimp only; omega⟩ (idx_none hc0.2) ⟨by dsimp only; omega, by dsimp only; omega⟩
   ·exact hsame 8
  ·have hl : L.length = 3 := hl
   show RightP (keptB B (fun i x => phaseB B i x (L.getD 1 0) (L.getD 2 0)) (L.getD 0 0)) ∧ StepB 6 B (keptB B (fun i x => phaseB B i x (L.getD 1 0) (L.getD 2 0)) (L.getD 0 0))
   refine keptB_cases (P := fun R => RightP R ∧ StepB 6 B R) (hsame 6) (fun i x hx _ => ?_)
   unfold phaseB
   split
   ·rename_i hlg
    have := good_at hb (i := 1) (by omega)
    exact h.setK hx rfl (legal_range hlg this.1)
   ·exact hsame 6
  ·show RightP (keptB B (fun i _ => goneAt B i) (L.getD 0 0)) ∧ StepB 7 B (keptB B (fun i _ => goneAt B i) (L.getD 0 0))
   refine keptB_cases (P := fun R => RightP R ∧ StepB 7 B R) (hsame 7) (fun i x hx _ => ?_)
   have hlt := lt_get hx
   have hle : (goneAt B i).K.length = B.K.length - 1 := by
    show (B.K.eraseIdx i).length = _
    rw [List.length_eraseIdx, if_pos hlt]
   refine ⟨h.kept (K' := B.K.eraseIdx i) (fun z hz => h.ph z (List.mem_of_mem_eraseIdx hz)) (h.ids.sub ((List.eraseIdx_sublist _ _).map _)), Int.le_refl _, Int.le_refl _, fun hg => hg, ?_, ?_, ?_, fun _ => rfl⟩
   all_goals
    rw [hle]
    simp only [goneAt]
    omega
  ·show RightP (keptB B (fun i x => guardB B i x (L.getD 1 0)) (L.getD 0 0)) ∧ StepB 9 B (keptB B (fun i x => guardB B i x (L.getD 1 0)) (L.getD 0 0))
   refine keptB_cases (P := fun R => RightP R ∧ StepB 9 B R) (hsame 9) (fun i x hx _ => ?_)
   unfold guardB
   split
   ·exact h.setK hx rfl (h.ph x (mem_get hx))
   ·exact hsame 9
  ·show RightP (keptB B (fun i x => completeB B i x) (L.getD 0 0)) ∧ StepB 10 B (keptB B (fun i x => completeB B i x) (L.getD 0 0))
   refine keptB_cases (P := fun R => RightP R ∧ StepB 10 B R) (hsame 10) (fun i x hx _ => ?_)
   exact h.setK hx rfl (h.ph x (mem_get hx))
  ·show RightP (startB B (L.getD 0 0) (L.getD 1 0)) ∧ StepB 11 B (startB B (L.getD 0 0) (L.getD 1 0))
   have hl : L.length = 2 := hl
   unfold startB
   split
   ·rename_i hc0
    have h0 := good_at hb (i := 0) (by omega)
    have hv := checkB_version (h.conf hc0.1)
    refine h.ref rfl rfl rfl (by simp [upd]) (fun i hi => ?_) (.inl ?_) (fun _ => ?_) (fun hg => absurd (hc0.1.symm.trans hg) (by decide))
    ·simp only [upd]
     rw [if_neg (by omega), if_neg (by omega), if_neg (by omega), if_neg (by omega), if_neg (by omega), if_neg (by omega)]
    ·simp [upd]
    ·simp only [upd]
     simp
     exact ⟨hv.1, hv.2, hc0.2.2, h0.2⟩
   ·exact hsame 11
  ·refine hact 5 _ fun ha => ?_
   have hg2 := active_set h ha
   have hrf := h.rf ha
   unfold failB
   split
   ·refine h.ref rfl rfl rfl rfl (fun i hi => ?_) (.inl ?_) (fun _ => ?_) (fun hg => absurd (hg2.symm.trans hg) (by decide))
    ·simp only [upd]
     rw [if_neg (by omega), if_neg (by omega), if_neg (by omega)]
    ·simp [upd]
    ·simp [upd]; omega
   ·refine h.ref rfl rfl rfl rfl (fun i hi => by simp only [upd]; (repeat rw [if_neg (by omega)])) (.inl (by simp [upd])) (fun _ => ?_) (fun hg => absurd (hg2.symm.trans hg) (by decide))
    simp [upd]; omega
  ·refine hact 12 _ fun ha => ?_
   have hg2 := active_set h ha
   refine h.ref rfl rfl rfl (by simp [cancelB, upd]) (fun i hi => by simp only [cancelB, upd]; (repeat rw [if_neg (by omega)])) (.inl (by simp [cancelB, upd])) (fun e => ?_) (fun hg => absurd (hg2.symm.trans hg) (by decide))
   simp [cancelB, upd] at e
  ·refine hact 13 _ fun ha => ?_
   have hg2 := active_set h ha
   have hrf := h.rf ha
   refine h.ref rfl rfl rfl rfl (fun i hi => by simp only [rollB, upd]; (repeat rw [if_neg (by omega)])) (.inl (by simp [rollB, upd])) (fun _ => ?_) (fun hg => absurd (hg2.symm.trans hg) (by decide))
   simp [rollB, upd]; omega
  ·refine hact 14 _ fun ha => ?_
   have hg2 := active_set h ha
   have hrf := h.rf ha
   unfold pauseB
   split
   ·exact hsame 14
   ·refine h.ref rfl rfl rfl (by simp [upd]) (fun i hi => by simp only [upd]; (repeat rw [if_neg (by omega)])) (.inl (by simp [upd])) (fun _ => ?_) (fun hg => absurd (hg2.symm.trans hg) (by decide))
    simp [upd]; omega
  ·refine hact 15 _ fun ha => ?_
   have hg2 := active_set h ha
   have hrf := h.rf ha
   unfold goB
   split
   ·refine h.ref rfl rfl rfl (by simp [upd]) (fun i hi => by simp only [upd]; (repeat rw [if_neg (by omega)])) (.inl (by simp [upd])) (fun _ => ?_) (fun hg => absurd (hg2.symm.trans hg) (by decide))
    simp [upd]; omega
   ·exact hsame 15
  ·refine hact 16 _ fun ha => ?_
   have hg2 := active_set h ha
   have hrf := h.rf ha
   refine h.ref rfl rfl rfl (by simp [doneB, upd]) (fun i hi => ?_) (.inr ?_) (fun e => ?_) (fun hg => absurd (hg2.symm.trans hg) (by decide))
   ·simp only [doneB, upd]
    rw [if_neg (by omega), if_neg (by omega)]
   ·simp [doneB, upd]; omega
   ·simp [doneB, upd] at e
end
theorem applyB_M (B : BrainV) (k : Int) (L : List Int) {n : Nat} (h : B.M.length ≤ n) (hn : 4 ≤ n) : (applyB B k L).M.length ≤ n := by
 refine apply_ind (P := fun _ R => R.M.length ≤ n) B k L h (fun _ ho => ?_) (fun _ t ht hl => ?_)
 ·unfold ofB at ho
  simp only [Bool.and_eq_true, decide_eq_true_eq] at ho
  have := checkB_marks ho.2.2
  show (L.drop 14).length ≤ n
  omega
 ·have hm : t.2.2.M = B.M := by
   have hk : ∀ (D : Nat → KeptV → BrainV) (x0 : Int), (∀ i x, (D i x).M = B.M) → (keptB B D x0).M = B.M := fun D x0 hD => keptB_cases (P := fun R => R.M = B.M) rfl (fun i x _ _ => hD i x)
   have ha : ∀ R : BrainV, R.M = B.M → (activeB B R).M = B.M := fun R hR => by unfold activeB; split <;> first | exact hR | rfl
   unfold deedTs at ht
   simp only [List.mem_cons, List.not_mem_nil, or_false] at ht
   rcases ht with rfl | rfl | rfl | rfl | rfl | rfl | rfl | rfl | rfl | rfl | rfl | rfl | rfl | rfl | rfl
   ·show (bootB B).M = _; unfold bootB; split <;> rfl
   ·show (intentB B _ _ _).M = _; unfold intentB; split <;> rfl
   ·show (madeB B L).M = _
    unfold madeB
    split
    ·rfl
    ·split
     ·rfl
     ·unfold madeX; split <;> rfl
   ·show (takeB B L).M = _; unfold takeB; split <;> rfl
   ·exact hk _ _ (fun i x => by unfold phaseB; split <;> rfl)
   ·exact hk _ _ (fun i x => rfl)
   ·exact hk _ _ (fun i x => by unfold guardB; split <;> rfl)
   ·exact hk _ _ (fun i x => rfl)
   ·show (startB B _ _).M = _; unfold startB; split <;> rfl
   ·exact ha _ (by unfold failB; split <;> rfl)
   ·exact ha _ rfl
   ·exact ha _ rfl
   ·exact ha _ (by unfold pauseB; split <;> rfl)
   ·exact ha _ (by unfold goB; split <;> rfl)
   ·exact ha _ rfl
  rw [hm]
  exact h
end Go.Proofs.YtgcajfglidflnaaGreatDoor
