import Derived.Test.YthhgpiolcnojfaaGreatDoorHpl
import Derived.Test.YthhgpiolcnojfaaGreatDoorCld
import Derived.Test.YthhgpiolcnojfaaGreatDoorDop
import Derived.Test.YthhgpiolcnojfaaGreatDoorRr
import Derived.Test.YthhgpiolcnojfaaGreatDoorRb7
/- HearDone, in plain Lean: what was done is heard, and says how the box is. -/
namespace Go.Proofs.YthhgpiolcnojfaaGreatDoor
open Go.RowKit Go.Shelf

/-- A brain of one Kept. -/
def B0 (k : KeptV) : BrainV := ⟨fun _ => 0, fun _ => false, [], [], [k]⟩
theorem idx_one {k : KeptV} (p : KeptV → Bool) (h : p k = true) : idxL [k] p = 0 := by
 have := idxL_at (L := [k]) (k := 0) (x := k) (p := p) rfl h (fun y hy => by simp at hy)
 simpa using this
theorem apply_phase {k : KeptV} {t now : Int} (hb : ([k.id, t, now] : List Int).any badN = false) (hl : legalB k.phase t = true) :
  applyB (B0 k) 6 [k.id, t, now] = { B0 k with K := [{ k with phase := t, since := now, complete := false }] } := by
 unfold applyB
 rw [hb]
 simp only [Bool.false_eq_true, if_false]
 rw [if_neg (by decide)]
 have h : (deedTs (B0 k) [k.id, t, now]).lookup 6 = some (3, keptB (B0 k) (fun i x => phaseB (B0 k) i x (List.getD [k.id, t, now] 1 0) (List.getD [k.id, t, now] 2 0)) (List.getD [k.id, t, now] 0 0)) := rfl
 rw [h]
 have hi : idxL (B0 k).K (fun x => x.id == (List.getD [k.id, t, now] 0 0)) = 0 := idx_one _ (by simp)
 dsimp only
 rw [if_pos (show [k.id, t, now].length = 3 from rfl)]
 unfold keptB
 rw [hi]
 simp only [Int.toNat_zero]
 rw [if_neg (by decide)]
 show phaseB (B0 k) 0 k t now = _
 unfold phaseB
 rw [if_pos hl]
 rfl
theorem apply_gone {k : KeptV} (hb : ([k.id] : List Int).any badN = false) : applyB (B0 k) 7 [k.id] = { B0 k with K := [] } := by
 unfold applyB
 rw [hb]
 simp only [Bool.false_eq_true, if_false]
 rw [if_neg (by decide)]
 have h : (deedTs (B0 k) [k.id]).lookup 7 = some (1, keptB (B0 k) (fun i _ => goneAt (B0 k) i) (List.getD [k.id] 0 0)) := rfl
 rw [h]
 have hi : idxL (B0 k).K (fun x => x.id == (List.getD [k.id] 0 0)) = 0 := idx_one _ (by simp)
 dsimp only
 rw [if_pos (show [k.id].length = 1 from rfl)]
 unfold keptB
 rw [hi]
 simp only [Int.toNat_zero]
 rw [if_neg (by decide)]
 rfl
theorem same_K {A B : BrainV} (h : A.K ≠ B.K) : sameB A B = false := sameB_no rfl (fun hp => h hp.2.2.2.2.2.2)
/-- What comes of a record, to a brain of one Kept. -/
inductive Out (k : KeptV) (dn : Int) : List (Int × List Int) → List KeptV → Prop
 | gone (h : dn = 2 ∨ (dn = 1 ∧ k.phase = 8)) : Out k dn [(7, [k.id])] []
 | moved (t now : Int) (h : (dn = 1 ∧ k.phase ≠ 8 ∧ t ≠ k.phase) ∨ (dn = 3 ∧ k.phase = 5 ∧ t = 4)) : Out k dn [(6, [k.id, t, now])] [{ k with phase := t, since := now, complete := false }]
 | none (h : dn = 5 ∨ (dn = 3 ∧ k.phase ≠ 5)) : Out k dn [] [k]
def foldR (B : BrainV) (l : List (Int × List Int)) : BrainV := l.foldl (fun B r => applyB B r.1 r.2) B
theorem fold_map (R : List RecE) : ∀ (B : BrainV), applyAll B R = foldR B (R.map fun r => (r.k, r.L)) := by
 induction R with
 | nil => intro B; rfl
 | cons r R ih => intro B; exact ih (applyB B r.k r.L)
theorem good_num {n : Int} (h : numB n = true) : badN n = false := by
 unfold numB at h
 unfold badN
 simp only [decide_eq_true_eq] at h
 simp only [Bool.or_eq_false_iff, decide_eq_false_iff_not]
 omega
theorem counts_is {k : KeptV} {x : CallV} {d now : Int} {r : Int × List Int} (hs : saysL x.kind d x.key k.id now = some r) (hd : (⟨x.kind, x.key⟩ : DutyV) ∈ dutiesL (B0 k).I (B0 k).K) (hK : (applyB (B0 k) r.1 r.2).K ≠ [k]) : countsL (B0 k) x d k.id now = [r] := by
 unfold countsL
 rw [hs]
 exact if_pos ⟨hd, same_K hK⟩
theorem duty_of {k : KeptV} (h : askedB k.phase = true) : (⟨askedK k.phase, k.id⟩ : DutyV) ∈ dutiesL (B0 k).I (B0 k).K := by
 show _ ∈ ([] : List IntentV).map intentD ++ [k].flatMap keptD
 simp [keptD, h]
theorem moved_ne {k : KeptV} {t now : Int} (h : t ≠ k.phase) : ([{ k with phase := t, since := now, complete := false }] : List KeptV) ≠ [k] := by
 intro e
 have := congrArg (fun l => l.map KeptV.phase) e
 simp at this
 exact h this
/-- What comes of what was asked of one. -/
theorem heard_out {k : KeptV} (hph : askedB k.phase = true) (hi : numB k.id = true) {now : Int} (hn : numB now = true) {dn : Int} (hd : dn = 1 ∨ dn = 2 ∨ dn = 3 ∨ dn = 5) :
  hearC ⟨524288, 2, [⟨549755813889, askedK k.phase, k.id, now⟩]⟩ 549755813889 (askedK k.phase) = [] ∧
   Out k dn (hearL (B0 k) ⟨524288, 2, [⟨549755813889, askedK k.phase, k.id, now⟩]⟩ 549755813889 (askedK k.phase) dn k.id now) (foldR (B0 k) (hearL (B0 k) ⟨524288, 2, [⟨549755813889, askedK k.phase, k.id, now⟩]⟩ 549755813889 (askedK k.phase) dn k.id now)).K := by
 have hkd := asked_kinds hph
 have hH : heardL [⟨549755813889, askedK k.phase, k.id, now⟩] 549755813889 (askedK k.phase) = (⟨549755813889, askedK k.phase, k.id, now⟩, true) := by
  unfold heardL findC
  simp
 have h7 : askedK k.phase ≠ 7 := by omega
 have hR : crightB ⟨524288, 2, [⟨549755813889, askedK k.phase, k.id, now⟩]⟩ = true := by
  have hkb : kindB (askedK k.phase) = true := by rcases hkd with h | h | h | h <;> rw [h] <;> rfl
  unfold crightB
  simp [goR, hkb, hi, hn]
 have hL : hearL (B0 k) ⟨524288, 2, [⟨549755813889, askedK k.phase, k.id, now⟩]⟩ 549755813889 (askedK k.phase) dn k.id now = countsL (B0 k) ⟨549755813889, askedK k.phase, k.id, now⟩ dn k.id now := by
  unfold hearL
  dsimp only
  rw [hH]
  exact if_pos ⟨rfl, h7⟩
 refine ⟨?_, ?_⟩
 ·unfold hearC
  dsimp only
  rw [hH]
  dsimp only
  rw [if_pos ⟨rfl, h7⟩]
  unfold keptL
  rw [if_pos hR]
  simp
 ·rw [hL]
  have hb1 : ([k.id] : List Int).any badN = false := by simp [good_num hi]
  have hb3 : ∀ t : Int, 0 ≤ t → t ≤ 10 → ([k.id, t, now] : List Int).any badN = false := by
   intro t h0 h1
   have : badN t = false := by
    unfold badN
    simp only [Bool.or_eq_false_iff, decide_eq_false_iff_not]
    omega
   simp [good_num hi, good_num hn, this]
  have hg : ∀ (hs : saysL (askedK k.phase) dn k.id k.id now = some (7, [k.id])) (h : dn = 2 ∨ (dn = 1 ∧ k.phase = 8)), Out k dn (countsL (B0 k) ⟨549755813889, askedK k.phase, k.id, now⟩ dn k.id now) (foldR (B0 k) (countsL (B0 k) ⟨549755813889, askedK k.phase, k.id, now⟩ dn k.id now)).K := by
   intro hs h
   rw [counts_is (k := k) (x := ⟨549755813889, askedK k.phase, k.id, now⟩) hs (duty_of hph) (by rw [apply_gone hb1]; simp)]
   have := Out.gone (k := k) h
   have e : (foldR (B0 k) [(7, [k.id])]).K = [] := by
    show (applyB (B0 k) 7 [k.id]).K = []
    rw [apply_gone hb1]
   rw [e]
   exact this
  have hm : ∀ (t : Int) (h0 : 0 ≤ t) (h1 : t ≤ 10) (hl : legalB k.phase t = true) (hne : t ≠ k.phase) (hs : saysL (askedK k.phase) dn k.id k.id now = some (6, [k.id, t, now])) (h : (dn = 1 ∧ k.phase ≠ 8 ∧ t ≠ k.phase) ∨ (dn = 3 ∧ k.phase = 5 ∧ t = 4)), Out k dn (countsL (B0 k) ⟨549755813889, askedK k.phase, k.id, now⟩ dn k.id now) (foldR (B0 k) (countsL (B0 k) ⟨549755813889, askedK k.phase, k.id, now⟩ dn k.id now)).K := by
   intro t h0 h1 hl hne hs h
   rw [counts_is (k := k) (x := ⟨549755813889, askedK k.phase, k.id, now⟩) hs (duty_of hph) (by rw [apply_phase (hb3 t h0 h1) hl]; exact moved_ne hne)]
   have := Out.moved (k := k) t now h
   have e : (foldR (B0 k) [(6, [k.id, t, now])]).K = [{ k with phase := t, since := now, complete := false }] := by
    show (applyB (B0 k) 6 [k.id, t, now]).K = _
    rw [apply_phase (hb3 t h0 h1) hl]
   rw [e]
   exact this
  have hn0 : ∀ (hs : saysL (askedK k.phase) dn k.id k.id now = none) (h : dn = 5 ∨ (dn = 3 ∧ k.phase ≠ 5)), Out k dn (countsL (B0 k) ⟨549755813889, askedK k.phase, k.id, now⟩ dn k.id now) (foldR (B0 k) (countsL (B0 k) ⟨549755813889, askedK k.phase, k.id, now⟩ dn k.id now)).K := by
   intro hs h
   have e : countsL (B0 k) ⟨549755813889, askedK k.phase, k.id, now⟩ dn k.id now = [] := by
    unfold countsL
    dsimp only
    rw [hs]
   rw [e]
   exact Out.none h
  have hp := of_decide_eq_true hph
  rcases hp with h | h | h | h
  ·rw [h] at hg hm hn0 ⊢
   have hk : askedK 3 = 4 := rfl
   rw [hk] at hg hm hn0 ⊢
   rcases hd with rfl | rfl | rfl | rfl
   ·exact hm 4 (by omega) (by omega) (by decide) (by decide) rfl (.inl ⟨rfl, by decide, by decide⟩)
   ·exact hg rfl (.inl rfl)
   ·exact hn0 rfl (.inr ⟨rfl, by decide⟩)
   ·exact hn0 rfl (.inl rfl)
  ·rw [h] at hg hm hn0 ⊢
   have hk : askedK 5 = 5 := rfl
   rw [hk] at hg hm hn0 ⊢
   rcases hd with rfl | rfl | rfl | rfl
   ·exact hm 6 (by omega) (by omega) (by decide) (by decide) rfl (.inl ⟨rfl, by decide, by decide⟩)
   ·exact hg rfl (.inl rfl)
   ·exact hm 4 (by omega) (by omega) (by decide) (by decide) rfl (.inr ⟨rfl, rfl, rfl⟩)
   ·exact hn0 rfl (.inl rfl)
  ·rw [h] at hg hm hn0 ⊢
   have hk : askedK 8 = 6 := rfl
   rw [hk] at hg hm hn0 ⊢
   rcases hd with rfl | rfl | rfl | rfl
   ·exact hg rfl (.inr ⟨rfl, rfl⟩)
   ·exact hg rfl (.inl rfl)
   ·exact hn0 rfl (.inr ⟨rfl, by decide⟩)
   ·exact hn0 rfl (.inl rfl)
  ·rw [h] at hg hm hn0 ⊢
   have hk : askedK 10 = 2 := rfl
   rw [hk] at hg hm hn0 ⊢
   rcases hd with rfl | rfl | rfl | rfl
   ·exact hm 1 (by omega) (by omega) (by decide) (by decide) rfl (.inl ⟨rfl, by decide, by decide⟩)
   ·exact hg rfl (.inl rfl)
   ·exact hn0 rfl (.inr ⟨rfl, by decide⟩)
   ·exact hn0 rfl (.inl rfl)
theorem right_one {k : KeptV} (h : rightB (B0 k) = true) : numB k.id = true := by
 obtain ⟨_, _, _, _, _, _, h7⟩ := right_fine h
 have h8 := (of_decide_eq_true h7).1 k.id (by simp [B0])
 unfold numB
 simp only [decide_eq_true_eq]
 omega
end Go.Proofs.YthhgpiolcnojfaaGreatDoor

/- herdref13.All of records that an answer says (out of Rb7; this text stands behind the SLIM Rb7: rapply_is with its kinds). -/
namespace Go.Proofs.YthhgpiolcnojfaaGreatDoor
open Go.RowKit Go.Shelf
attribute [-go_sem] loadVar storeVar Instr.buildSlice
attribute [local go_sem] load_other store_other

theorem all_end {w U : World} {R : BrainV} {mv iv kv : Value} (h : BO w w.heap.size R mv iv kv U) (hz : U.heap[w.heap.size + 1]? = some (.cells #[.int .i64 0, .int .i64 0, .bool false, .int .i64 0, .int .i64 0, .int .i64 0, .int .i64 0, .int .i64 0, .int .i64 0, .int .i64 0, .int .i64 0, .int .i64 0, .int .i64 0, .int .i64 0, .int .i64 0, .int .i64 0, .bool false, .slice none 0 0, .slice none 0 0, .slice none 0 0, .int .u8 0, .int .i64 0, .int .i64 0, .int .i64 0, .bool false, .int .i64 0, .int .i64 0] 30)) :
  (loadVar 30 ⟨w.heap.size, 0, none⟩).run Tryz.prog U = .ok (.agg (brT R.f R.g mv iv kv)) U ∧ ∃ X m i k, (storeVar 30 ⟨w.heap.size + 1, 0, none⟩ (.agg (brT R.f R.g mv iv kv))).run Tryz.prog U = .ok () X ∧ BB X (w.heap.size + 1) (brT R.f R.g m i k) ∧ ApEnd w R (.returned (.agg (brT R.f R.g m i k))) X := by
 obtain ⟨X, m', i', k', hst, bb, hend, hbx, _⟩ := h.fin hz rfl (Nat.le_add_right _ _)
 exact ⟨h.load, X, m', i', k', hst, bb, _, rfl, hend, hbx⟩
set_option maxRecDepth 100000 in
set_option maxHeartbeats 8000000 in
theorem rall_is {B : BrainV} {v s : Value} (R : List RecE) (n : Nat) {w : World} (h : BrIs w B v) (hr : RecsR w R s) (hF : Fine B n) (hn : n + R.length ≤ 999) (hM : B.M.length ≤ 100000) (hL : ∀ x ∈ R, x.L.length ≤ 100000) (hR1 : R.length ≤ 1) (hk4 : ∀ x ∈ R, (x.k = 6 ∧ x.L.length = 3) ∨ (x.k = 7 ∧ x.L.length = 1)) :
  Calls Tryz.prog 31 #[v, s] w fun e w' => ∃ u, e = .returned u ∧ BrEnd w (applyAll B R) u w' ∧ Below w.heap.size w w' := by
 obtain ⟨sa, sc, rfl, p1, p2, p3, hop⟩ := hr.1.open
 obtain ⟨ma, mc, ia, ic, ka, kc, rfl, hm, hi, hk⟩ := h.open
 obtain ⟨bv, hbv⟩ : ∃ bv, bv = brT B.f B.g (.slice ma B.M.length mc) (.slice ia B.I.length ic) (.slice ka B.K.length kc) := ⟨_, rfl⟩
 rw [← hbv]
 obtain ⟨W1, hW1⟩ : ∃ W1, W1 = (w.alloc (.cells bv 30)).alloc (.cells #[.int .i64 0, .int .i64 0, .bool false, .int .i64 0, .int .i64 0, .int .i64 0, .int .i64 0, .int .i64 0, .int .i64 0, .int .i64 0, .int .i64 0, .int .i64 0, .int .i64 0, .int .i64 0, .int .i64 0, .int .i64 0, .bool false, .slice none 0 0, .slice none 0 0, .slice none 0 0, .int .u8 0, .int .i64 0, .int .i64 0, .int .i64 0, .bool false, .int .i64 0, .int .i64 0] 30) := ⟨_, rfl⟩
 have hb1 : Below w.heap.size w W1 := by rw [hW1]; exact ((Below.refl w.heap.size w).alloc (Nat.le_refl _) _).alloc (by simp) _
 have n1 : BB W1 w.heap.size bv := by rw [hW1]; exact blk_alloc (heap_new _ _) _
 have z1 : W1.heap[w.heap.size + 1]? = some (.cells #[.int .i64 0, .int .i64 0, .bool false, .int .i64 0, .int .i64 0, .int .i64 0, .int .i64 0, .int .i64 0, .int .i64 0, .int .i64 0, .int .i64 0, .int .i64 0, .int .i64 0, .int .i64 0, .int .i64 0, .int .i64 0, .bool false, .slice none 0 0, .slice none 0 0, .slice none 0 0, .int .u8 0, .int .i64 0, .int .i64 0, .int .i64 0, .bool false, .int .i64 0, .int .i64 0] 30) := by rw [hW1]; exact heap_new2 _ _ _
 have HV1 := hid (show VarIs W1 w.heap.size B (.agg bv) by rw [hbv] at n1 ⊢; exact ⟨_, _, _, rfl, n1, hm.below hb1, hi.below hb1, hk.below hb1⟩)
 have hsz : bv.size = 27 := by rw [hbv]; rfl
 have HSZ := hid hsz
 have HN1 := hid n1
 have HZ1 := hid z1
 have HB1 := hid hb1
 have HR := hid hr
 have HOP := hid hop
 have HFI := hid hF
 have HL := hid hL
 have HK4 := hid hk4
 clear h hm hi hk hop hb1 n1 z1 hbv hsz hr hF hL hk4
 go_enter Tryz.func31, Tryz.ntmps31
 go_upto_region 1 with (fail)
 rw [← hW1]
 clear hW1
 have hld := HV1.out.load
 go_wp2_with fail
 refine (rown13_any B _ W1 HV1.out.is (by omega) (by have := HFI.out.1; omega) (by have := HFI.out.2.1; omega)).mono ?_
 rintro e V ⟨u, rfl, hend, hb⟩
 obtain ⟨X, hst, hvar, hbvr, hbx, hXo, _⟩ := brEnd_store (W := w) hend (blk_below HN1.out hb (blk_lt HN1.out)) HSZ.out (HB1.out.trans (hb.mono HB1.out.size)) (Nat.le_refl _)
 have HZ := hid ((hXo (w.heap.size + 1) (by omega)).trans (blk_below HZ1.out hb (blk_lt HZ1.out)))
 have HVX := hid hvar
 have HBV := hid (show BrVar w X w.heap.size B by obtain ⟨_, _, _, g0, g1, g2, g3⟩ := hbvr; exact ⟨_, _, _, g0, g1, g2.mono HB1.out.size, g3.mono HB1.out.size⟩)
 have HBX := hid hbx
 clear hend hb hvar hbvr hXo hbx hld
 go_wp2
 clear hst
 go_loopw [5] (fun i wr => ∃ (k : Nat) (v : Value), k ≤ R.length ∧ i = .int .i64 k ∧ VarIs wr w.heap.size (applyAll B (R.take k)) v ∧ BrVar w wr w.heap.size (applyAll B (R.take k)) ∧ wr.heap[w.heap.size + 1]? = some (.cells #[.int .i64 0, .int .i64 0, .bool false, .int .i64 0, .int .i64 0, .int .i64 0, .int .i64 0, .int .i64 0, .int .i64 0, .int .i64 0, .int .i64 0, .int .i64 0, .int .i64 0, .int .i64 0, .int .i64 0, .int .i64 0, .bool false, .slice none 0 0, .slice none 0 0, .slice none 0 0, .int .u8 0, .int .i64 0, .int .i64 0, .int .i64 0, .bool false, .int .i64 0, .int .i64 0] 30) ∧ Below w.heap.size w wr) (fun i _ => R.length - (intOf i).toNat)
 case atStart => exact ⟨0, _, Nat.zero_le _, rfl, HVX.out, HBV.out, HZ.out, HBX.out⟩
 case round =>
  obtain ⟨n', v, hn', rfl, hvr, hbv, hz, hBr⟩ := hrel
  have HVR := hid hvr
  have HBVR := hid hbv
  have HZR := hid hz
  have HBr := hid hBr
  clear hvr hbv hz hBr
  by_cases hlt : n' < R.length
  ·obtain ⟨b1, o1, rfl, hb1, hr1⟩ := HOP.out (by omega)
   obtain ⟨r, hr⟩ := get_lt hlt
   obtain ⟨rs, hrs⟩ : ∃ x, r.s = x := ⟨_, rfl⟩
   have hrec := HR.out.2 r (mem_get hr)
   rw [hrs] at hrec
   obtain ⟨ra, rc, rfl, _⟩ := hrec.open
   obtain ⟨g0, g1⟩ := rowR (hr1.below HBr.out hb1) hr
   rw [hrs] at g1
   have hnL : (n' : Int) < (R.length : Int) := by omega
   have hb1w : b1 < wr.heap.size := Nat.lt_of_lt_of_le hb1 HBr.out.size
   have hL40 := HL.out r (mem_get hr)
   have hk4r := HK4.out r (mem_get hr)
   have HREC := hid (RowOf.below hrec HBr.out)
   have G0 := hid g0
   have G1 := hid g1
   have HSN := hid (show applyAll B (R.take (n' + 1)) = applyB (applyAll B (R.take n')) r.k r.L by rw [List.take_add_one, hr]; unfold applyAll; rw [List.foldl_append]; rfl)
   obtain ⟨rk, hrk⟩ : ∃ x, r.k = x := ⟨_, rfl⟩
   rw [hrk] at hk4r
   have H4R := hid hk4r
   clear hk4r
   rw [hrk] at g0 G0 HSN
   obtain ⟨C, hC⟩ : ∃ C, applyAll B (R.take n') = C := ⟨_, rfl⟩
   have HFC := hid (show Fine C 999 by rw [← hC]; exact HFI.out.all (R.take n') (by have := List.length_take_le n' R; omega))
   have HMC := hid (show C.M.length ≤ 100000 by
    rw [← hC]
    have h0 : n' = 0 := by omega
    rw [h0]
    exact hM)
   rw [hC] at HVR HSN HBVR
   clear hrec hr1 hr hC
   have hlw := HVR.out.lt
   go_wp2_with fail
   refine wp_region_cut 6 1 (fun _ => True) (by kernel_rfl) (by kernel_rfl) (by kernel_rfl) ?_
   simp only [List.take_succ_cons, List.take_zero]
   refine wpAnyH_grownD (w0 := wr.drew) (spL _) (relD [] (KeptT 30) [] KeptE) (aliveD []) (ancD []) (spD (n := 6) (m := 6) (l := [fun z _ => z = v, fun z _ => z = .slice (some ⟨b1, o1, none⟩) R.length sc, fun z _ => z = (.int .i64 (n' : Int)), fun z _ => z = (.pointer (some ⟨b1, o1 + n' * 2, none⟩)), fun z _ => z = .agg #[.int .u8 rk, .slice ra r.L.length rc], fun z w => BrEnd wr (applyB C rk (r.L)) z w]) (apps := []) (stab := []) (appsE := []) (stabE := []) ⟨stays_eq _, stays_eq _, stays_eq _, stays_eq _, stays_eq _, stays_brEnd _ _, trivial⟩ trivial trivial rfl (by decide) (by decide)) (by kernel_rfl) (by kernel_rfl) (by kernel_rfl) (by kernel_rfl) ?steps0 ?fin0 rfl
   case steps0 =>
    refine ⟨?_, ?_, ?_, ?_, ?_, ?_, trivial⟩
    ·intro a' w' hB hdep hoth K hK
     have hK := growB hB hK
     rw [if_pos (guard_none rfl)]
     have hbw : Below wr.heap.size wr w' := (below_drewN (Below.refl _ _) 1).trans hB
     have t2 := hoth 2 (notDst_at (by kernel_rfl))
     simp only [List.getElem?_toArray, List.getElem?_cons_succ, List.getElem?_cons_zero] at t2
     have hld := (HVR.out.below hbw).load
     clear hdep hoth
     go_simp
     exact hK _ _ (Below.refl _ _) rfl
    ·intro a' w' hB hdep hoth K hK
     have hK := growB hB hK
     rw [if_pos (guard_none rfl)]
     have hbw : Below wr.heap.size wr w' := (below_drewN (Below.refl _ _) 1).trans hB
     have t1 := hoth 1 (notDst_at (by kernel_rfl))
     simp only [List.getElem?_toArray, List.getElem?_cons_succ, List.getElem?_cons_zero] at t1
     clear hdep hoth
     go_simp
     exact hK _ _ (Below.refl _ _) rfl
    ·intro a' w' hB hdep hoth K hK
     have hK := growB hB hK
     rw [if_pos (guard_none rfl)]
     have hbw : Below wr.heap.size wr w' := (below_drewN (Below.refl _ _) 1).trans hB
     have t5 := hoth 5 (notDst_at (by kernel_rfl))
     simp only [List.getElem?_toArray, List.getElem?_cons_succ, List.getElem?_cons_zero] at t5
     clear hdep hoth
     go_simp
     exact hK _ _ (Below.refl _ _) rfl
    ·intro a' w' hB hdep hoth K hK
     have hK := growB hB hK
     rw [if_pos (guard_none rfl)]
     have hbw : Below wr.heap.size wr w' := (below_drewN (Below.refl _ _) 1).trans hB
     obtain ⟨vx0, gx0, ex0⟩ := hdep ⟨1, .data⟩ (by simp) rfl
     have gx0 := gx0 15 rfl (by simp)
     obtain rfl : vx0 = .slice (some ⟨b1, o1, none⟩) R.length sc := ex0
     obtain ⟨vx1, gx1, ex1⟩ := hdep ⟨2, .data⟩ (by simp) rfl
     have gx1 := gx1 16 rfl (by simp)
     obtain rfl : vx1 = (.int .i64 (n' : Int)) := ex1
     clear hdep hoth
     go_simp
     exact hK _ _ (Below.refl _ _) rfl
    ·intro a' w' hB hdep hoth K hK
     have hK := growB hB hK
     rw [if_pos (guard_none rfl)]
     have hbw : Below wr.heap.size wr w' := (below_drewN (Below.refl _ _) 1).trans hB
     obtain ⟨vx0, gx0, ex0⟩ := hdep ⟨3, .data⟩ (by simp) rfl
     have gx0 := gx0 17 rfl (by simp)
     obtain rfl : vx0 = (.pointer (some ⟨b1, o1 + n' * 2, none⟩)) := ex0
     have g0 := cell_below G0.out hbw
     have g1 := cell_below G1.out hbw
     have hb1w : b1 < w'.heap.size := Nat.lt_of_lt_of_le hb1w hbw.size
     clear hdep hoth
     go_simp
     exact hK _ _ (Below.refl _ _) rfl
    ·intro a' w' hB hdep hoth K hK
     have hK := growB hB hK
     rw [if_pos (guard_none rfl)]
     have hbw : Below wr.heap.size wr w' := (below_drewN (Below.refl _ _) 1).trans hB
     obtain ⟨v0, g0, e0⟩ := hdep ⟨0, .data⟩ (by simp) rfl
     have g0 := g0 14 rfl (by simp)
     obtain rfl : v0 = v := e0
     obtain ⟨v1, g1, e1⟩ := hdep ⟨4, .data⟩ (by simp) rfl
     have g1 := g1 18 rfl (by simp)
     obtain rfl : v1 = .agg #[.int .u8 rk, .slice ra r.L.length rc] := e1
     have HA := hid (rapply_is rk r.L 999 (HVR.out.below hbw).is ⟨_, rfl, HREC.out.below hbw⟩ HFC.out (by omega) (by have := HMC.out; omega) hL40 H4R.out)
     clear hdep hoth
     go_simp
     refine HA.out.mono ?_
     rintro e w'' ⟨v, rfl, he, hb⟩
     exact hK v _ hb (he.base hbw.size)
   case fin0 =>
    intro vs w' hB hs
    have hbw : Below wr.heap.size wr w' := (below_drewN (Below.refl _ _) 1).trans hB
    have e5 := hs 5 (by decide) (by decide)
    have e5 : BrEnd wr _ (vs 5) w' := e5
    clear hs
    refine cutQ_held (fun _ => True) (fun f => ?_)
    simp only [actOf, dstAt, if_true, List.getElem?_toArray, List.getElem?_cons_succ, List.getElem?_cons_zero, Option.bind_some, Act.put, List.setIfInBounds_toArray, List.set_cons_zero, List.set_cons_succ, List.length_cons, List.length_nil, Nat.reduceAdd]
    obtain ⟨u0, hu⟩ : ∃ u, vs 5 = u := ⟨_, rfl⟩
    rw [hu] at e5 ⊢
    obtain ⟨_, _, _, _, hz, _⟩ := HVR.out.below hbw
    unfold BB at hz
    obtain ⟨X0, hst, hvar, hbv, hbx, hXo, hXs⟩ := brEnd_store e5 hz rfl (HBr.out.trans (hbw.mono HBr.out.size)) (Nat.le_refl _)
    refine wpAnyH_ready (rs := [6]) (by kernel_rfl) (by simp) ?_
    refine AllReadyH.cons rfl (fun K hK => ?_) AllReadyH.nil
    go_simp
    refine hK.out _ _ trivial (fun _ => ?_)
    clear hK K
    refine wpAnyH_done (by kernel_rfl) ?_ _
    have HVX := hid hvar
    have HBXv := hid (show BrVar w X0 w.heap.size _ by obtain ⟨_, _, _, g0, g1, g2, g3⟩ := hbv; exact ⟨_, _, _, g0, g1, g2.mono HBr.out.size, g3.mono HBr.out.size⟩)
    have HBX0 := hid hbx
    have HZX := hid ((hXo (w.heap.size + 1) (by omega)).trans (blk_below HZR.out hbw (blk_lt HZR.out)))
    clear hB hbw e5 hu hvar hbv hbx hXo hXs hst hz g0 g1
    go_wp2
    go_roundw
    case rel => exact ⟨n' + 1, _, by omega, by go_num, by rw [HSN.out]; exact HVX.out, by rw [HSN.out]; exact HBXv.out, HZX.out, HBX0.out⟩
    case measure => simp [intOf]; omega
  ·obtain rfl : n' = R.length := by omega
   rw [List.take_length] at HVR HBVR
   obtain ⟨mv, iv, kv, hbo⟩ := HBVR.out.bo (w := w) (Nat.le_refl _) (Nat.le_refl _) HBr.out
   have HO := hid hbo
   clear hbo
   obtain ⟨hld, X0, m, i, k, hkst, hkbb, hkend⟩ := all_end HO.out HZR.out
   have HBB := hid hkbb
   have HEND := hid hkend
   clear hkbb hkend
   go_wp2
   refine bodyPost_ret (results_cell_row rfl _ _ (w.heap.size + 1) 30 _ _ _ rfl HBB.out brain_under rfl (brain_size (brT_bc _ _ _ _ _))) rfl ?_
   exact HEND.out
end Go.Proofs.YthhgpiolcnojfaaGreatDoor
