/- herdref13.Apply: a record is applied. Printed by gn_ra6.py. -/
import Derived.Test.YtgcajfglidflnaaDoorRa4
import Derived.Test.YtgcajfglidflnaaDoorRa5
import Derived.Test.YtgcajfglidflnaaDoorRow13
namespace Go.Proofs.YtgcajfglidflnaaDoor
open Go.RowKit Go.Shelf
attribute [-go_sem] loadVar storeVar Instr.buildSlice
theorem load_other4 (t : TypeId) (a : Addr) (_h : t ≠ 30) (_h2 : t ≠ 24) : loadVar t a = isAgg t >>= fun b => if b = true then sizeOf t >>= fun n => loadCells a n >>= fun c => pure (.agg c) else load a := by unfold loadVar; rfl
theorem store_other4 (t : TypeId) (a : Addr) (v : Value) (_h : t ≠ 30) (_h2 : t ≠ 24) (h0 : ∀ w, (sizeOf t).run Tryd.prog w = .ok v.cells.size w) (w : World) : (storeVar t a v).run Tryd.prog w = (storeCells a v.cells.toList).run Tryd.prog w := by
 unfold storeVar
 simp [h0]
attribute [-go_sem] loadVar storeVar Instr.buildSlice
attribute [local go_sem] load_other4 store_other4

theorem applyB_of (B : BrainV) (k : Int) (L : List Int) (n : Nat) (R : BrainV) (hb : L.any badN = false) (h2 : k ≠ 2) (hk : (deedTs B L).lookup k = some (n, R)) (hL : L.length = n) : applyB B k L = R := by
 unfold applyB
 rw [if_neg (by rw [hb]; decide), if_neg h2, hk]
 exact if_pos hL
theorem rmany_same (k m : Int) (hm : manyI k = m) (w : World) : Calls Tryd.prog 34 #[.int .u8 k] w fun e w' => e = .returned (.int .i64 m) ∧ w' = w :=
 (rmany_any k m hm w).mono fun _ _ ⟨h1, h2⟩ => ⟨h1, h2.symm⟩
theorem bs_in1 (x : IntentV) (w : World) : (Instr.buildSlice 25 1 #[(0, .agg #[.int .i64 x.token, .int .i64 x.version, .int .i64 x.zone, .bool x.warm])]).run Tryd.prog w = .ok (.slice (some ⟨w.heap.size, 0, none⟩) 1 1) (w.alloc (.cells #[.int .i64 x.token, .int .i64 x.version, .int .i64 x.zone, .bool x.warm] 53)) := by kernel_rfl
def ApEnd (w : World) (R : BrainV) (e : Ending) (w' : World) : Prop := ∃ u, e = .returned u ∧ BrEnd w R u w' ∧ Below w.heap.size w w'
theorem ap_end {w U : World} {R : BrainV} {mv iv kv : Value} (h : BO w w.heap.size R mv iv kv U) (hz : U.heap[w.heap.size + 2]? = some (.cells #[.int .i64 0, .int .i64 0, .bool false, .int .i64 0, .int .i64 0, .int .i64 0, .int .i64 0, .int .i64 0, .int .i64 0, .int .i64 0, .int .i64 0, .int .i64 0, .int .i64 0, .int .i64 0, .int .i64 0, .int .i64 0, .bool false, .slice none 0 0, .slice none 0 0, .slice none 0 0, .int .u8 0, .int .i64 0, .int .i64 0, .int .i64 0, .bool false, .int .i64 0, .int .i64 0] 30)) :
  (loadVar 30 ⟨w.heap.size, 0, none⟩).run Tryd.prog U = .ok (.agg (brT R.f R.g mv iv kv)) U ∧ ∃ X m i k, (storeVar 30 ⟨w.heap.size + 2, 0, none⟩ (.agg (brT R.f R.g mv iv kv))).run Tryd.prog U = .ok () X ∧ BB X (w.heap.size + 2) (brT R.f R.g m i k) ∧ ApEnd w R (.returned (.agg (brT R.f R.g m i k))) X := by
 obtain ⟨X, m', i', k', hst, bb, hend, hbx, _⟩ := h.fin hz rfl (Nat.le_add_right _ _)
 exact ⟨h.load, X, m', i', k', hst, bb, _, rfl, hend, hbx⟩
theorem BrVar.bo {W0 w X : World} {T : Nat} {B : BrainV} (h : BrVar W0 X T B) (hle : w.heap.size ≤ W0.heap.size) (hT : w.heap.size ≤ T) (hb : Below w.heap.size w X) : ∃ mv iv kv, BO w T B mv iv kv X := by
 obtain ⟨mv, iv, kv, g0, g1, g2, g3⟩ := h
 exact ⟨mv, iv, kv, g0, hT, g1, g2.mono hle, g3.mono hle, hb⟩
set_option maxRecDepth 100000 in
set_option maxHeartbeats 16000000 in
theorem rapply_any (B : BrainV) (v s : Value) (k : Int) (L : List Int) (w : World) (h : BrIs w B v) (hs : RowOf 1 encI w s L) (hlen : L.length ≤ 100000) (hM : B.M.length ≤ 17592186043904) (hlI : B.I.length ≤ 1000) (hlK : B.K.length ≤ 1000) (hph : ∀ x ∈ B.K, in8 x.phase) :
  Calls Tryd.prog 22 #[v, recV k s] w (ApEnd w (applyB B k L)) := by
 obtain ⟨ma, mc, ia, ic, ka, kc, rfl, hm, hi, hk⟩ := h.open
 obtain ⟨sa, sc, rfl, p1, p2, p3, hop⟩ := hs.open
 obtain ⟨bv, hbv⟩ : ∃ bv, bv = brT B.f B.g (.slice ma B.M.length mc) (.slice ia B.I.length ic) (.slice ka B.K.length kc) := ⟨_, rfl⟩
 rw [← hbv]
 obtain ⟨W1, hW1⟩ : ∃ W1, W1 = ((w.alloc (.cells bv 30)).alloc (.cells #[.int .u8 k, .slice sa L.length sc] 62)).alloc (.cells #[.int .i64 0, .int .i64 0, .bool false, .int .i64 0, .int .i64 0, .int .i64 0, .int .i64 0, .int .i64 0, .int .i64 0, .int .i64 0, .int .i64 0, .int .i64 0, .int .i64 0, .int .i64 0, .int .i64 0, .int .i64 0, .bool false, .slice none 0 0, .slice none 0 0, .slice none 0 0, .int .u8 0, .int .i64 0, .int .i64 0, .int .i64 0, .bool false, .int .i64 0, .int .i64 0] 30) := ⟨_, rfl⟩
 have hb1 : Below w.heap.size w W1 := by rw [hW1]; exact (((Below.refl w.heap.size w).alloc (Nat.le_refl _) _).alloc (by simp) _).alloc (by simp; omega) _
 have n1 : BB W1 w.heap.size bv := by rw [hW1]; exact blk_alloc (blk_alloc (heap_new _ _) _) _
 have r1 : W1.heap[w.heap.size + 1]? = some (.cells #[.int .u8 k, .slice sa L.length sc] 62) := by rw [hW1]; exact blk_alloc (heap_new2 _ _ _) _
 have z1 : W1.heap[w.heap.size + 2]? = some (.cells #[.int .i64 0, .int .i64 0, .bool false, .int .i64 0, .int .i64 0, .int .i64 0, .int .i64 0, .int .i64 0, .int .i64 0, .int .i64 0, .int .i64 0, .int .i64 0, .int .i64 0, .int .i64 0, .int .i64 0, .int .i64 0, .bool false, .slice none 0 0, .slice none 0 0, .slice none 0 0, .int .u8 0, .int .i64 0, .int .i64 0, .int .i64 0, .bool false, .int .i64 0, .int .i64 0] 30) := by rw [hW1]; have := heap_new ((w.alloc (.cells bv 30)).alloc (.cells #[.int .u8 k, .slice sa L.length sc] 62)) (.cells #[.int .i64 0, .int .i64 0, .bool false, .int .i64 0, .int .i64 0, .int .i64 0, .int .i64 0, .int .i64 0, .int .i64 0, .int .i64 0, .int .i64 0, .int .i64 0, .int .i64 0, .int .i64 0, .int .i64 0, .int .i64 0, .bool false, .slice none 0 0, .slice none 0 0, .slice none 0 0, .int .u8 0, .int .i64 0, .int .i64 0, .int .i64 0, .bool false, .int .i64 0, .int .i64 0] 30); simpa using this
 have HV1 := hid (show VarIs W1 w.heap.size B (.agg bv) by rw [hbv] at n1 ⊢; exact ⟨_, _, _, rfl, n1, hm.below hb1, hi.below hb1, hk.below hb1⟩)
 have HN1 := hid n1
 have HR1 := hid r1
 have HZ1 := hid z1
 have HB1 := hid hb1
 have HS := hid hs
 have HOP := hid hop
 have HPH := hid hph
 have HBV := hid hbv
 have hsz : bv.size = 27 := by rw [hbv]; rfl
 have HSZ := hid hsz
 clear h hm hi hk hs hop hb1 n1 r1 z1 hph hbv hsz
 obtain ⟨RR, hRR⟩ : ∃ RR, applyB B k L = RR := ⟨_, rfl⟩
 rw [hRR]
 have HRR := hid hRR
 obtain ⟨q, hq⟩ : ∃ q, L.any badN = q := ⟨_, rfl⟩
 have HQ := hid hq
 clear hRR hq
 unfold recV
 go_enter Tryd.func22, Tryd.ntmps22
 go_upto_region 1 with (fail)
 rw [← hW1]
 clear hW1
 have hld := HV1.out.load
 go_wp2_with fail
 refine (rown13_any B _ W1 HV1.out.is hM (by omega) (by omega)).mono ?_
 rintro e V ⟨u, rfl, hend, hb⟩
 obtain ⟨X, hst, hvar, hbvr, hbx, hXo, _⟩ := brEnd_store (W := w) hend (blk_below HN1.out hb (blk_lt HN1.out)) HSZ.out (HB1.out.trans (hb.mono HB1.out.size)) (Nat.le_refl _)
 obtain ⟨mv, iv, kv, hbo⟩ := hbvr.bo (w := w) HB1.out.size (Nat.le_refl _) hbx
 have HO := hid hbo
 have HR := hid ((hXo (w.heap.size + 1) (by omega)).trans (blk_below HR1.out hb (blk_lt HR1.out)))
 have HZ := hid ((hXo (w.heap.size + 2) (by omega)).trans (blk_below HZ1.out hb (blk_lt HZ1.out)))
 have HSX := hid (HS.out.below hbx)
 clear hend hb hvar hbvr hXo hbo hld
 go_upto_region 2 with (fail)
 clear hst hbx
 have x0 : X.cell? ⟨w.heap.size + 1, 0, none⟩ = some (.int .u8 k) := blk_cell HR.out 0
 have x1 : X.cell? ⟨w.heap.size + 1, 1, none⟩ = some (.slice sa L.length sc) := blk_cell HR.out 1
 have lx := blk_lt HR.out
 have HNU := hid (rnumbers_any _ L q HQ.out X HSX.out)
 cases q with
 | true =>
  obtain rfl : B = RR := by rw [← HRR.out]; unfold applyB; rw [if_pos HQ.out]
  go_wp2_with fail
  refine HNU.out.mono ?_
  rintro e w' ⟨rfl, rfl⟩
  simp only [Bool.not_true]
  go_upto_region 3 with (fail)
  obtain ⟨hld, XF, m', i', k', hst, bb, hend⟩ := ap_end (HO.out) (HZ.out)
  have HBB := hid bb
  have HEND := hid hend
  clear bb hend x0 x1 lx
  go_wp2
  refine bodyPost_ret (results_cell_row rfl _ _ (w.heap.size + 2) 30 _ _ _ rfl HBB.out brain_under rfl (brain_size (brT_bc _ _ _ _ _))) rfl ?_
  exact HEND.out
 | false =>
  have HBAD := hid (show ∀ y ∈ L, badN y = false from fun y hy => by have := List.any_eq_false.1 HQ.out y hy; simpa using this)
  go_wp2_with fail
  refine HNU.out.mono ?_
  rintro e w' ⟨rfl, rfl⟩
  simp only [Bool.not_false]
  clear HNU
  by_cases hk2 : k = 2
  ·subst hk2
   have HRX := hid (show RR = groupB B L by rw [← HRR.out]; unfold applyB; rw [if_neg (by rw [HQ.out]; decide), if_pos rfl])
   have HOF := hid (rof_any _ L X HSX.out hlen)
   have hz00 : ((0 : Int) == 0) = true := rfl
   have hz70 : ((70 : Int) == 0) = false := rfl
   go_wp2_with fail
   refine HOF.out.mono ?_
   rintro e w1 ⟨hb1, hend⟩
   have H1 := hid (HO.out.below hb1)
   have HZ2 := hid (blk_below HZ.out hb1 (blk_lt HZ.out))
   have HBX := hid hb1
   have lw := H1.out.lt
   have hz := hb1.size
   clear x0 x1 lx HOF
   rcases hend with ⟨hok, m, rfl, hom⟩ | ⟨hno, f, g, ma2, mn2, mc2, rfl⟩
   ·have HRY := hid (show RR = { f := groupF B L, g := upd (upd B.g 16 (ofG L)) 2 true, M := L.drop 14, I := B.I, K := B.K } by rw [HRX.out]; unfold groupB; rw [if_pos hok])
    have HOM := hid (hom.mono (show w.heap.size ≤ X.heap.size from HO.out.bel.size))
    obtain ⟨ma2, mn2, mc2, hm⟩ := Owns.shape hom
    subst hm
    obtain ⟨T, hT⟩ : ∃ T, T = w1.alloc (.cells #[.int .i64 0, .int .i64 0, .int .i64 0, .int .i64 0, .int .i64 0, .int .i64 0, .int .i64 0, .int .i64 0, .int .i64 0, .int .i64 0, .int .i64 0, .int .i64 0, .int .i64 0, .bool false, .slice none 0 0] 24) := ⟨_, rfl⟩
    have nT : T.heap[w1.heap.size]? = some (.cells #[.int .i64 0, .int .i64 0, .int .i64 0, .int .i64 0, .int .i64 0, .int .i64 0, .int .i64 0, .int .i64 0, .int .i64 0, .int .i64 0, .int .i64 0, .int .i64 0, .int .i64 0, .bool false, .slice none 0 0] 24) := by rw [hT]; exact heap_new _ _
    have hbT : Below w1.heap.size w1 T := by rw [hT]; exact (Below.refl _ _).alloc (Nat.le_refl _) _
    obtain ⟨V, hV⟩ : ∃ V, V = T.setRow w1.heap.size (confA (ofF L) (ofG L) (.slice ma2 mn2 mc2)) := ⟨_, rfl⟩
    have hst : (storeVar 24 ⟨w1.heap.size, 0, none⟩ (.agg (confA (ofF L) (ofG L) (.slice ma2 mn2 mc2)))).run Tryd.prog T = .ok () V := by
     rw [hV, run_storeVar_row T w1.heap.size 24 24 _ (confA (ofF L) (ofG L) (.slice ma2 mn2 mc2)) nT (conf_size _ _ _) rfl (by simp [confA, Value.oneCell'])]
    have nV : V.heap[w1.heap.size]? = some (.cells (confA (ofF L) (ofG L) (.slice ma2 mn2 mc2)) 24) := by rw [hV]; exact setRow_heap T w1.heap.size _ _ _ _ nT
    have hbV : Below w1.heap.size w1 V := by rw [hV]; exact below_setRow hbT (Nat.le_refl _) _
    have HV := hid (H1.out.below hbV)
    have HOV := hid (HOM.out.below hbV)
    have HBV := hid (HBX.out.trans (hbV.mono hz))
    have hbVz := hid hbV
    have NV := hid nV
    have hne : w.heap.size ≠ w1.heap.size := Nat.ne_of_lt lw
    rw [hT] at hst
    have c2 := HV.out.cell 2 (.bool (B.g 2)) rfl
    have c15 := HV.out.cell 15 (.int .i64 (B.f 15)) rfl
    have lV := HV.out.lt
    have nlV : w1.heap.size < V.heap.size := blk_lt nV
    have d12 := blk_cell nV 12
    have e12 := blk_free nV 12
    have hld := load_conf nV
    have hz0 : ((0 : Int) == 0) = true := rfl
    clear hom hT nT hbT hV hbV nV hb1
    cases hg2 : B.g 2 with
    | true =>
     rw [hg2] at c2
     obtain ⟨V2, hV2⟩ : ∃ V2, V2 = V.setCell ⟨w1.heap.size, 12, none⟩ (.int .i64 (B.f 15)) := ⟨_, rfl⟩
     have hb2 : Below w1.heap.size V V2 := by rw [hV2]; exact (Below.refl _ _).setCell (p := ⟨w1.heap.size, 12, none⟩) (Nat.le_refl _) _
     have n2 : V2.heap[w1.heap.size]? = some (.cells (confA (upd (ofF L) 12 (B.f 15)) (ofG L) (.slice ma2 mn2 mc2)) 24) := by
      rw [hV2, ← confA_set _ _ _ 12 (by decide)]
      exact blk_set NV.out 12 _
     have H2 := hid (show BO w w.heap.size B mv iv kv V2 by
      have hb3 := blk_other HV.out.box (p := ⟨w1.heap.size, 12, none⟩) hne (.int .i64 (B.f 15))
      rw [← hV2] at hb3
      have hkt : KeptT 3 V V2 := by rw [hV2]; exact KeptT.set (p := ⟨w1.heap.size, 12, none⟩) NV.out (by decide) _
      exact ⟨hb3, HV.out.hb, HV.out.rm.kept hkt, by rw [hV2]; exact owns_at HV.out.ri NV.out (by decide) 12 _, by rw [hV2]; exact owns_at HV.out.rk NV.out (by decide) 12 _, HV.out.bel.trans (hb2.mono (Nat.le_trans H1.out.bel.size (Nat.le_refl _)))⟩)
     have hld2 := load_conf n2
     have hst2 : (storeVar 24 ⟨w.heap.size, 3, none⟩ (.agg (confA (upd (ofF L) 12 (B.f 15)) (ofG L) (.slice ma2 mn2 mc2)))).run Tryd.prog V2 = .ok () (V2.setCells w.heap.size 3 (confA (upd (ofF L) 12 (B.f 15)) (ofG L) (.slice ma2 mn2 mc2)).toList) := run_storeVar_mid V2 w.heap.size 3 24 _ (there_brT H2.out.box _ _ _) (conf_size _ _ _) (by simp [confA, Value.oneCell'])
     have HO2 := hid (show OwnI V2 w.heap.size (.slice ma2 mn2 mc2) (L.drop 14) by rw [hV2]; exact owns_at HOV.out NV.out (by decide) 12 _)
     have HF := hid (H2.out.setConf (upd (ofF L) 12 (B.f 15)) (ofG L) HO2.out)
     have HB2 := hid (HBV.out.trans (hb2.mono hz))
     have h2 := H2.out.cell 2 (.bool true) (by rw [← hg2]; rfl)
     have l2 := H2.out.lt
     have nl2 : w1.heap.size < V2.heap.size := blk_lt n2
     obtain ⟨U, hU⟩ : ∃ U, U = V2.setCells w.heap.size 3 (confA (upd (ofF L) 12 (B.f 15)) (ofG L) (.slice ma2 mn2 mc2)).toList := ⟨_, rfl⟩
     rw [← hU] at hst2 HF
     have u2 : U.cell? ⟨w.heap.size, 2, none⟩ = some (.bool true) := by rw [hU, World.cell?_setCells_out _ _ _ _ _ (fun _ _ => .inl (show 2 < 3 by decide))]; exact h2
     have v2 : U.frozen? ⟨w.heap.size, 2, none⟩ = false := by rw [hU, World.frozen?_setCells]; exact H2.out.free 2
     have HU := hid hU
     have HV2 := hid hV2
     clear hU hld n2 hb2
     rw [hV2] at hld2 hst2 h2
     clear hV2
     have hgf : groupF B L = fun i => if 3 ≤ i ∧ i < 16 then upd (ofF L) 12 (B.f 15) (i - 3) else B.f i := by
      funext i
      unfold groupF upd
      rw [hg2]
      by_cases hi : i = 15
      ·subst hi; simp
      ·have : ¬ i - 3 = 12 ∨ ¬ (3 ≤ i ∧ i < 16) := by omega
       by_cases h3 : 3 ≤ i ∧ i < 16
       ·have h12 : ¬ i - 3 = 12 := by omega
        simp [h3, hi, h12]
       ·simp [h3]
     have HZV := hid (show V2.heap[w.heap.size + 2]? = some (.cells #[.int .i64 0, .int .i64 0, .bool false, .int .i64 0, .int .i64 0, .int .i64 0, .int .i64 0, .int .i64 0, .int .i64 0, .int .i64 0, .int .i64 0, .int .i64 0, .int .i64 0, .int .i64 0, .int .i64 0, .int .i64 0, .bool false, .slice none 0 0, .slice none 0 0, .slice none 0 0, .int .u8 0, .int .i64 0, .int .i64 0, .int .i64 0, .bool false, .int .i64 0, .int .i64 0] 30) by rw [HV2.out]; exact blk_other (blk_below HZ2.out hbVz.out (blk_lt HZ2.out)) (p := ⟨w1.heap.size, 12, none⟩) (fun e => by dsimp only at e; have := blk_lt HZ2.out; omega) _)
     have HU2 := hid (show BO w w.heap.size RR _ iv kv (U.setCell ⟨w.heap.size, 2, none⟩ (.bool true)) by rw [HRY.out, hgf]; exact HF.out)
     have HZU := hid (show (U.setCell ⟨w.heap.size, 2, none⟩ (.bool true)).heap[w.heap.size + 2]? = some (.cells #[.int .i64 0, .int .i64 0, .bool false, .int .i64 0, .int .i64 0, .int .i64 0, .int .i64 0, .int .i64 0, .int .i64 0, .int .i64 0, .int .i64 0, .int .i64 0, .int .i64 0, .int .i64 0, .int .i64 0, .int .i64 0, .bool false, .slice none 0 0, .slice none 0 0, .slice none 0 0, .int .u8 0, .int .i64 0, .int .i64 0, .int .i64 0, .bool false, .int .i64 0, .int .i64 0] 30) by rw [HU.out]; exact blk_other (((setCells_grown w.heap.size 3 _ _).block (w.heap.size + 2) (blk_lt HZV.out) (by simp)).trans HZV.out) (p := ⟨w.heap.size, 2, none⟩) (by simp) _)
     go_upto_region 11 with (fail)
     obtain ⟨hld, XF, m', i', k', hst, bb, hend⟩ := ap_end (HU2.out) (HZU.out)
     have HBB := hid bb
     have HEND := hid hend
     clear bb hend
     go_wp2
     refine bodyPost_ret (results_cell_row rfl _ _ (w.heap.size + 2) 30 _ _ _ rfl HBB.out brain_under rfl (brain_size (brT_bc _ _ _ _ _))) rfl ?_
     exact HEND.out
    | false =>
     rw [hg2] at c2
     have hst2 : (storeVar 24 ⟨w.heap.size, 3, none⟩ (.agg (confA (ofF L) (ofG L) (.slice ma2 mn2 mc2)))).run Tryd.prog V = .ok () (V.setCells w.heap.size 3 (confA (ofF L) (ofG L) (.slice ma2 mn2 mc2)).toList) := run_storeVar_mid V w.heap.size 3 24 _ (there_brT HV.out.box _ _ _) (conf_size _ _ _) (by simp [confA, Value.oneCell'])
     have HF := hid (HV.out.setConf (ofF L) (ofG L) HOV.out)
     obtain ⟨U, hU⟩ : ∃ U, U = V.setCells w.heap.size 3 (confA (ofF L) (ofG L) (.slice ma2 mn2 mc2)).toList := ⟨_, rfl⟩
     rw [← hU] at hst2 HF
     have u2 : U.cell? ⟨w.heap.size, 2, none⟩ = some (.bool false) := by rw [hU, World.cell?_setCells_out _ _ _ _ _ (fun _ _ => .inl (show 2 < 3 by decide))]; exact c2
     have v2 : U.frozen? ⟨w.heap.size, 2, none⟩ = false := by rw [hU, World.frozen?_setCells]; exact HV.out.free 2
     have HU := hid hU
     clear hU
     have hgf : groupF B L = fun i => if 3 ≤ i ∧ i < 16 then ofF L (i - 3) else B.f i := by funext i; unfold groupF; rw [hg2]; simp
     have HZV := hid (show V.heap[w.heap.size + 2]? = some (.cells #[.int .i64 0, .int .i64 0, .bool false, .int .i64 0, .int .i64 0, .int .i64 0, .int .i64 0, .int .i64 0, .int .i64 0, .int .i64 0, .int .i64 0, .int .i64 0, .int .i64 0, .int .i64 0, .int .i64 0, .int .i64 0, .bool false, .slice none 0 0, .slice none 0 0, .slice none 0 0, .int .u8 0, .int .i64 0, .int .i64 0, .int .i64 0, .bool false, .int .i64 0, .int .i64 0] 30) from blk_below HZ2.out hbVz.out (blk_lt HZ2.out))
     have HU2 := hid (show BO w w.heap.size RR _ iv kv (U.setCell ⟨w.heap.size, 2, none⟩ (.bool true)) by rw [HRY.out, hgf]; exact HF.out)
     have HZU := hid (show (U.setCell ⟨w.heap.size, 2, none⟩ (.bool true)).heap[w.heap.size + 2]? = some (.cells #[.int .i64 0, .int .i64 0, .bool false, .int .i64 0, .int .i64 0, .int .i64 0, .int .i64 0, .int .i64 0, .int .i64 0, .int .i64 0, .int .i64 0, .int .i64 0, .int .i64 0, .int .i64 0, .int .i64 0, .int .i64 0, .bool false, .slice none 0 0, .slice none 0 0, .slice none 0 0, .int .u8 0, .int .i64 0, .int .i64 0, .int .i64 0, .bool false, .int .i64 0, .int .i64 0] 30) by rw [HU.out]; exact blk_other (((setCells_grown w.heap.size 3 _ _).block (w.heap.size + 2) (blk_lt HZV.out) (by simp)).trans HZV.out) (p := ⟨w.heap.size, 2, none⟩) (by simp) _)
     go_upto_region 11 with (fail)
     obtain ⟨hld, XF, m', i', k', hst, bb, hend⟩ := ap_end (HU2.out) (HZU.out)
     have HBB := hid bb
     have HEND := hid hend
     clear bb hend
     go_wp2
     refine bodyPost_ret (results_cell_row rfl _ _ (w.heap.size + 2) 30 _ _ _ rfl HBB.out brain_under rfl (brain_size (brT_bc _ _ _ _ _))) rfl ?_
     exact HEND.out
   ·obtain rfl : B = RR := by rw [HRX.out]; unfold groupB; rw [if_neg (by simp [hno])]
    obtain ⟨T, hT⟩ : ∃ T, T = w1.alloc (.cells #[.int .i64 0, .int .i64 0, .int .i64 0, .int .i64 0, .int .i64 0, .int .i64 0, .int .i64 0, .int .i64 0, .int .i64 0, .int .i64 0, .int .i64 0, .int .i64 0, .int .i64 0, .bool false, .slice none 0 0] 24) := ⟨_, rfl⟩
    have nT : T.heap[w1.heap.size]? = some (.cells #[.int .i64 0, .int .i64 0, .int .i64 0, .int .i64 0, .int .i64 0, .int .i64 0, .int .i64 0, .int .i64 0, .int .i64 0, .int .i64 0, .int .i64 0, .int .i64 0, .int .i64 0, .bool false, .slice none 0 0] 24) := by rw [hT]; exact heap_new _ _
    have hbT : Below w1.heap.size w1 T := by rw [hT]; exact (Below.refl _ _).alloc (Nat.le_refl _) _
    obtain ⟨V, hV⟩ : ∃ V, V = T.setRow w1.heap.size (confA f g (.slice ma2 mn2 mc2)) := ⟨_, rfl⟩
    have hst : (storeVar 24 ⟨w1.heap.size, 0, none⟩ (.agg (confA f g (.slice ma2 mn2 mc2)))).run Tryd.prog T = .ok () V := by
     rw [hV, run_storeVar_row T w1.heap.size 24 24 _ (confA f g (.slice ma2 mn2 mc2)) nT (conf_size _ _ _) rfl (by simp [confA, Value.oneCell'])]
    have hbV : Below w1.heap.size w1 V := by rw [hV]; exact below_setRow hbT (Nat.le_refl _) _
    have HV := hid (H1.out.below hbV)
    have hbVz := hid hbV
    rw [hT] at hst
    clear hb1 hV hbT hbV nT hT
    have HZV := hid (blk_below HZ2.out hbVz.out (blk_lt HZ2.out))
    go_upto_region 11 with (fail)
    obtain ⟨hld, XF, m', i', k', hst, bb, hend⟩ := ap_end (HV.out) (HZV.out)
    have HBB := hid bb
    have HEND := hid hend
    clear bb hend
    go_wp2
    refine bodyPost_ret (results_cell_row rfl _ _ (w.heap.size + 2) 30 _ _ _ rfl HBB.out brain_under rfl (brain_size (brT_bc _ _ _ _ _))) rfl ?_
    exact HEND.out
  ·have e2 : (k == 2) = false := by simpa using hk2
   go_upto_region 12 with (fail)
   clear e2
   by_cases h1 : k = 1
   ·subst h1
    by_cases hL : L.length = 0
    ·have HRX := hid (show RR = bootB B by rw [← HRR.out]; exact applyB_of B 1 L 0 _ HQ.out (by decide) rfl hL)
     have HS0 := hid HS.out
     have dn : ((0 : Int) != (L.length : Int)) = false := by rw [hL]; rfl
     have HMY := hid (rmany_same 1 0 rfl)
     have HLN := hid hL
     clear hL
     go_quiet ((go_at_call 34; exact Calls.quiet_of_same (HMY.out _)))
     obtain ⟨D, hD⟩ : ∃ D : World, D = X.drewN nq := ⟨_, rfl⟩
     have hbD : Below X.heap.size X D := by rw [hD]; exact below_drewN (Below.refl _ _) _
     rw [← hD]
     have HOD := hid (HO.out.below hbD)
     have HRD := hid (blk_below HR.out hbD (blk_lt HR.out))
     have HZD := hid (blk_below HZ.out hbD (blk_lt HZ.out))
     have HSD := hid (HSX.out.below hbD)
     have y0 : D.cell? ⟨w.heap.size + 1, 0, none⟩ = some (.int .u8 1) := blk_cell HRD.out 0
     have y1 : D.cell? ⟨w.heap.size + 1, 1, none⟩ = some (.slice sa L.length sc) := blk_cell HRD.out 1
     have ly := blk_lt HRD.out
     clear hD hbD x0 x1 lx dn
     unfold bootB at HRX
     have c0 := HOD.out.cell 0 (.int .i64 (B.f 0)) rfl
     have f0 := HOD.out.free 0
     have lb := HOD.out.lt
     by_cases hq0 : B.f 0 < 1099511627776
     ·have HRZ := hid (show RR = { B with f := upd B.f 0 (wrap64 (B.f 0 + 1)) } by rw [HRX.out, if_pos hq0])
      go_upto_region 31 with (fail)
      refine wp_named (fun U hU => ?_)
      have HU := hid (show BO w w.heap.size RR mv iv kv U by rw [hU, HRZ.out]; exact HOD.out.set 0 _ rfl)
      have HZU := hid (show U.heap[w.heap.size + 2]? = some (.cells #[.int .i64 0, .int .i64 0, .bool false, .int .i64 0, .int .i64 0, .int .i64 0, .int .i64 0, .int .i64 0, .int .i64 0, .int .i64 0, .int .i64 0, .int .i64 0, .int .i64 0, .int .i64 0, .int .i64 0, .int .i64 0, .bool false, .slice none 0 0, .slice none 0 0, .slice none 0 0, .int .u8 0, .int .i64 0, .int .i64 0, .int .i64 0, .bool false, .int .i64 0, .int .i64 0] 30) by rw [hU]; exact blk_other HZD.out (p := ⟨w.heap.size, 0, none⟩) (by simp) _)
      clear hU c0 f0 lb hq0
      go_upto_region 31 with (fail)
      obtain ⟨hld, XF, m', i', k', hst, bb, hend⟩ := ap_end (HU.out) (HZU.out)
      have HBB := hid bb
      have HEND := hid hend
      clear bb hend y0 y1 ly
      go_wp2
      refine bodyPost_ret (results_cell_row rfl _ _ (w.heap.size + 2) 30 _ _ _ rfl HBB.out brain_under rfl (brain_size (brT_bc _ _ _ _ _))) rfl ?_
      exact HEND.out
     ·obtain rfl : B = RR := by rw [HRX.out, if_neg hq0]
      go_upto_region 31 with (fail)
      obtain ⟨hld, XF, m', i', k', hst, bb, hend⟩ := ap_end (HOD.out) (HZD.out)
      have HBB := hid bb
      have HEND := hid hend
      clear bb hend c0 f0 lb hq0 y0 y1 ly
      go_wp2
      refine bodyPost_ret (results_cell_row rfl _ _ (w.heap.size + 2) 30 _ _ _ rfl HBB.out brain_under rfl (brain_size (brT_bc _ _ _ _ _))) rfl ?_
      exact HEND.out
    ·obtain rfl : B = RR := by rw [← HRR.out]; exact (not_len (by decide) (n := 0) rfl hL).symm
     have dn : ((0 : Int) != (L.length : Int)) = true := by rw [bne_iff_ne]; omega
     have HMY := hid (rmany_same 1 0 rfl)
     have HLN := hid hL
     clear hL
     go_quiet ((go_at_call 34; exact Calls.quiet_of_same (HMY.out _)))
     obtain ⟨D, hD⟩ : ∃ D : World, D = X.drewN nq := ⟨_, rfl⟩
     have hbD : Below X.heap.size X D := by rw [hD]; exact below_drewN (Below.refl _ _) _
     rw [← hD]
     have HOD := hid (HO.out.below hbD)
     have HRD := hid (blk_below HR.out hbD (blk_lt HR.out))
     have HZD := hid (blk_below HZ.out hbD (blk_lt HZ.out))
     have HSD := hid (HSX.out.below hbD)
     have y0 : D.cell? ⟨w.heap.size + 1, 0, none⟩ = some (.int .u8 1) := blk_cell HRD.out 0
     have y1 : D.cell? ⟨w.heap.size + 1, 1, none⟩ = some (.slice sa L.length sc) := blk_cell HRD.out 1
     have ly := blk_lt HRD.out
     clear hD hbD x0 x1 lx dn
     go_upto_region 13 with (fail)
     obtain ⟨hld, XF, m', i', k', hst, bb, hend⟩ := ap_end (HOD.out) (HZD.out)
     have HBB := hid bb
     have HEND := hid hend
     clear bb hend y0 y1 ly
     go_wp2
     refine bodyPost_ret (results_cell_row rfl _ _ (w.heap.size + 2) 30 _ _ _ rfl HBB.out brain_under rfl (brain_size (brT_bc _ _ _ _ _))) rfl ?_
     exact HEND.out
   by_cases h3 : k = 3
   ·subst h3
    by_cases hL : L.length = 3
    ·have HRX := hid (show RR = intentB B (L.getD 0 0) (L.getD 1 0) (L.getD 2 0) by rw [← HRR.out]; exact applyB_of B 3 L 3 _ HQ.out (by decide) rfl hL)
     have HS0 := hid HS.out
     have dn : ((3 : Int) != (L.length : Int)) = false := by rw [hL]; rfl
     have HMY := hid (rmany_same 3 3 rfl)
     have HLN := hid hL
     clear hL
     go_quiet ((go_at_call 34; exact Calls.quiet_of_same (HMY.out _)))
     obtain ⟨D, hD⟩ : ∃ D : World, D = X.drewN nq := ⟨_, rfl⟩
     have hbD : Below X.heap.size X D := by rw [hD]; exact below_drewN (Below.refl _ _) _
     rw [← hD]
     have HOD := hid (HO.out.below hbD)
     have HRD := hid (blk_below HR.out hbD (blk_lt HR.out))
     have HZD := hid (blk_below HZ.out hbD (blk_lt HZ.out))
     have HSD := hid (HSX.out.below hbD)
     have y0 : D.cell? ⟨w.heap.size + 1, 0, none⟩ = some (.int .u8 3) := blk_cell HRD.out 0
     have y1 : D.cell? ⟨w.heap.size + 1, 1, none⟩ = some (.slice sa L.length sc) := blk_cell HRD.out 1
     have ly := blk_lt HRD.out
     clear hD hbD x0 x1 lx dn
     obtain ⟨b1, o1, rfl, hb1, hr1⟩ := HOP.out (by have := HLN.out; omega)
     have hL3 := HLN.out
     obtain ⟨t0, ht0⟩ := get_lt (l := L) (k := 0) (by omega)
     obtain ⟨t1, ht1⟩ := get_lt (l := L) (k := 1) (by omega)
     obtain ⟨t2, ht2⟩ := get_lt (l := L) (k := 2) (by omega)
     have e0 : L.getD 0 0 = t0 := by rw [List.getD_eq_getElem?_getD, ht0]; rfl
     have e1 : L.getD 1 0 = t1 := by rw [List.getD_eq_getElem?_getD, ht1]; rfl
     have e2 : L.getD 2 0 = t2 := by rw [List.getD_eq_getElem?_getD, ht2]; rfl
     rw [e0, e1, e2] at HRX
     have hLI : (L.length : Int) = 3 := by omega
     have HR9 := hid hr1
     have HT0 := hid ht0
     have HT1 := hid ht1
     have HT2 := hid ht2
     have g0 := rowN1 (hr1.below HOD.out.bel hb1) ht0
     have g1 := rowN1 (hr1.below HOD.out.bel hb1) ht1
     have g2 := rowN1 (hr1.below HOD.out.bel hb1) ht2
     simp only [Nat.add_zero] at g0
     have lb1 : b1 < D.heap.size := Nat.lt_of_lt_of_le hb1 HOD.out.bel.size
     have lb0 := HOD.out.lt
     have c1 := HOD.out.cell 1 (.int .i64 (B.f 1)) rfl
     have f1 := HOD.out.free 1
     clear hL3 ht0 ht1 ht2 e0 e1 e2 hr1
     unfold intentB at HRX
     cases hq : B.g 2 with
     | false =>
      have c2 := HOD.out.cell 2 (.bool false) (by rw [← hq]; rfl)
      obtain rfl : B = RR := by rw [HRX.out, if_neg (by rw [hq]; simp)]
      clear hq
      go_upto_region 31 with (fail)
      obtain ⟨hld, XF, m', i', k', hst, bb, hend⟩ := ap_end (HOD.out) (HZD.out)
      have HBB := hid bb
      have HEND := hid hend
      clear bb hend c2 c1 f1 g0 g1 g2 lb1 lb0 y0 y1 ly hLI
      go_wp2
      refine bodyPost_ret (results_cell_row rfl _ _ (w.heap.size + 2) 30 _ _ _ rfl HBB.out brain_under rfl (brain_size (brT_bc _ _ _ _ _))) rfl ?_
      exact HEND.out
     | true =>
      have c2 := HOD.out.cell 2 (.bool true) (by rw [← hq]; rfl)
      by_cases m0 : 1 ≤ t0
      ·have d0 : decide (1 ≤ t0) = true := decide_eq_true m0
       by_cases m1 : t1 ≤ 3
       ·have d1 : decide (t1 < 4) = true := decide_eq_true (by omega)
        by_cases m2 : t2 ≤ 1
        ·have d2 : decide (t2 < 2) = true := decide_eq_true (by omega)
         by_cases m3 : B.f 1 < 1099511627776
         ·have d3 : decide (B.f 1 < 1099511627776) = true := decide_eq_true m3
          have HRZ := hid (show RR = { B with f := upd B.f 1 (wrap64 (B.f 1 + 1)), I := B.I ++ [⟨wrap64 (B.f 1 + 1), t0, t1, t2 == 1⟩] } by rw [HRX.out, if_pos ⟨hq, m0, m1, m2, m3⟩])
          clear hq m0 m1 m2 m3
          go_upto_region 22 with (fail)
          obtain ⟨sq, hsq⟩ : ∃ sq, wrap64 (B.f 1 + 1) = sq := ⟨_, rfl⟩
          rw [hsq] at HRZ ⊢
          clear hsq
          refine wp_named (fun V hV => ?_)
          obtain ⟨i0, hi, hz0, hz1, hz2⟩ := info_parts infoIn
          obtain ⟨ia2, in2, ic2, hiv⟩ := Owns.shape HOD.out.ri
          subst hiv
          have HV := hid (show BO w w.heap.size { B with f := upd B.f 1 sq } mv (.slice ia2 in2 ic2) kv V by rw [hV]; exact HOD.out.set 1 _ rfl)
          have HRV := hid (show V.heap[w.heap.size + 1]? = some (.cells #[.int .u8 3, .slice (some ⟨b1, o1, none⟩) L.length sc] 62) by rw [hV]; exact blk_other HRD.out (p := ⟨w.heap.size, 1, none⟩) (by simp) _)
          have HZV := hid (show V.heap[w.heap.size + 2]? = some (.cells #[.int .i64 0, .int .i64 0, .bool false, .int .i64 0, .int .i64 0, .int .i64 0, .int .i64 0, .int .i64 0, .int .i64 0, .int .i64 0, .int .i64 0, .int .i64 0, .int .i64 0, .int .i64 0, .int .i64 0, .int .i64 0, .bool false, .slice none 0 0, .slice none 0 0, .slice none 0 0, .int .u8 0, .int .i64 0, .int .i64 0, .int .i64 0, .bool false, .int .i64 0, .int .i64 0] 30) by rw [hV]; exact blk_other HZD.out (p := ⟨w.heap.size, 1, none⟩) (by simp) _)
          clear hV c2 c1 f1 g0 g1 g2 lb1 lb0 y0 y1 ly d0 d1 d2 d3
          have d1 := HV.out.cell 1 (.int .i64 sq) rfl
          have d18 := HV.out.cell 18 (.slice ia2 in2 ic2) rfl
          have q1 : V.cell? ⟨w.heap.size + 1, 1, none⟩ = some (.slice (some ⟨b1, o1, none⟩) L.length sc) := blk_cell HRV.out 1
          have lV := HV.out.lt
          have lR := blk_lt HRV.out
          have lb : b1 < V.heap.size := Nat.lt_of_lt_of_le hb1 HV.out.bel.size
          obtain ⟨U, hU⟩ : ∃ U, U = (V.alloc (.cells #[.int .i64 sq, .int .i64 t0, .int .i64 t1, .bool (t2 == 1)] 53)).drew := ⟨_, rfl⟩
          have hbU : Below V.heap.size V U := by rw [hU]; exact below_drewN ((Below.refl _ _).alloc (Nat.le_refl _) _) 1
          have HU := hid (HV.out.below hbU)
          have HBU := hid hbU
          have HUU := hid hU
          have l1 : B.I.length + 1 ≤ maxLen := by unfold maxLen; omega
          have l2 : (B.I.length + 1) * 32 ≤ 140737488355328 := by omega
          clear hU hbU
          have HALL : ∀ W, Below w.heap.size w W → W.cell? ⟨w.heap.size, 1, none⟩ = some (.int .i64 sq) → W.cell? ⟨w.heap.size, 18, none⟩ = some (.slice ia2 in2 ic2) → W.cell? ⟨w.heap.size + 1, 1, none⟩ = some (.slice (some ⟨b1, o1, none⟩) L.length sc) → (fun W => Below w.heap.size w W ∧ W.cell? ⟨b1, o1, none⟩ = some (.int .i64 t0) ∧ W.cell? ⟨b1, o1 + 1, none⟩ = some (.int .i64 t1) ∧ W.cell? ⟨b1, o1 + 2, none⟩ = some (.int .i64 t2) ∧ W.cell? ⟨w.heap.size, 1, none⟩ = some (.int .i64 sq) ∧ W.cell? ⟨w.heap.size, 18, none⟩ = some (.slice ia2 in2 ic2) ∧ W.cell? ⟨w.heap.size + 1, 1, none⟩ = some (.slice (some ⟨b1, o1, none⟩) L.length sc)) W := fun W hb hq hq2 hq3 => ⟨hb, by have := rowN1 (HR9.out.below hb hb1) HT0.out; simpa using this, rowN1 (HR9.out.below hb hb1) HT1.out, rowN1 (HR9.out.below hb hb1) HT2.out, hq, hq2, hq3⟩
          have HS0 := HALL V.drew HV.out.drew1.bel d1 d18 q1
          have HS1 := HALL U HU.out.bel (cell_below d1 HBU.out) (cell_below d18 HBU.out) (cell_below q1 HBU.out)
          have HALL := hid HALL
          rw [HUU.out] at HS1
          have hbi := bs_in1 ⟨sq, t0, t1, t2 == 1⟩
          refine wp_region_cut 20 2 (fun W => Below w.heap.size w W ∧ W.cell? ⟨b1, o1, none⟩ = some (.int .i64 t0) ∧ W.cell? ⟨b1, o1 + 1, none⟩ = some (.int .i64 t1) ∧ W.cell? ⟨b1, o1 + 2, none⟩ = some (.int .i64 t2) ∧ W.cell? ⟨w.heap.size, 1, none⟩ = some (.int .i64 sq) ∧ W.cell? ⟨w.heap.size, 18, none⟩ = some (.slice ia2 in2 ic2) ∧ W.cell? ⟨w.heap.size + 1, 1, none⟩ = some (.slice (some ⟨b1, o1, none⟩) L.length sc)) (by kernel_rfl) (by kernel_rfl) (by kernel_rfl) ?_
          simp only [List.take_succ_cons, List.take_zero]
          refine wpAnyH_take (i := 0) (v := ?_) rfl (by kernel_rfl) (by kernel_rfl) (by kernel_rfl) (fun _ _ _ h => h) (Or.inl ⟨by kernel_rfl, ?_⟩) HS0 ?_
          rotate_left
          ·(intro w hSw; (try dsimp only at hSw); go_simp; try with_reducible rfl)
          try simp only [Act.put, List.setIfInBounds_toArray]
          refine wpAnyH_take (i := 1) (v := ?_) rfl (by kernel_rfl) (by kernel_rfl) (by kernel_rfl) (fun _ _ _ h => h) (Or.inl ⟨by kernel_rfl, ?_⟩) HS0 ?_
          rotate_left
          ·(intro w hSw; (try dsimp only at hSw); go_simp; try with_reducible rfl)
          try simp only [Act.put]
          refine wpAnyH_take (i := 2) (v := ?_) rfl (by kernel_rfl) (by kernel_rfl) (by kernel_rfl) (fun _ _ _ h => h) (Or.inl ⟨by kernel_rfl, ?_⟩) HS0 ?_
          rotate_left
          ·(intro w hSw; (try dsimp only at hSw); go_simp; try with_reducible rfl)
          try simp only [Act.put]
          refine wpAnyH_take (i := 3) (v := ?_) rfl (by kernel_rfl) (by kernel_rfl) (by kernel_rfl) (fun _ _ _ h => h) (Or.inl ⟨by kernel_rfl, ?_⟩) HS0 ?_
          rotate_left
          ·(intro w hSw; (try dsimp only at hSw); go_simp; try with_reducible rfl)
          try simp only [Act.put]
          refine wpAnyH_take (i := 4) (v := ?_) rfl (by kernel_rfl) (by kernel_rfl) (by kernel_rfl) (fun _ _ _ h => h) (Or.inl ⟨by kernel_rfl, ?_⟩) HS0 ?_
          rotate_left
          ·(intro w hSw; (try dsimp only at hSw); go_simp; try with_reducible rfl)
          try simp only [Act.put]
          refine wpAnyH_take (i := 5) (v := ?_) rfl (by kernel_rfl) (by kernel_rfl) (by kernel_rfl) (fun _ _ _ h => h) (Or.inl ⟨by kernel_rfl, ?_⟩) HS0 ?_
          rotate_left
          ·(intro w hSw; (try dsimp only at hSw); go_simp; try with_reducible rfl)
          try simp only [Act.put]
          refine wpAnyH_take (i := 6) (v := ?_) rfl (by kernel_rfl) (by kernel_rfl) (by kernel_rfl) (fun _ _ _ h => h) (Or.inl ⟨by kernel_rfl, ?_⟩) HS0 ?_
          rotate_left
          ·(intro w hSw; (try dsimp only at hSw); go_simp; try with_reducible rfl)
          try simp only [Act.put]
          refine wpAnyH_take (i := 7) (v := ?_) rfl (by kernel_rfl) (by kernel_rfl) (by kernel_rfl) (fun _ _ _ h => h) (Or.inl ⟨by kernel_rfl, ?_⟩) HS0 ?_
          rotate_left
          ·(intro w hSw; (try dsimp only at hSw); go_simp; try with_reducible rfl)
          try simp only [Act.put]
          refine wpAnyH_take (i := 8) (v := ?_) rfl (by kernel_rfl) (by kernel_rfl) (by kernel_rfl) (fun _ _ _ h => h) (Or.inl ⟨by kernel_rfl, ?_⟩) HS0 ?_
          rotate_left
          ·(intro w hSw; (try dsimp only at hSw); go_simp; try with_reducible rfl)
          try simp only [Act.put]
          refine wpAnyH_take (i := 9) (v := ?_) rfl (by kernel_rfl) (by kernel_rfl) (by kernel_rfl) (fun _ _ _ h => h) (Or.inl ⟨by kernel_rfl, ?_⟩) HS0 ?_
          rotate_left
          ·(intro w hSw; (try dsimp only at hSw); go_simp; try with_reducible rfl)
          try simp only [Act.put]
          refine wpAnyH_take (i := 10) (v := ?_) rfl (by kernel_rfl) (by kernel_rfl) (by kernel_rfl) (fun _ _ _ h => h) (Or.inl ⟨by kernel_rfl, ?_⟩) HS0 ?_
          rotate_left
          ·(intro w hSw; (try dsimp only at hSw); go_simp; try with_reducible rfl)
          try simp only [Act.put]
          refine wpAnyH_take (i := 11) (v := ?_) rfl (by kernel_rfl) (by kernel_rfl) (by kernel_rfl) (fun _ _ _ h => h) (Or.inl ⟨by kernel_rfl, ?_⟩) HS0 ?_
          rotate_left
          ·(intro w hSw; (try dsimp only at hSw); go_simp; try with_reducible rfl)
          try simp only [Act.put]
          refine wpAnyH_take (i := 12) (v := ?_) rfl (by kernel_rfl) (by kernel_rfl) (by kernel_rfl) (fun _ _ _ h => h) (Or.inl ⟨by kernel_rfl, ?_⟩) HS0 ?_
          rotate_left
          ·(intro w hSw; (try dsimp only at hSw); go_simp; try with_reducible rfl)
          try simp only [Act.put]
          refine wpAnyH_take (i := 13) (v := ?_) rfl (by kernel_rfl) (by kernel_rfl) (by kernel_rfl) (fun _ _ _ h => h) (Or.inl ⟨by kernel_rfl, ?_⟩) HS0 ?_
          rotate_left
          ·(intro w hSw; (try dsimp only at hSw); go_simp; try with_reducible rfl)
          try simp only [Act.put]
          refine wpAnyH_take (i := 14) (v := ?_) rfl (by kernel_rfl) (by kernel_rfl) (by kernel_rfl) (fun _ _ _ h => h) (Or.inl ⟨by kernel_rfl, ?_⟩) HS0 ?_
          rotate_left
          ·(intro w hSw; (try dsimp only at hSw); go_simp; try with_reducible rfl)
          try simp only [Act.put]
          refine wpAnyH_take (i := 15) (v := ?_) rfl (by kernel_rfl) (by kernel_rfl) (by kernel_rfl) (fun _ _ _ h => h) (Or.inl ⟨by kernel_rfl, ?_⟩) HS0 ?_
          rotate_left
          ·(intro w hSw; (try dsimp only at hSw); go_simp; try with_reducible rfl)
          try simp only [Act.put]
          refine wpAnyH_take (i := 16) (v := ?_) rfl (by kernel_rfl) (by kernel_rfl) (by kernel_rfl) (fun _ _ _ h => h) (Or.inl ⟨by kernel_rfl, ?_⟩) HS0 ?_
          rotate_left
          ·(intro w hSw; (try dsimp only at hSw); go_simp; try with_reducible rfl)
          try simp only [Act.put]
          refine wpAnyH_take (i := 17) (v := ?_) rfl (by kernel_rfl) (by kernel_rfl) (by kernel_rfl) (fun _ _ _ h => h) (Or.inl ⟨by kernel_rfl, ?_⟩) HS0 ?_
          rotate_left
          ·(intro w hSw; (try dsimp only at hSw); go_simp; try with_reducible rfl)
          try simp only [Act.put]
          refine wpAnyH_ready (rs := [18]) (by kernel_rfl) (by simp) ?_
          refine AllReadyH.cons rfl (fun K hK => ?_) AllReadyH.nil
          go_simp
          refine hK.out _ _ HS1 (fun hHeld => ?_)
          clear hK K
          refine wpAnyH_ready (rs := [19]) (by kernel_rfl) (by simp) ?_
          refine AllReadyH.cons rfl (fun K hK => ?_) AllReadyH.nil
          refine step_append_one rfl _ _ 25 rfl w.heap.size 53 i0 _ 32 Tryd.underlying25 hi hz0 hz1 hz2 rfl (by decide) encIn_len _ B.I rfl (by have := HU.out.ri; rw [HUU.out] at this; exact this) ⟨V.heap.size, 0, none⟩ ⟨sq, t0, t1, t2 == 1⟩ rfl (encIn_one _) (new_cellsN V ⟨sq, t0, t1, t2 == 1⟩ _) l1 l2 (by have := HU.out.bel.size; rw [HUU.out] at this; exact this) ?_
          intro v' x9 hown' _ hg'
          rw [← HUU.out] at hg'
          obtain ⟨va, vn, vc, hv'⟩ := Owns.shape hown'
          subst hv'
          have HOa := hid hown'
          have HG := hid hg'
          have hne : ∀ T c, U.heap[T]? = some (.cells c 30) ∨ U.heap[T]? = some (.cells c 62) → some T ≠ (Value.slice ia2 in2 ic2).ownBlock := fun T c hT e' => by
           obtain ⟨c', hc'⟩ := Owns.typed HU.out.ri T e'.symm
           rcases hT with h | h <;> (rw [h] at hc'; cases hc')
          have hbx := blk_grown HU.out.box hg' (hne _ _ (.inl HU.out.box))
          have hrU := blk_below HRV.out HBU.out (blk_lt HRV.out)
          have hzU := blk_below HZV.out HBU.out (blk_lt HZV.out)
          have hrx := blk_grown hrU hg' (hne _ _ (.inr hrU))
          have HZX := hid (blk_grown hzU hg' (hne _ _ (.inl hzU)))
          have d18x : x9.cell? ⟨w.heap.size, 18, none⟩ = some (.slice ia2 in2 ic2) := blk_cell hbx 18
          have k18x := blk_free hbx 18
          have lx := blk_lt hbx
          have HS2 := HALL.out x9 (HU.out.bel.grown hg' HU.out.bel.size (fun k e => (Owns.block HU.out.ri k e).1)) (blk_cell hbx 1) d18x (blk_cell hrx 1)
          clear hown' hg' hbx hHeld HS0 HS1 hrx hrU hzU hne
          refine hK.out _ _ HS2 (fun hHeld => ?_)
          clear hK K
          refine wpAnyH_done (by kernel_rfl) ?_ _
          refine cutQ_held (fun _ => True) (fun f => ?_)
          refine wpAnyH_take (i := 20) (v := ?_) rfl (by kernel_rfl) (by kernel_rfl) (by kernel_rfl) (fun _ _ _ h => h) (Or.inl ⟨by rfl, ?_⟩) trivial ?_
          rotate_left
          ·(intro w hSw; (try dsimp only at hSw); go_simp; try with_reducible rfl)
          try simp only [Act.put, List.setIfInBounds_toArray]
          refine wpAnyH_ready (rs := [21]) (by kernel_rfl) (by simp) ?_
          refine AllReadyH.cons rfl (fun K hK => ?_) AllReadyH.nil
          go_simp
          refine hK.out _ _ trivial (fun _ => ?_)
          clear hK K
          refine wpAnyH_done (by kernel_rfl) ?_ _
          have HFI := hid (HU.out.setInt HG.out HOa.out)
          have HFZ := hid (blk_other HZX.out (p := ⟨w.heap.size, 18, none⟩) (by simp) (.slice va vn vc))
          have HFI2 := hid (show BO w w.heap.size RR mv (.slice va vn vc) kv (x9.setCell ⟨w.heap.size, 18, none⟩ (.slice va vn vc)) by rw [HRZ.out]; exact HFI.out)
          clear hHeld HS2 d1 d18 q1 lV lR lb d18x k18x lx hbi HFI
          go_upto_region 31 with (fail)
          obtain ⟨hld, XF, m', i', k', hst, bb, hend⟩ := ap_end (HFI2.out) (HFZ.out)
          have HBB := hid bb
          have HEND := hid hend
          clear bb hend
          go_wp2
          refine bodyPost_ret (results_cell_row rfl _ _ (w.heap.size + 2) 30 _ _ _ rfl HBB.out brain_under rfl (brain_size (brT_bc _ _ _ _ _))) rfl ?_
          exact HEND.out
         ·have d3 : decide (B.f 1 < 1099511627776) = false := decide_eq_false m3
          obtain rfl : B = RR := by rw [HRX.out, if_neg (by rintro ⟨_, _, _, _, h⟩; exact m3 h)]
          clear hq m0 m1 m2 m3
          go_upto_region 31 with (fail)
          obtain ⟨hld, XF, m', i', k', hst, bb, hend⟩ := ap_end (HOD.out) (HZD.out)
          have HBB := hid bb
          have HEND := hid hend
          clear bb hend c2 c1 f1 g0 g1 g2 lb1 lb0 y0 y1 ly hLI d0 d1 d2 d3
          go_wp2
          refine bodyPost_ret (results_cell_row rfl _ _ (w.heap.size + 2) 30 _ _ _ rfl HBB.out brain_under rfl (brain_size (brT_bc _ _ _ _ _))) rfl ?_
          exact HEND.out
        ·have d2 : decide (t2 < 2) = false := decide_eq_false (by omega)
         obtain rfl : B = RR := by rw [HRX.out, if_neg (by rintro ⟨_, _, _, h, _⟩; exact m2 h)]
         clear hq m0 m1 m2
         go_upto_region 31 with (fail)
         obtain ⟨hld, XF, m', i', k', hst, bb, hend⟩ := ap_end (HOD.out) (HZD.out)
         have HBB := hid bb
         have HEND := hid hend
         clear bb hend c2 c1 f1 g0 g1 g2 lb1 lb0 y0 y1 ly hLI d0 d1 d2
         go_wp2
         refine bodyPost_ret (results_cell_row rfl _ _ (w.heap.size + 2) 30 _ _ _ rfl HBB.out brain_under rfl (brain_size (brT_bc _ _ _ _ _))) rfl ?_
         exact HEND.out
       ·have d1 : decide (t1 < 4) = false := decide_eq_false (by omega)
        obtain rfl : B = RR := by rw [HRX.out, if_neg (by rintro ⟨_, _, h, _⟩; exact m1 h)]
        clear hq m0 m1
        go_upto_region 31 with (fail)
        obtain ⟨hld, XF, m', i', k', hst, bb, hend⟩ := ap_end (HOD.out) (HZD.out)
        have HBB := hid bb
        have HEND := hid hend
        clear bb hend c2 c1 f1 g0 g1 g2 lb1 lb0 y0 y1 ly hLI d0 d1
        go_wp2
        refine bodyPost_ret (results_cell_row rfl _ _ (w.heap.size + 2) 30 _ _ _ rfl HBB.out brain_under rfl (brain_size (brT_bc _ _ _ _ _))) rfl ?_
        exact HEND.out
      ·have d0 : decide (1 ≤ t0) = false := decide_eq_false m0
       obtain rfl : B = RR := by rw [HRX.out, if_neg (by rintro ⟨_, h, _⟩; exact m0 h)]
       clear hq m0
       go_upto_region 31 with (fail)
       obtain ⟨hld, XF, m', i', k', hst, bb, hend⟩ := ap_end (HOD.out) (HZD.out)
       have HBB := hid bb
       have HEND := hid hend
       clear bb hend c2 c1 f1 g0 g1 g2 lb1 lb0 y0 y1 ly hLI d0
       go_wp2
       refine bodyPost_ret (results_cell_row rfl _ _ (w.heap.size + 2) 30 _ _ _ rfl HBB.out brain_under rfl (brain_size (brT_bc _ _ _ _ _))) rfl ?_
       exact HEND.out
    ·obtain rfl : B = RR := by rw [← HRR.out]; exact (not_len (by decide) (n := 3) rfl hL).symm
     have dn : ((3 : Int) != (L.length : Int)) = true := by rw [bne_iff_ne]; omega
     have HMY := hid (rmany_same 3 3 rfl)
     have HLN := hid hL
     clear hL
     go_quiet ((go_at_call 34; exact Calls.quiet_of_same (HMY.out _)))
     obtain ⟨D, hD⟩ : ∃ D : World, D = X.drewN nq := ⟨_, rfl⟩
     have hbD : Below X.heap.size X D := by rw [hD]; exact below_drewN (Below.refl _ _) _
     rw [← hD]
     have HOD := hid (HO.out.below hbD)
     have HRD := hid (blk_below HR.out hbD (blk_lt HR.out))
     have HZD := hid (blk_below HZ.out hbD (blk_lt HZ.out))
     have HSD := hid (HSX.out.below hbD)
     have y0 : D.cell? ⟨w.heap.size + 1, 0, none⟩ = some (.int .u8 3) := blk_cell HRD.out 0
     have y1 : D.cell? ⟨w.heap.size + 1, 1, none⟩ = some (.slice sa L.length sc) := blk_cell HRD.out 1
     have ly := blk_lt HRD.out
     clear hD hbD x0 x1 lx dn
     go_upto_region 13 with (fail)
     obtain ⟨hld, XF, m', i', k', hst, bb, hend⟩ := ap_end (HOD.out) (HZD.out)
     have HBB := hid bb
     have HEND := hid hend
     clear bb hend y0 y1 ly
     go_wp2
     refine bodyPost_ret (results_cell_row rfl _ _ (w.heap.size + 2) 30 _ _ _ rfl HBB.out brain_under rfl (brain_size (brT_bc _ _ _ _ _))) rfl ?_
     exact HEND.out
   by_cases h4 : k = 4
   ·subst h4
    by_cases hL : L.length = 3
    ·have HRX := hid (show RR = madeB B L by rw [← HRR.out]; exact applyB_of B 4 L 3 _ HQ.out (by decide) rfl hL)
     have HS0 := hid HS.out
     have dn : ((3 : Int) != (L.length : Int)) = false := by rw [hL]; rfl
     have HMY := hid (rmany_same 4 3 rfl)
     have HLN := hid hL
     clear hL
     go_quiet ((go_at_call 34; exact Calls.quiet_of_same (HMY.out _)))
     obtain ⟨D, hD⟩ : ∃ D : World, D = X.drewN nq := ⟨_, rfl⟩
     have hbD : Below X.heap.size X D := by rw [hD]; exact below_drewN (Below.refl _ _) _
     rw [← hD]
     have HOD := hid (HO.out.below hbD)
     have HRD := hid (blk_below HR.out hbD (blk_lt HR.out))
     have HZD := hid (blk_below HZ.out hbD (blk_lt HZ.out))
     have HSD := hid (HSX.out.below hbD)
     have y0 : D.cell? ⟨w.heap.size + 1, 0, none⟩ = some (.int .u8 4) := blk_cell HRD.out 0
     have y1 : D.cell? ⟨w.heap.size + 1, 1, none⟩ = some (.slice sa L.length sc) := blk_cell HRD.out 1
     have ly := blk_lt HRD.out
     clear hD hbD x0 x1 lx dn
     have hld := HOD.out.load
     go_wp2_with fail
     rw [HRX.out]
     refine ((rmade_any _ L HS0.out HLN.out HOD.out.end HOD.out.bel hlI hlK).mono fun _ _ h => h.two HOD.out.bel).mono ?_
     rintro e Y ⟨uy, rfl, hend, hbel, hkt⟩
     obtain ⟨XF, hst, hvar, hbvr, hbx, _, _⟩ := brEnd_store hend (hkt _ _ HZD.out) rfl hbel (Nat.le_add_right _ _)
     have HEND := hid (show BrEnd w RR uy XF by rw [HRX.out]; exact hbvr.end hvar)
     have HVX := hid hvar
     have HBX := hid hbx
     clear hend hbel hkt hvar hbvr hbx hld y0 y1 ly
     go_wp2
     obtain ⟨m', i', k', e, bb, _⟩ := HVX.out
     refine bodyPost_ret (results_cell_row rfl _ _ (w.heap.size + 2) 30 _ _ _ rfl bb brain_under rfl (brain_size (brT_bc _ _ _ _ _))) rfl ?_
     rw [← e]
     exact ⟨_, rfl, HEND.out, HBX.out⟩
    ·obtain rfl : B = RR := by rw [← HRR.out]; exact (not_len (by decide) (n := 3) rfl hL).symm
     have dn : ((3 : Int) != (L.length : Int)) = true := by rw [bne_iff_ne]; omega
     have HMY := hid (rmany_same 4 3 rfl)
     have HLN := hid hL
     clear hL
     go_quiet ((go_at_call 34; exact Calls.quiet_of_same (HMY.out _)))
     obtain ⟨D, hD⟩ : ∃ D : World, D = X.drewN nq := ⟨_, rfl⟩
     have hbD : Below X.heap.size X D := by rw [hD]; exact below_drewN (Below.refl _ _) _
     rw [← hD]
     have HOD := hid (HO.out.below hbD)
     have HRD := hid (blk_below HR.out hbD (blk_lt HR.out))
     have HZD := hid (blk_below HZ.out hbD (blk_lt HZ.out))
     have HSD := hid (HSX.out.below hbD)
     have y0 : D.cell? ⟨w.heap.size + 1, 0, none⟩ = some (.int .u8 4) := blk_cell HRD.out 0
     have y1 : D.cell? ⟨w.heap.size + 1, 1, none⟩ = some (.slice sa L.length sc) := blk_cell HRD.out 1
     have ly := blk_lt HRD.out
     clear hD hbD x0 x1 lx dn
     go_upto_region 13 with (fail)
     obtain ⟨hld, XF, m', i', k', hst, bb, hend⟩ := ap_end (HOD.out) (HZD.out)
     have HBB := hid bb
     have HEND := hid hend
     clear bb hend y0 y1 ly
     go_wp2
     refine bodyPost_ret (results_cell_row rfl _ _ (w.heap.size + 2) 30 _ _ _ rfl HBB.out brain_under rfl (brain_size (brT_bc _ _ _ _ _))) rfl ?_
     exact HEND.out
   by_cases h5 : k = 5
   ·subst h5
    by_cases hL : L.length = 1
    ·have HRX := hid (show RR = activeB B (failB B) by rw [← HRR.out]; exact applyB_of B 5 L 1 _ HQ.out (by decide) rfl hL)
     have HS0 := hid HS.out
     have dn : ((1 : Int) != (L.length : Int)) = false := by rw [hL]; rfl
     have HMY := hid (rmany_same 5 1 rfl)
     have HLN := hid hL
     clear hL
     go_quiet ((go_at_call 34; exact Calls.quiet_of_same (HMY.out _)))
     obtain ⟨D, hD⟩ : ∃ D : World, D = X.drewN nq := ⟨_, rfl⟩
     have hbD : Below X.heap.size X D := by rw [hD]; exact below_drewN (Below.refl _ _) _
     rw [← hD]
     have HOD := hid (HO.out.below hbD)
     have HRD := hid (blk_below HR.out hbD (blk_lt HR.out))
     have HZD := hid (blk_below HZ.out hbD (blk_lt HZ.out))
     have HSD := hid (HSX.out.below hbD)
     have y0 : D.cell? ⟨w.heap.size + 1, 0, none⟩ = some (.int .u8 5) := blk_cell HRD.out 0
     have y1 : D.cell? ⟨w.heap.size + 1, 1, none⟩ = some (.slice sa L.length sc) := blk_cell HRD.out 1
     have ly := blk_lt HRD.out
     clear hD hbD x0 x1 lx dn
     have hld := HOD.out.load
     go_wp2_with fail
     rw [HRX.out]
     refine ((rfail_any _ HOD.out.end HOD.out.bel).mono fun _ _ h => h.two HOD.out.bel).mono ?_
     rintro e Y ⟨uy, rfl, hend, hbel, hkt⟩
     obtain ⟨XF, hst, hvar, hbvr, hbx, _, _⟩ := brEnd_store hend (hkt _ _ HZD.out) rfl hbel (Nat.le_add_right _ _)
     have HEND := hid (show BrEnd w RR uy XF by rw [HRX.out]; exact hbvr.end hvar)
     have HVX := hid hvar
     have HBX := hid hbx
     clear hend hbel hkt hvar hbvr hbx hld y0 y1 ly
     go_wp2
     obtain ⟨m', i', k', e, bb, _⟩ := HVX.out
     refine bodyPost_ret (results_cell_row rfl _ _ (w.heap.size + 2) 30 _ _ _ rfl bb brain_under rfl (brain_size (brT_bc _ _ _ _ _))) rfl ?_
     rw [← e]
     exact ⟨_, rfl, HEND.out, HBX.out⟩
    ·obtain rfl : B = RR := by rw [← HRR.out]; exact (not_len (by decide) (n := 1) rfl hL).symm
     have dn : ((1 : Int) != (L.length : Int)) = true := by rw [bne_iff_ne]; omega
     have HMY := hid (rmany_same 5 1 rfl)
     have HLN := hid hL
     clear hL
     go_quiet ((go_at_call 34; exact Calls.quiet_of_same (HMY.out _)))
     obtain ⟨D, hD⟩ : ∃ D : World, D = X.drewN nq := ⟨_, rfl⟩
     have hbD : Below X.heap.size X D := by rw [hD]; exact below_drewN (Below.refl _ _) _
     rw [← hD]
     have HOD := hid (HO.out.below hbD)
     have HRD := hid (blk_below HR.out hbD (blk_lt HR.out))
     have HZD := hid (blk_below HZ.out hbD (blk_lt HZ.out))
     have HSD := hid (HSX.out.below hbD)
     have y0 : D.cell? ⟨w.heap.size + 1, 0, none⟩ = some (.int .u8 5) := blk_cell HRD.out 0
     have y1 : D.cell? ⟨w.heap.size + 1, 1, none⟩ = some (.slice sa L.length sc) := blk_cell HRD.out 1
     have ly := blk_lt HRD.out
     clear hD hbD x0 x1 lx dn
     go_upto_region 13 with (fail)
     obtain ⟨hld, XF, m', i', k', hst, bb, hend⟩ := ap_end (HOD.out) (HZD.out)
     have HBB := hid bb
     have HEND := hid hend
     clear bb hend y0 y1 ly
     go_wp2
     refine bodyPost_ret (results_cell_row rfl _ _ (w.heap.size + 2) 30 _ _ _ rfl HBB.out brain_under rfl (brain_size (brT_bc _ _ _ _ _))) rfl ?_
     exact HEND.out
   by_cases h6 : k = 6
   ·subst h6
    by_cases hL : L.length = 3
    ·have HRX := hid (show RR = keptB B (fun i x => phaseB B i x (L.getD 1 0) (L.getD 2 0)) (L.getD 0 0) by rw [← HRR.out]; exact applyB_of B 6 L 3 _ HQ.out (by decide) rfl hL)
     have HS0 := hid HS.out
     have dn : ((3 : Int) != (L.length : Int)) = false := by rw [hL]; rfl
     have HMY := hid (rmany_same 6 3 rfl)
     have HLN := hid hL
     clear hL
     go_quiet ((go_at_call 34; exact Calls.quiet_of_same (HMY.out _)))
     obtain ⟨D, hD⟩ : ∃ D : World, D = X.drewN nq := ⟨_, rfl⟩
     have hbD : Below X.heap.size X D := by rw [hD]; exact below_drewN (Below.refl _ _) _
     rw [← hD]
     have HOD := hid (HO.out.below hbD)
     have HRD := hid (blk_below HR.out hbD (blk_lt HR.out))
     have HZD := hid (blk_below HZ.out hbD (blk_lt HZ.out))
     have HSD := hid (HSX.out.below hbD)
     have y0 : D.cell? ⟨w.heap.size + 1, 0, none⟩ = some (.int .u8 6) := blk_cell HRD.out 0
     have y1 : D.cell? ⟨w.heap.size + 1, 1, none⟩ = some (.slice sa L.length sc) := blk_cell HRD.out 1
     have ly := blk_lt HRD.out
     clear hD hbD x0 x1 lx dn
     have hld := HOD.out.load
     go_wp2_with fail
     rw [HRX.out]
     refine (rphase_any _ L HS0.out HLN.out HBAD.out HPH.out HOD.out.end HOD.out.bel hlK).mono ?_
     rintro e Y ⟨uy, rfl, hend, hbel, hkt⟩
     obtain ⟨XF, hst, hvar, hbvr, hbx, _, _⟩ := brEnd_store hend (hkt _ _ HZD.out) rfl hbel (Nat.le_add_right _ _)
     have HEND := hid (show BrEnd w RR uy XF by rw [HRX.out]; exact hbvr.end hvar)
     have HVX := hid hvar
     have HBX := hid hbx
     clear hend hbel hkt hvar hbvr hbx hld y0 y1 ly
     go_wp2
     obtain ⟨m', i', k', e, bb, _⟩ := HVX.out
     refine bodyPost_ret (results_cell_row rfl _ _ (w.heap.size + 2) 30 _ _ _ rfl bb brain_under rfl (brain_size (brT_bc _ _ _ _ _))) rfl ?_
     rw [← e]
     exact ⟨_, rfl, HEND.out, HBX.out⟩
    ·obtain rfl : B = RR := by rw [← HRR.out]; exact (not_len (by decide) (n := 3) rfl hL).symm
     have dn : ((3 : Int) != (L.length : Int)) = true := by rw [bne_iff_ne]; omega
     have HMY := hid (rmany_same 6 3 rfl)
     have HLN := hid hL
     clear hL
     go_quiet ((go_at_call 34; exact Calls.quiet_of_same (HMY.out _)))
     obtain ⟨D, hD⟩ : ∃ D : World, D = X.drewN nq := ⟨_, rfl⟩
     have hbD : Below X.heap.size X D := by rw [hD]; exact below_drewN (Below.refl _ _) _
     rw [← hD]
     have HOD := hid (HO.out.below hbD)
     have HRD := hid (blk_below HR.out hbD (blk_lt HR.out))
     have HZD := hid (blk_below HZ.out hbD (blk_lt HZ.out))
     have HSD := hid (HSX.out.below hbD)
     have y0 : D.cell? ⟨w.heap.size + 1, 0, none⟩ = some (.int .u8 6) := blk_cell HRD.out 0
     have y1 : D.cell? ⟨w.heap.size + 1, 1, none⟩ = some (.slice sa L.length sc) := blk_cell HRD.out 1
     have ly := blk_lt HRD.out
     clear hD hbD x0 x1 lx dn
     go_upto_region 13 with (fail)
     obtain ⟨hld, XF, m', i', k', hst, bb, hend⟩ := ap_end (HOD.out) (HZD.out)
     have HBB := hid bb
     have HEND := hid hend
     clear bb hend y0 y1 ly
     go_wp2
     refine bodyPost_ret (results_cell_row rfl _ _ (w.heap.size + 2) 30 _ _ _ rfl HBB.out brain_under rfl (brain_size (brT_bc _ _ _ _ _))) rfl ?_
     exact HEND.out
   by_cases h7 : k = 7
   ·subst h7
    by_cases hL : L.length = 1
    ·have HRX := hid (show RR = keptB B (fun i _ => goneAt B i) (L.getD 0 0) by rw [← HRR.out]; exact applyB_of B 7 L 1 _ HQ.out (by decide) rfl hL)
     have HS0 := hid HS.out
     have dn : ((1 : Int) != (L.length : Int)) = false := by rw [hL]; rfl
     have HMY := hid (rmany_same 7 1 rfl)
     have HLN := hid hL
     clear hL
     go_quiet ((go_at_call 34; exact Calls.quiet_of_same (HMY.out _)))
     obtain ⟨D, hD⟩ : ∃ D : World, D = X.drewN nq := ⟨_, rfl⟩
     have hbD : Below X.heap.size X D := by rw [hD]; exact below_drewN (Below.refl _ _) _
     rw [← hD]
     have HOD := hid (HO.out.below hbD)
     have HRD := hid (blk_below HR.out hbD (blk_lt HR.out))
     have HZD := hid (blk_below HZ.out hbD (blk_lt HZ.out))
     have HSD := hid (HSX.out.below hbD)
     have y0 : D.cell? ⟨w.heap.size + 1, 0, none⟩ = some (.int .u8 7) := blk_cell HRD.out 0
     have y1 : D.cell? ⟨w.heap.size + 1, 1, none⟩ = some (.slice sa L.length sc) := blk_cell HRD.out 1
     have ly := blk_lt HRD.out
     clear hD hbD x0 x1 lx dn
     have hld := HOD.out.load
     go_wp2_with fail
     rw [HRX.out]
     refine ((rgone_any _ L HS0.out HLN.out HOD.out.end HOD.out.bel hlK).mono fun _ _ h => h.two HOD.out.bel).mono ?_
     rintro e Y ⟨uy, rfl, hend, hbel, hkt⟩
     obtain ⟨XF, hst, hvar, hbvr, hbx, _, _⟩ := brEnd_store hend (hkt _ _ HZD.out) rfl hbel (Nat.le_add_right _ _)
     have HEND := hid (show BrEnd w RR uy XF by rw [HRX.out]; exact hbvr.end hvar)
     have HVX := hid hvar
     have HBX := hid hbx
     clear hend hbel hkt hvar hbvr hbx hld y0 y1 ly
     go_wp2
     obtain ⟨m', i', k', e, bb, _⟩ := HVX.out
     refine bodyPost_ret (results_cell_row rfl _ _ (w.heap.size + 2) 30 _ _ _ rfl bb brain_under rfl (brain_size (brT_bc _ _ _ _ _))) rfl ?_
     rw [← e]
     exact ⟨_, rfl, HEND.out, HBX.out⟩
    ·obtain rfl : B = RR := by rw [← HRR.out]; exact (not_len (by decide) (n := 1) rfl hL).symm
     have dn : ((1 : Int) != (L.length : Int)) = true := by rw [bne_iff_ne]; omega
     have HMY := hid (rmany_same 7 1 rfl)
     have HLN := hid hL
     clear hL
     go_quiet ((go_at_call 34; exact Calls.quiet_of_same (HMY.out _)))
     obtain ⟨D, hD⟩ : ∃ D : World, D = X.drewN nq := ⟨_, rfl⟩
     have hbD : Below X.heap.size X D := by rw [hD]; exact below_drewN (Below.refl _ _) _
     rw [← hD]
     have HOD := hid (HO.out.below hbD)
     have HRD := hid (blk_below HR.out hbD (blk_lt HR.out))
     have HZD := hid (blk_below HZ.out hbD (blk_lt HZ.out))
     have HSD := hid (HSX.out.below hbD)
     have y0 : D.cell? ⟨w.heap.size + 1, 0, none⟩ = some (.int .u8 7) := blk_cell HRD.out 0
     have y1 : D.cell? ⟨w.heap.size + 1, 1, none⟩ = some (.slice sa L.length sc) := blk_cell HRD.out 1
     have ly := blk_lt HRD.out
     clear hD hbD x0 x1 lx dn
     go_upto_region 13 with (fail)
     obtain ⟨hld, XF, m', i', k', hst, bb, hend⟩ := ap_end (HOD.out) (HZD.out)
     have HBB := hid bb
     have HEND := hid hend
     clear bb hend y0 y1 ly
     go_wp2
     refine bodyPost_ret (results_cell_row rfl _ _ (w.heap.size + 2) 30 _ _ _ rfl HBB.out brain_under rfl (brain_size (brT_bc _ _ _ _ _))) rfl ?_
     exact HEND.out
   by_cases h8 : k = 8
   ·subst h8
    by_cases hL : L.length = 5
    ·have HRX := hid (show RR = takeB B L by rw [← HRR.out]; exact applyB_of B 8 L 5 _ HQ.out (by decide) rfl hL)
     have HS0 := hid HS.out
     have dn : ((5 : Int) != (L.length : Int)) = false := by rw [hL]; rfl
     have HMY := hid (rmany_same 8 5 rfl)
     have HLN := hid hL
     clear hL
     go_quiet ((go_at_call 34; exact Calls.quiet_of_same (HMY.out _)))
     obtain ⟨D, hD⟩ : ∃ D : World, D = X.drewN nq := ⟨_, rfl⟩
     have hbD : Below X.heap.size X D := by rw [hD]; exact below_drewN (Below.refl _ _) _
     rw [← hD]
     have HOD := hid (HO.out.below hbD)
     have HRD := hid (blk_below HR.out hbD (blk_lt HR.out))
     have HZD := hid (blk_below HZ.out hbD (blk_lt HZ.out))
     have HSD := hid (HSX.out.below hbD)
     have y0 : D.cell? ⟨w.heap.size + 1, 0, none⟩ = some (.int .u8 8) := blk_cell HRD.out 0
     have y1 : D.cell? ⟨w.heap.size + 1, 1, none⟩ = some (.slice sa L.length sc) := blk_cell HRD.out 1
     have ly := blk_lt HRD.out
     clear hD hbD x0 x1 lx dn
     have hld := HOD.out.load
     go_wp2_with fail
     rw [HRX.out]
     refine ((rtake_any _ L HS0.out HLN.out HOD.out.end HOD.out.bel hlK).mono fun _ _ h => h.two HOD.out.bel).mono ?_
     rintro e Y ⟨uy, rfl, hend, hbel, hkt⟩
     obtain ⟨XF, hst, hvar, hbvr, hbx, _, _⟩ := brEnd_store hend (hkt _ _ HZD.out) rfl hbel (Nat.le_add_right _ _)
     have HEND := hid (show BrEnd w RR uy XF by rw [HRX.out]; exact hbvr.end hvar)
     have HVX := hid hvar
     have HBX := hid hbx
     clear hend hbel hkt hvar hbvr hbx hld y0 y1 ly
     go_wp2
     obtain ⟨m', i', k', e, bb, _⟩ := HVX.out
     refine bodyPost_ret (results_cell_row rfl _ _ (w.heap.size + 2) 30 _ _ _ rfl bb brain_under rfl (brain_size (brT_bc _ _ _ _ _))) rfl ?_
     rw [← e]
     exact ⟨_, rfl, HEND.out, HBX.out⟩
    ·obtain rfl : B = RR := by rw [← HRR.out]; exact (not_len (by decide) (n := 5) rfl hL).symm
     have dn : ((5 : Int) != (L.length : Int)) = true := by rw [bne_iff_ne]; omega
     have HMY := hid (rmany_same 8 5 rfl)
     have HLN := hid hL
     clear hL
     go_quiet ((go_at_call 34; exact Calls.quiet_of_same (HMY.out _)))
     obtain ⟨D, hD⟩ : ∃ D : World, D = X.drewN nq := ⟨_, rfl⟩
     have hbD : Below X.heap.size X D := by rw [hD]; exact below_drewN (Below.refl _ _) _
     rw [← hD]
     have HOD := hid (HO.out.below hbD)
     have HRD := hid (blk_below HR.out hbD (blk_lt HR.out))
     have HZD := hid (blk_below HZ.out hbD (blk_lt HZ.out))
     have HSD := hid (HSX.out.below hbD)
     have y0 : D.cell? ⟨w.heap.size + 1, 0, none⟩ = some (.int .u8 8) := blk_cell HRD.out 0
     have y1 : D.cell? ⟨w.heap.size + 1, 1, none⟩ = some (.slice sa L.length sc) := blk_cell HRD.out 1
     have ly := blk_lt HRD.out
     clear hD hbD x0 x1 lx dn
     go_upto_region 13 with (fail)
     obtain ⟨hld, XF, m', i', k', hst, bb, hend⟩ := ap_end (HOD.out) (HZD.out)
     have HBB := hid bb
     have HEND := hid hend
     clear bb hend y0 y1 ly
     go_wp2
     refine bodyPost_ret (results_cell_row rfl _ _ (w.heap.size + 2) 30 _ _ _ rfl HBB.out brain_under rfl (brain_size (brT_bc _ _ _ _ _))) rfl ?_
     exact HEND.out
   by_cases h9 : k = 9
   ·subst h9
    by_cases hL : L.length = 2
    ·have HRX := hid (show RR = keptB B (fun i x => guardB B i x (L.getD 1 0)) (L.getD 0 0) by rw [← HRR.out]; exact applyB_of B 9 L 2 _ HQ.out (by decide) rfl hL)
     have HS0 := hid HS.out
     have dn : ((2 : Int) != (L.length : Int)) = false := by rw [hL]; rfl
     have HMY := hid (rmany_same 9 2 rfl)
     have HLN := hid hL
     clear hL
     go_quiet ((go_at_call 34; exact Calls.quiet_of_same (HMY.out _)))
     obtain ⟨D, hD⟩ : ∃ D : World, D = X.drewN nq := ⟨_, rfl⟩
     have hbD : Below X.heap.size X D := by rw [hD]; exact below_drewN (Below.refl _ _) _
     rw [← hD]
     have HOD := hid (HO.out.below hbD)
     have HRD := hid (blk_below HR.out hbD (blk_lt HR.out))
     have HZD := hid (blk_below HZ.out hbD (blk_lt HZ.out))
     have HSD := hid (HSX.out.below hbD)
     have y0 : D.cell? ⟨w.heap.size + 1, 0, none⟩ = some (.int .u8 9) := blk_cell HRD.out 0
     have y1 : D.cell? ⟨w.heap.size + 1, 1, none⟩ = some (.slice sa L.length sc) := blk_cell HRD.out 1
     have ly := blk_lt HRD.out
     clear hD hbD x0 x1 lx dn
     have hld := HOD.out.load
     go_wp2_with fail
     rw [HRX.out]
     refine (rguard_any _ L HS0.out HLN.out HOD.out.end HOD.out.bel hlK).mono ?_
     rintro e Y ⟨uy, rfl, hend, hbel, hkt⟩
     obtain ⟨XF, hst, hvar, hbvr, hbx, _, _⟩ := brEnd_store hend (hkt _ _ HZD.out) rfl hbel (Nat.le_add_right _ _)
     have HEND := hid (show BrEnd w RR uy XF by rw [HRX.out]; exact hbvr.end hvar)
     have HVX := hid hvar
     have HBX := hid hbx
     clear hend hbel hkt hvar hbvr hbx hld y0 y1 ly
     go_wp2
     obtain ⟨m', i', k', e, bb, _⟩ := HVX.out
     refine bodyPost_ret (results_cell_row rfl _ _ (w.heap.size + 2) 30 _ _ _ rfl bb brain_under rfl (brain_size (brT_bc _ _ _ _ _))) rfl ?_
     rw [← e]
     exact ⟨_, rfl, HEND.out, HBX.out⟩
    ·obtain rfl : B = RR := by rw [← HRR.out]; exact (not_len (by decide) (n := 2) rfl hL).symm
     have dn : ((2 : Int) != (L.length : Int)) = true := by rw [bne_iff_ne]; omega
     have HMY := hid (rmany_same 9 2 rfl)
     have HLN := hid hL
     clear hL
     go_quiet ((go_at_call 34; exact Calls.quiet_of_same (HMY.out _)))
     obtain ⟨D, hD⟩ : ∃ D : World, D = X.drewN nq := ⟨_, rfl⟩
     have hbD : Below X.heap.size X D := by rw [hD]; exact below_drewN (Below.refl _ _) _
     rw [← hD]
     have HOD := hid (HO.out.below hbD)
     have HRD := hid (blk_below HR.out hbD (blk_lt HR.out))
     have HZD := hid (blk_below HZ.out hbD (blk_lt HZ.out))
     have HSD := hid (HSX.out.below hbD)
     have y0 : D.cell? ⟨w.heap.size + 1, 0, none⟩ = some (.int .u8 9) := blk_cell HRD.out 0
     have y1 : D.cell? ⟨w.heap.size + 1, 1, none⟩ = some (.slice sa L.length sc) := blk_cell HRD.out 1
     have ly := blk_lt HRD.out
     clear hD hbD x0 x1 lx dn
     go_upto_region 13 with (fail)
     obtain ⟨hld, XF, m', i', k', hst, bb, hend⟩ := ap_end (HOD.out) (HZD.out)
     have HBB := hid bb
     have HEND := hid hend
     clear bb hend y0 y1 ly
     go_wp2
     refine bodyPost_ret (results_cell_row rfl _ _ (w.heap.size + 2) 30 _ _ _ rfl HBB.out brain_under rfl (brain_size (brT_bc _ _ _ _ _))) rfl ?_
     exact HEND.out
   by_cases h10 : k = 10
   ·subst h10
    by_cases hL : L.length = 1
    ·have HRX := hid (show RR = keptB B (fun i x => completeB B i x) (L.getD 0 0) by rw [← HRR.out]; exact applyB_of B 10 L 1 _ HQ.out (by decide) rfl hL)
     have HS0 := hid HS.out
     have dn : ((1 : Int) != (L.length : Int)) = false := by rw [hL]; rfl
     have HMY := hid (rmany_same 10 1 rfl)
     have HLN := hid hL
     clear hL
     go_quiet ((go_at_call 34; exact Calls.quiet_of_same (HMY.out _)))
     obtain ⟨D, hD⟩ : ∃ D : World, D = X.drewN nq := ⟨_, rfl⟩
     have hbD : Below X.heap.size X D := by rw [hD]; exact below_drewN (Below.refl _ _) _
     rw [← hD]
     have HOD := hid (HO.out.below hbD)
     have HRD := hid (blk_below HR.out hbD (blk_lt HR.out))
     have HZD := hid (blk_below HZ.out hbD (blk_lt HZ.out))
     have HSD := hid (HSX.out.below hbD)
     have y0 : D.cell? ⟨w.heap.size + 1, 0, none⟩ = some (.int .u8 10) := blk_cell HRD.out 0
     have y1 : D.cell? ⟨w.heap.size + 1, 1, none⟩ = some (.slice sa L.length sc) := blk_cell HRD.out 1
     have ly := blk_lt HRD.out
     clear hD hbD x0 x1 lx dn
     have hld := HOD.out.load
     go_wp2_with fail
     rw [HRX.out]
     refine (rcomplete_any _ L HS0.out HLN.out HOD.out.end HOD.out.bel hlK).mono ?_
     rintro e Y ⟨uy, rfl, hend, hbel, hkt⟩
     obtain ⟨XF, hst, hvar, hbvr, hbx, _, _⟩ := brEnd_store hend (hkt _ _ HZD.out) rfl hbel (Nat.le_add_right _ _)
     have HEND := hid (show BrEnd w RR uy XF by rw [HRX.out]; exact hbvr.end hvar)
     have HVX := hid hvar
     have HBX := hid hbx
     clear hend hbel hkt hvar hbvr hbx hld y0 y1 ly
     go_wp2
     obtain ⟨m', i', k', e, bb, _⟩ := HVX.out
     refine bodyPost_ret (results_cell_row rfl _ _ (w.heap.size + 2) 30 _ _ _ rfl bb brain_under rfl (brain_size (brT_bc _ _ _ _ _))) rfl ?_
     rw [← e]
     exact ⟨_, rfl, HEND.out, HBX.out⟩
    ·obtain rfl : B = RR := by rw [← HRR.out]; exact (not_len (by decide) (n := 1) rfl hL).symm
     have dn : ((1 : Int) != (L.length : Int)) = true := by rw [bne_iff_ne]; omega
     have HMY := hid (rmany_same 10 1 rfl)
     have HLN := hid hL
     clear hL
     go_quiet ((go_at_call 34; exact Calls.quiet_of_same (HMY.out _)))
     obtain ⟨D, hD⟩ : ∃ D : World, D = X.drewN nq := ⟨_, rfl⟩
     have hbD : Below X.heap.size X D := by rw [hD]; exact below_drewN (Below.refl _ _) _
     rw [← hD]
     have HOD := hid (HO.out.below hbD)
     have HRD := hid (blk_below HR.out hbD (blk_lt HR.out))
     have HZD := hid (blk_below HZ.out hbD (blk_lt HZ.out))
     have HSD := hid (HSX.out.below hbD)
     have y0 : D.cell? ⟨w.heap.size + 1, 0, none⟩ = some (.int .u8 10) := blk_cell HRD.out 0
     have y1 : D.cell? ⟨w.heap.size + 1, 1, none⟩ = some (.slice sa L.length sc) := blk_cell HRD.out 1
     have ly := blk_lt HRD.out
     clear hD hbD x0 x1 lx dn
     go_upto_region 13 with (fail)
     obtain ⟨hld, XF, m', i', k', hst, bb, hend⟩ := ap_end (HOD.out) (HZD.out)
     have HBB := hid bb
     have HEND := hid hend
     clear bb hend y0 y1 ly
     go_wp2
     refine bodyPost_ret (results_cell_row rfl _ _ (w.heap.size + 2) 30 _ _ _ rfl HBB.out brain_under rfl (brain_size (brT_bc _ _ _ _ _))) rfl ?_
     exact HEND.out
   by_cases h11 : k = 11
   ·subst h11
    by_cases hL : L.length = 2
    ·have HRX := hid (show RR = startB B (L.getD 0 0) (L.getD 1 0) by rw [← HRR.out]; exact applyB_of B 11 L 2 _ HQ.out (by decide) rfl hL)
     have HS0 := hid HS.out
     have dn : ((2 : Int) != (L.length : Int)) = false := by rw [hL]; rfl
     have HMY := hid (rmany_same 11 2 rfl)
     have HLN := hid hL
     clear hL
     go_quiet ((go_at_call 34; exact Calls.quiet_of_same (HMY.out _)))
     obtain ⟨D, hD⟩ : ∃ D : World, D = X.drewN nq := ⟨_, rfl⟩
     have hbD : Below X.heap.size X D := by rw [hD]; exact below_drewN (Below.refl _ _) _
     rw [← hD]
     have HOD := hid (HO.out.below hbD)
     have HRD := hid (blk_below HR.out hbD (blk_lt HR.out))
     have HZD := hid (blk_below HZ.out hbD (blk_lt HZ.out))
     have HSD := hid (HSX.out.below hbD)
     have y0 : D.cell? ⟨w.heap.size + 1, 0, none⟩ = some (.int .u8 11) := blk_cell HRD.out 0
     have y1 : D.cell? ⟨w.heap.size + 1, 1, none⟩ = some (.slice sa L.length sc) := blk_cell HRD.out 1
     have ly := blk_lt HRD.out
     clear hD hbD x0 x1 lx dn
     have hld := HOD.out.load
     go_wp2_with fail
     rw [HRX.out]
     refine ((rstart_any _ L HS0.out HLN.out HOD.out.end HOD.out.bel).mono fun _ _ h => h.two HOD.out.bel).mono ?_
     rintro e Y ⟨uy, rfl, hend, hbel, hkt⟩
     obtain ⟨XF, hst, hvar, hbvr, hbx, _, _⟩ := brEnd_store hend (hkt _ _ HZD.out) rfl hbel (Nat.le_add_right _ _)
     have HEND := hid (show BrEnd w RR uy XF by rw [HRX.out]; exact hbvr.end hvar)
     have HVX := hid hvar
     have HBX := hid hbx
     clear hend hbel hkt hvar hbvr hbx hld y0 y1 ly
     go_wp2
     obtain ⟨m', i', k', e, bb, _⟩ := HVX.out
     refine bodyPost_ret (results_cell_row rfl _ _ (w.heap.size + 2) 30 _ _ _ rfl bb brain_under rfl (brain_size (brT_bc _ _ _ _ _))) rfl ?_
     rw [← e]
     exact ⟨_, rfl, HEND.out, HBX.out⟩
    ·obtain rfl : B = RR := by rw [← HRR.out]; exact (not_len (by decide) (n := 2) rfl hL).symm
     have dn : ((2 : Int) != (L.length : Int)) = true := by rw [bne_iff_ne]; omega
     have HMY := hid (rmany_same 11 2 rfl)
     have HLN := hid hL
     clear hL
     go_quiet ((go_at_call 34; exact Calls.quiet_of_same (HMY.out _)))
     obtain ⟨D, hD⟩ : ∃ D : World, D = X.drewN nq := ⟨_, rfl⟩
     have hbD : Below X.heap.size X D := by rw [hD]; exact below_drewN (Below.refl _ _) _
     rw [← hD]
     have HOD := hid (HO.out.below hbD)
     have HRD := hid (blk_below HR.out hbD (blk_lt HR.out))
     have HZD := hid (blk_below HZ.out hbD (blk_lt HZ.out))
     have HSD := hid (HSX.out.below hbD)
     have y0 : D.cell? ⟨w.heap.size + 1, 0, none⟩ = some (.int .u8 11) := blk_cell HRD.out 0
     have y1 : D.cell? ⟨w.heap.size + 1, 1, none⟩ = some (.slice sa L.length sc) := blk_cell HRD.out 1
     have ly := blk_lt HRD.out
     clear hD hbD x0 x1 lx dn
     go_upto_region 13 with (fail)
     obtain ⟨hld, XF, m', i', k', hst, bb, hend⟩ := ap_end (HOD.out) (HZD.out)
     have HBB := hid bb
     have HEND := hid hend
     clear bb hend y0 y1 ly
     go_wp2
     refine bodyPost_ret (results_cell_row rfl _ _ (w.heap.size + 2) 30 _ _ _ rfl HBB.out brain_under rfl (brain_size (brT_bc _ _ _ _ _))) rfl ?_
     exact HEND.out
   by_cases h12 : k = 12
   ·subst h12
    by_cases hL : L.length = 0
    ·have HRX := hid (show RR = activeB B (cancelB B) by rw [← HRR.out]; exact applyB_of B 12 L 0 _ HQ.out (by decide) rfl hL)
     have HS0 := hid HS.out
     have dn : ((0 : Int) != (L.length : Int)) = false := by rw [hL]; rfl
     have HMY := hid (rmany_same 12 0 rfl)
     have HLN := hid hL
     clear hL
     go_quiet ((go_at_call 34; exact Calls.quiet_of_same (HMY.out _)))
     obtain ⟨D, hD⟩ : ∃ D : World, D = X.drewN nq := ⟨_, rfl⟩
     have hbD : Below X.heap.size X D := by rw [hD]; exact below_drewN (Below.refl _ _) _
     rw [← hD]
     have HOD := hid (HO.out.below hbD)
     have HRD := hid (blk_below HR.out hbD (blk_lt HR.out))
     have HZD := hid (blk_below HZ.out hbD (blk_lt HZ.out))
     have HSD := hid (HSX.out.below hbD)
     have y0 : D.cell? ⟨w.heap.size + 1, 0, none⟩ = some (.int .u8 12) := blk_cell HRD.out 0
     have y1 : D.cell? ⟨w.heap.size + 1, 1, none⟩ = some (.slice sa L.length sc) := blk_cell HRD.out 1
     have ly := blk_lt HRD.out
     clear hD hbD x0 x1 lx dn
     have hld := HOD.out.load
     go_wp2_with fail
     rw [HRX.out]
     refine ((rcancel_any _ HOD.out.end HOD.out.bel).mono fun _ _ h => h.two HOD.out.bel).mono ?_
     rintro e Y ⟨uy, rfl, hend, hbel, hkt⟩
     obtain ⟨XF, hst, hvar, hbvr, hbx, _, _⟩ := brEnd_store hend (hkt _ _ HZD.out) rfl hbel (Nat.le_add_right _ _)
     have HEND := hid (show BrEnd w RR uy XF by rw [HRX.out]; exact hbvr.end hvar)
     have HVX := hid hvar
     have HBX := hid hbx
     clear hend hbel hkt hvar hbvr hbx hld y0 y1 ly
     go_wp2
     obtain ⟨m', i', k', e, bb, _⟩ := HVX.out
     refine bodyPost_ret (results_cell_row rfl _ _ (w.heap.size + 2) 30 _ _ _ rfl bb brain_under rfl (brain_size (brT_bc _ _ _ _ _))) rfl ?_
     rw [← e]
     exact ⟨_, rfl, HEND.out, HBX.out⟩
    ·obtain rfl : B = RR := by rw [← HRR.out]; exact (not_len (by decide) (n := 0) rfl hL).symm
     have dn : ((0 : Int) != (L.length : Int)) = true := by rw [bne_iff_ne]; omega
     have HMY := hid (rmany_same 12 0 rfl)
     have HLN := hid hL
     clear hL
     go_quiet ((go_at_call 34; exact Calls.quiet_of_same (HMY.out _)))
     obtain ⟨D, hD⟩ : ∃ D : World, D = X.drewN nq := ⟨_, rfl⟩
     have hbD : Below X.heap.size X D := by rw [hD]; exact below_drewN (Below.refl _ _) _
     rw [← hD]
     have HOD := hid (HO.out.below hbD)
     have HRD := hid (blk_below HR.out hbD (blk_lt HR.out))
     have HZD := hid (blk_below HZ.out hbD (blk_lt HZ.out))
     have HSD := hid (HSX.out.below hbD)
     have y0 : D.cell? ⟨w.heap.size + 1, 0, none⟩ = some (.int .u8 12) := blk_cell HRD.out 0
     have y1 : D.cell? ⟨w.heap.size + 1, 1, none⟩ = some (.slice sa L.length sc) := blk_cell HRD.out 1
     have ly := blk_lt HRD.out
     clear hD hbD x0 x1 lx dn
     go_upto_region 13 with (fail)
     obtain ⟨hld, XF, m', i', k', hst, bb, hend⟩ := ap_end (HOD.out) (HZD.out)
     have HBB := hid bb
     have HEND := hid hend
     clear bb hend y0 y1 ly
     go_wp2
     refine bodyPost_ret (results_cell_row rfl _ _ (w.heap.size + 2) 30 _ _ _ rfl HBB.out brain_under rfl (brain_size (brT_bc _ _ _ _ _))) rfl ?_
     exact HEND.out
   by_cases h13 : k = 13
   ·subst h13
    by_cases hL : L.length = 0
    ·have HRX := hid (show RR = activeB B (rollB B) by rw [← HRR.out]; exact applyB_of B 13 L 0 _ HQ.out (by decide) rfl hL)
     have HS0 := hid HS.out
     have dn : ((0 : Int) != (L.length : Int)) = false := by rw [hL]; rfl
     have HMY := hid (rmany_same 13 0 rfl)
     have HLN := hid hL
     clear hL
     go_quiet ((go_at_call 34; exact Calls.quiet_of_same (HMY.out _)))
     obtain ⟨D, hD⟩ : ∃ D : World, D = X.drewN nq := ⟨_, rfl⟩
     have hbD : Below X.heap.size X D := by rw [hD]; exact below_drewN (Below.refl _ _) _
     rw [← hD]
     have HOD := hid (HO.out.below hbD)
     have HRD := hid (blk_below HR.out hbD (blk_lt HR.out))
     have HZD := hid (blk_below HZ.out hbD (blk_lt HZ.out))
     have HSD := hid (HSX.out.below hbD)
     have y0 : D.cell? ⟨w.heap.size + 1, 0, none⟩ = some (.int .u8 13) := blk_cell HRD.out 0
     have y1 : D.cell? ⟨w.heap.size + 1, 1, none⟩ = some (.slice sa L.length sc) := blk_cell HRD.out 1
     have ly := blk_lt HRD.out
     clear hD hbD x0 x1 lx dn
     have hld := HOD.out.load
     go_wp2_with fail
     rw [HRX.out]
     refine ((rroll_any _ HOD.out.end HOD.out.bel).mono fun _ _ h => h.two HOD.out.bel).mono ?_
     rintro e Y ⟨uy, rfl, hend, hbel, hkt⟩
     obtain ⟨XF, hst, hvar, hbvr, hbx, _, _⟩ := brEnd_store hend (hkt _ _ HZD.out) rfl hbel (Nat.le_add_right _ _)
     have HEND := hid (show BrEnd w RR uy XF by rw [HRX.out]; exact hbvr.end hvar)
     have HVX := hid hvar
     have HBX := hid hbx
     clear hend hbel hkt hvar hbvr hbx hld y0 y1 ly
     go_wp2
     obtain ⟨m', i', k', e, bb, _⟩ := HVX.out
     refine bodyPost_ret (results_cell_row rfl _ _ (w.heap.size + 2) 30 _ _ _ rfl bb brain_under rfl (brain_size (brT_bc _ _ _ _ _))) rfl ?_
     rw [← e]
     exact ⟨_, rfl, HEND.out, HBX.out⟩
    ·obtain rfl : B = RR := by rw [← HRR.out]; exact (not_len (by decide) (n := 0) rfl hL).symm
     have dn : ((0 : Int) != (L.length : Int)) = true := by rw [bne_iff_ne]; omega
     have HMY := hid (rmany_same 13 0 rfl)
     have HLN := hid hL
     clear hL
     go_quiet ((go_at_call 34; exact Calls.quiet_of_same (HMY.out _)))
     obtain ⟨D, hD⟩ : ∃ D : World, D = X.drewN nq := ⟨_, rfl⟩
     have hbD : Below X.heap.size X D := by rw [hD]; exact below_drewN (Below.refl _ _) _
     rw [← hD]
     have HOD := hid (HO.out.below hbD)
     have HRD := hid (blk_below HR.out hbD (blk_lt HR.out))
     have HZD := hid (blk_below HZ.out hbD (blk_lt HZ.out))
     have HSD := hid (HSX.out.below hbD)
     have y0 : D.cell? ⟨w.heap.size + 1, 0, none⟩ = some (.int .u8 13) := blk_cell HRD.out 0
     have y1 : D.cell? ⟨w.heap.size + 1, 1, none⟩ = some (.slice sa L.length sc) := blk_cell HRD.out 1
     have ly := blk_lt HRD.out
     clear hD hbD x0 x1 lx dn
     go_upto_region 13 with (fail)
     obtain ⟨hld, XF, m', i', k', hst, bb, hend⟩ := ap_end (HOD.out) (HZD.out)
     have HBB := hid bb
     have HEND := hid hend
     clear bb hend y0 y1 ly
     go_wp2
     refine bodyPost_ret (results_cell_row rfl _ _ (w.heap.size + 2) 30 _ _ _ rfl HBB.out brain_under rfl (brain_size (brT_bc _ _ _ _ _))) rfl ?_
     exact HEND.out
   by_cases h14 : k = 14
   ·subst h14
    by_cases hL : L.length = 1
    ·have HRX := hid (show RR = activeB B (pauseB B (L.getD 0 0)) by rw [← HRR.out]; exact applyB_of B 14 L 1 _ HQ.out (by decide) rfl hL)
     have HS0 := hid HS.out
     have dn : ((1 : Int) != (L.length : Int)) = false := by rw [hL]; rfl
     have HMY := hid (rmany_same 14 1 rfl)
     have HLN := hid hL
     clear hL
     go_quiet ((go_at_call 34; exact Calls.quiet_of_same (HMY.out _)))
     obtain ⟨D, hD⟩ : ∃ D : World, D = X.drewN nq := ⟨_, rfl⟩
     have hbD : Below X.heap.size X D := by rw [hD]; exact below_drewN (Below.refl _ _) _
     rw [← hD]
     have HOD := hid (HO.out.below hbD)
     have HRD := hid (blk_below HR.out hbD (blk_lt HR.out))
     have HZD := hid (blk_below HZ.out hbD (blk_lt HZ.out))
     have HSD := hid (HSX.out.below hbD)
     have y0 : D.cell? ⟨w.heap.size + 1, 0, none⟩ = some (.int .u8 14) := blk_cell HRD.out 0
     have y1 : D.cell? ⟨w.heap.size + 1, 1, none⟩ = some (.slice sa L.length sc) := blk_cell HRD.out 1
     have ly := blk_lt HRD.out
     clear hD hbD x0 x1 lx dn
     have hld := HOD.out.load
     go_wp2_with fail
     rw [HRX.out]
     refine ((rpause_any _ L HS0.out HLN.out HOD.out.end HOD.out.bel).mono fun _ _ h => h.two HOD.out.bel).mono ?_
     rintro e Y ⟨uy, rfl, hend, hbel, hkt⟩
     obtain ⟨XF, hst, hvar, hbvr, hbx, _, _⟩ := brEnd_store hend (hkt _ _ HZD.out) rfl hbel (Nat.le_add_right _ _)
     have HEND := hid (show BrEnd w RR uy XF by rw [HRX.out]; exact hbvr.end hvar)
     have HVX := hid hvar
     have HBX := hid hbx
     clear hend hbel hkt hvar hbvr hbx hld y0 y1 ly
     go_wp2
     obtain ⟨m', i', k', e, bb, _⟩ := HVX.out
     refine bodyPost_ret (results_cell_row rfl _ _ (w.heap.size + 2) 30 _ _ _ rfl bb brain_under rfl (brain_size (brT_bc _ _ _ _ _))) rfl ?_
     rw [← e]
     exact ⟨_, rfl, HEND.out, HBX.out⟩
    ·obtain rfl : B = RR := by rw [← HRR.out]; exact (not_len (by decide) (n := 1) rfl hL).symm
     have dn : ((1 : Int) != (L.length : Int)) = true := by rw [bne_iff_ne]; omega
     have HMY := hid (rmany_same 14 1 rfl)
     have HLN := hid hL
     clear hL
     go_quiet ((go_at_call 34; exact Calls.quiet_of_same (HMY.out _)))
     obtain ⟨D, hD⟩ : ∃ D : World, D = X.drewN nq := ⟨_, rfl⟩
     have hbD : Below X.heap.size X D := by rw [hD]; exact below_drewN (Below.refl _ _) _
     rw [← hD]
     have HOD := hid (HO.out.below hbD)
     have HRD := hid (blk_below HR.out hbD (blk_lt HR.out))
     have HZD := hid (blk_below HZ.out hbD (blk_lt HZ.out))
     have HSD := hid (HSX.out.below hbD)
     have y0 : D.cell? ⟨w.heap.size + 1, 0, none⟩ = some (.int .u8 14) := blk_cell HRD.out 0
     have y1 : D.cell? ⟨w.heap.size + 1, 1, none⟩ = some (.slice sa L.length sc) := blk_cell HRD.out 1
     have ly := blk_lt HRD.out
     clear hD hbD x0 x1 lx dn
     go_upto_region 13 with (fail)
     obtain ⟨hld, XF, m', i', k', hst, bb, hend⟩ := ap_end (HOD.out) (HZD.out)
     have HBB := hid bb
     have HEND := hid hend
     clear bb hend y0 y1 ly
     go_wp2
     refine bodyPost_ret (results_cell_row rfl _ _ (w.heap.size + 2) 30 _ _ _ rfl HBB.out brain_under rfl (brain_size (brT_bc _ _ _ _ _))) rfl ?_
     exact HEND.out
   by_cases h15 : k = 15
   ·subst h15
    by_cases hL : L.length = 0
    ·have HRX := hid (show RR = activeB B (goB B) by rw [← HRR.out]; exact applyB_of B 15 L 0 _ HQ.out (by decide) rfl hL)
     have HS0 := hid HS.out
     have dn : ((0 : Int) != (L.length : Int)) = false := by rw [hL]; rfl
     have HMY := hid (rmany_same 15 0 rfl)
     have HLN := hid hL
     clear hL
     go_quiet ((go_at_call 34; exact Calls.quiet_of_same (HMY.out _)))
     obtain ⟨D, hD⟩ : ∃ D : World, D = X.drewN nq := ⟨_, rfl⟩
     have hbD : Below X.heap.size X D := by rw [hD]; exact below_drewN (Below.refl _ _) _
     rw [← hD]
     have HOD := hid (HO.out.below hbD)
     have HRD := hid (blk_below HR.out hbD (blk_lt HR.out))
     have HZD := hid (blk_below HZ.out hbD (blk_lt HZ.out))
     have HSD := hid (HSX.out.below hbD)
     have y0 : D.cell? ⟨w.heap.size + 1, 0, none⟩ = some (.int .u8 15) := blk_cell HRD.out 0
     have y1 : D.cell? ⟨w.heap.size + 1, 1, none⟩ = some (.slice sa L.length sc) := blk_cell HRD.out 1
     have ly := blk_lt HRD.out
     clear hD hbD x0 x1 lx dn
     have hld := HOD.out.load
     go_wp2_with fail
     rw [HRX.out]
     refine ((rgo_any _ HOD.out.end HOD.out.bel).mono fun _ _ h => h.two HOD.out.bel).mono ?_
     rintro e Y ⟨uy, rfl, hend, hbel, hkt⟩
     obtain ⟨XF, hst, hvar, hbvr, hbx, _, _⟩ := brEnd_store hend (hkt _ _ HZD.out) rfl hbel (Nat.le_add_right _ _)
     have HEND := hid (show BrEnd w RR uy XF by rw [HRX.out]; exact hbvr.end hvar)
     have HVX := hid hvar
     have HBX := hid hbx
     clear hend hbel hkt hvar hbvr hbx hld y0 y1 ly
     go_wp2
     obtain ⟨m', i', k', e, bb, _⟩ := HVX.out
     refine bodyPost_ret (results_cell_row rfl _ _ (w.heap.size + 2) 30 _ _ _ rfl bb brain_under rfl (brain_size (brT_bc _ _ _ _ _))) rfl ?_
     rw [← e]
     exact ⟨_, rfl, HEND.out, HBX.out⟩
    ·obtain rfl : B = RR := by rw [← HRR.out]; exact (not_len (by decide) (n := 0) rfl hL).symm
     have dn : ((0 : Int) != (L.length : Int)) = true := by rw [bne_iff_ne]; omega
     have HMY := hid (rmany_same 15 0 rfl)
     have HLN := hid hL
     clear hL
     go_quiet ((go_at_call 34; exact Calls.quiet_of_same (HMY.out _)))
     obtain ⟨D, hD⟩ : ∃ D : World, D = X.drewN nq := ⟨_, rfl⟩
     have hbD : Below X.heap.size X D := by rw [hD]; exact below_drewN (Below.refl _ _) _
     rw [← hD]
     have HOD := hid (HO.out.below hbD)
     have HRD := hid (blk_below HR.out hbD (blk_lt HR.out))
     have HZD := hid (blk_below HZ.out hbD (blk_lt HZ.out))
     have HSD := hid (HSX.out.below hbD)
     have y0 : D.cell? ⟨w.heap.size + 1, 0, none⟩ = some (.int .u8 15) := blk_cell HRD.out 0
     have y1 : D.cell? ⟨w.heap.size + 1, 1, none⟩ = some (.slice sa L.length sc) := blk_cell HRD.out 1
     have ly := blk_lt HRD.out
     clear hD hbD x0 x1 lx dn
     go_upto_region 13 with (fail)
     obtain ⟨hld, XF, m', i', k', hst, bb, hend⟩ := ap_end (HOD.out) (HZD.out)
     have HBB := hid bb
     have HEND := hid hend
     clear bb hend y0 y1 ly
     go_wp2
     refine bodyPost_ret (results_cell_row rfl _ _ (w.heap.size + 2) 30 _ _ _ rfl HBB.out brain_under rfl (brain_size (brT_bc _ _ _ _ _))) rfl ?_
     exact HEND.out
   by_cases h16 : k = 16
   ·subst h16
    by_cases hL : L.length = 0
    ·have HRX := hid (show RR = activeB B (doneB B) by rw [← HRR.out]; exact applyB_of B 16 L 0 _ HQ.out (by decide) rfl hL)
     have HS0 := hid HS.out
     have dn : ((0 : Int) != (L.length : Int)) = false := by rw [hL]; rfl
     have HMY := hid (rmany_same 16 0 rfl)
     have HLN := hid hL
     clear hL
     go_quiet ((go_at_call 34; exact Calls.quiet_of_same (HMY.out _)))
     obtain ⟨D, hD⟩ : ∃ D : World, D = X.drewN nq := ⟨_, rfl⟩
     have hbD : Below X.heap.size X D := by rw [hD]; exact below_drewN (Below.refl _ _) _
     rw [← hD]
     have HOD := hid (HO.out.below hbD)
     have HRD := hid (blk_below HR.out hbD (blk_lt HR.out))
     have HZD := hid (blk_below HZ.out hbD (blk_lt HZ.out))
     have HSD := hid (HSX.out.below hbD)
     have y0 : D.cell? ⟨w.heap.size + 1, 0, none⟩ = some (.int .u8 16) := blk_cell HRD.out 0
     have y1 : D.cell? ⟨w.heap.size + 1, 1, none⟩ = some (.slice sa L.length sc) := blk_cell HRD.out 1
     have ly := blk_lt HRD.out
     clear hD hbD x0 x1 lx dn
     have hld := HOD.out.load
     go_wp2_with fail
     rw [HRX.out]
     refine ((rdone_any _ HOD.out.end HOD.out.bel).mono fun _ _ h => h.two HOD.out.bel).mono ?_
     rintro e Y ⟨uy, rfl, hend, hbel, hkt⟩
     obtain ⟨XF, hst, hvar, hbvr, hbx, _, _⟩ := brEnd_store hend (hkt _ _ HZD.out) rfl hbel (Nat.le_add_right _ _)
     have HEND := hid (show BrEnd w RR uy XF by rw [HRX.out]; exact hbvr.end hvar)
     have HVX := hid hvar
     have HBX := hid hbx
     clear hend hbel hkt hvar hbvr hbx hld y0 y1 ly
     go_wp2
     obtain ⟨m', i', k', e, bb, _⟩ := HVX.out
     refine bodyPost_ret (results_cell_row rfl _ _ (w.heap.size + 2) 30 _ _ _ rfl bb brain_under rfl (brain_size (brT_bc _ _ _ _ _))) rfl ?_
     rw [← e]
     exact ⟨_, rfl, HEND.out, HBX.out⟩
    ·obtain rfl : B = RR := by rw [← HRR.out]; exact (not_len (by decide) (n := 0) rfl hL).symm
     have dn : ((0 : Int) != (L.length : Int)) = true := by rw [bne_iff_ne]; omega
     have HMY := hid (rmany_same 16 0 rfl)
     have HLN := hid hL
     clear hL
     go_quiet ((go_at_call 34; exact Calls.quiet_of_same (HMY.out _)))
     obtain ⟨D, hD⟩ : ∃ D : World, D = X.drewN nq := ⟨_, rfl⟩
     have hbD : Below X.heap.size X D := by rw [hD]; exact below_drewN (Below.refl _ _) _
     rw [← hD]
     have HOD := hid (HO.out.below hbD)
     have HRD := hid (blk_below HR.out hbD (blk_lt HR.out))
     have HZD := hid (blk_below HZ.out hbD (blk_lt HZ.out))
     have HSD := hid (HSX.out.below hbD)
     have y0 : D.cell? ⟨w.heap.size + 1, 0, none⟩ = some (.int .u8 16) := blk_cell HRD.out 0
     have y1 : D.cell? ⟨w.heap.size + 1, 1, none⟩ = some (.slice sa L.length sc) := blk_cell HRD.out 1
     have ly := blk_lt HRD.out
     clear hD hbD x0 x1 lx dn
     go_upto_region 13 with (fail)
     obtain ⟨hld, XF, m', i', k', hst, bb, hend⟩ := ap_end (HOD.out) (HZD.out)
     have HBB := hid bb
     have HEND := hid hend
     clear bb hend y0 y1 ly
     go_wp2
     refine bodyPost_ret (results_cell_row rfl _ _ (w.heap.size + 2) 30 _ _ _ rfl HBB.out brain_under rfl (brain_size (brT_bc _ _ _ _ _))) rfl ?_
     exact HEND.out
   have hdn : deedN k = none := by
    unfold deedN
    have e1 : (k == 1) = false := by simpa using h1
    have e3 : (k == 3) = false := by simpa using h3
    have e4 : (k == 4) = false := by simpa using h4
    have e5 : (k == 5) = false := by simpa using h5
    have e6 : (k == 6) = false := by simpa using h6
    have e7 : (k == 7) = false := by simpa using h7
    have e8 : (k == 8) = false := by simpa using h8
    have e9 : (k == 9) = false := by simpa using h9
    have e10 : (k == 10) = false := by simpa using h10
    have e11 : (k == 11) = false := by simpa using h11
    have e12 : (k == 12) = false := by simpa using h12
    have e13 : (k == 13) = false := by simpa using h13
    have e14 : (k == 14) = false := by simpa using h14
    have e15 : (k == 15) = false := by simpa using h15
    have e16 : (k == 16) = false := by simpa using h16
    simp only [List.lookup, e1, e3, e4, e5, e6, e7, e8, e9, e10, e11, e12, e13, e14, e15, e16]
   obtain rfl : B = RR := by rw [← HRR.out]; exact (not_kind hk2 hdn L).symm
   have dn : ((-1 : Int) != (L.length : Int)) = true := by rw [bne_iff_ne]; omega
   have HMY := hid (rmany_same k (-1) (by unfold manyI; rw [hdn]))
   clear hdn h1 h3 h4 h5 h6 h7 h8 h9 h10 h11 h12 h13 h14 h15 h16 hk2
   go_quiet ((go_at_call 34; exact Calls.quiet_of_same (HMY.out _)))
   obtain ⟨D, hD⟩ : ∃ D : World, D = X.drewN nq := ⟨_, rfl⟩
   have hbD : Below X.heap.size X D := by rw [hD]; exact below_drewN (Below.refl _ _) _
   rw [← hD]
   have HOD := hid (HO.out.below hbD)
   have HRD := hid (blk_below HR.out hbD (blk_lt HR.out))
   have HZD := hid (blk_below HZ.out hbD (blk_lt HZ.out))
   have HSD := hid (HSX.out.below hbD)
   have y0 : D.cell? ⟨w.heap.size + 1, 0, none⟩ = some (.int .u8 k) := blk_cell HRD.out 0
   have y1 : D.cell? ⟨w.heap.size + 1, 1, none⟩ = some (.slice sa L.length sc) := blk_cell HRD.out 1
   have ly := blk_lt HRD.out
   clear hD hbD x0 x1 lx dn
   go_upto_region 13 with (fail)
   obtain ⟨hld, XF, m', i', k', hst, bb, hend⟩ := ap_end (HOD.out) (HZD.out)
   have HBB := hid bb
   have HEND := hid hend
   clear bb hend y0 y1 ly
   go_wp2
   refine bodyPost_ret (results_cell_row rfl _ _ (w.heap.size + 2) 30 _ _ _ rfl HBB.out brain_under rfl (brain_size (brT_bc _ _ _ _ _))) rfl ?_
   exact HEND.out
end Go.Proofs.YtgcajfglidflnaaDoor
