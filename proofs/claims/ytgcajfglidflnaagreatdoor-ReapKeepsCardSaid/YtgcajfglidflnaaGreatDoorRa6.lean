/- herdref13.Apply: a record is applied. Printed by gn_ra6.py. -/
import Derived.Test.YtgcajfglidflnaaGreatDoorRa4
import Derived.Test.YtgcajfglidflnaaGreatDoorRa5
import Derived.Test.YtgcajfglidflnaaGreatDoorRow13
namespace Go.Proofs.YtgcajfglidflnaaGreatDoor
open Go.RowKit Go.Shelf
attribute [-go_sem] loadVar storeVar Instr.buildSlice
theorem load_other4 (t : TypeId) (a : Addr) (_h : t ≠ 33) (_h2 : t ≠ 27) : loadVar t a = isAgg t >>= fun b => if b = true then sizeOf t >>= fun n => loadCells a n >>= fun c => pure (.agg c) else load a := by unfold loadVar; rfl
theorem store_other4 (t : TypeId) (a : Addr) (v : Value) (_h : t ≠ 33) (_h2 : t ≠ 27) (h0 : ∀ w, (sizeOf t).run Tryz.prog w = .ok v.cells.size w) (w : World) : (storeVar t a v).run Tryz.prog w = (storeCells a v.cells.toList).run Tryz.prog w := by
 unfold storeVar
 simp [h0]
attribute [-go_sem] loadVar storeVar Instr.buildSlice
attribute [local go_sem] load_other4 store_other4

theorem applyB_of (B : BrainV) (k : Int) (L : List Int) (n : Nat) (R : BrainV) (hb : L.any badN = false) (h2 : k ≠ 2) (hk : (deedTs B L).lookup k = some (n, R)) (hL : L.length = n) : applyB B k L = R := by
 unfold applyB
 rw [if_neg (by rw [hb]; decide), if_neg h2, hk]
 exact if_pos hL
theorem rmany_same (k m : Int) (hm : manyI k = m) (w : World) : Calls Tryz.prog 50 #[.int .u8 k] w fun e w' => e = .returned (.int .i64 m) ∧ w' = w :=
 (rmany_any k m hm w).mono fun _ _ ⟨h1, h2⟩ => ⟨h1, h2.symm⟩
def ApEnd (w : World) (R : BrainV) (e : Ending) (w' : World) : Prop := ∃ u, e = .returned u ∧ BrEnd w R u w' ∧ Below w.heap.size w w'
theorem ap_end {w U : World} {R : BrainV} {mv iv kv : Value} (h : BO w w.heap.size R mv iv kv U) (hz : U.heap[w.heap.size + 2]? = some (.cells #[.int .i64 0, .int .i64 0, .bool false, .int .i64 0, .int .i64 0, .int .i64 0, .int .i64 0, .int .i64 0, .int .i64 0, .int .i64 0, .int .i64 0, .int .i64 0, .int .i64 0, .int .i64 0, .int .i64 0, .int .i64 0, .bool false, .slice none 0 0, .slice none 0 0, .slice none 0 0, .int .u8 0, .int .i64 0, .int .i64 0, .int .i64 0, .bool false, .int .i64 0, .int .i64 0] 33)) :
  (loadVar 33 ⟨w.heap.size, 0, none⟩).run Tryz.prog U = .ok (.agg (brT R.f R.g mv iv kv)) U ∧ ∃ X m i k, (storeVar 33 ⟨w.heap.size + 2, 0, none⟩ (.agg (brT R.f R.g mv iv kv))).run Tryz.prog U = .ok () X ∧ BB X (w.heap.size + 2) (brT R.f R.g m i k) ∧ ApEnd w R (.returned (.agg (brT R.f R.g m i k))) X := by
 obtain ⟨X, m', i', k', hst, bb, hend, hbx, _⟩ := h.fin hz rfl (Nat.le_add_right _ _)
 exact ⟨h.load, X, m', i', k', hst, bb, _, rfl, hend, hbx⟩
theorem BrVar.bo {W0 w X : World} {T : Nat} {B : BrainV} (h : BrVar W0 X T B) (hle : w.heap.size ≤ W0.heap.size) (hT : w.heap.size ≤ T) (hb : Below w.heap.size w X) : ∃ mv iv kv, BO w T B mv iv kv X := by
 obtain ⟨mv, iv, kv, g0, g1, g2, g3⟩ := h
 exact ⟨mv, iv, kv, g0, hT, g1, g2.mono hle, g3.mono hle, hb⟩
set_option maxRecDepth 100000 in
set_option maxHeartbeats 16000000 in
theorem rapply_any (B : BrainV) (v s : Value) (k : Int) (L : List Int) (w : World) (h : BrIs w B v) (hs : RowOf 1 encI w s L) (_hlen : L.length ≤ 100000) (hM : B.M.length ≤ 17592186043904) (hlI : B.I.length ≤ 1000) (hlK : B.K.length ≤ 1000) (hk4 : (k = 4 ∧ L.length = 3) ∨ (k = 6 ∧ L.length = 3) ∨ (k = 7 ∧ L.length = 1) ∨ (k = 8 ∧ L.length = 5)) (hph : ∀ x ∈ B.K, in8 x.phase) :
  Calls Tryz.prog 29 #[v, recV k s] w (ApEnd w (applyB B k L)) := by
 have HK4 := hid hk4
 clear hk4
 obtain ⟨ma, mc, ia, ic, ka, kc, rfl, hm, hi, hk⟩ := h.open
 obtain ⟨sa, sc, rfl, p1, p2, p3, hop⟩ := hs.open
 obtain ⟨bv, hbv⟩ : ∃ bv, bv = brT B.f B.g (.slice ma B.M.length mc) (.slice ia B.I.length ic) (.slice ka B.K.length kc) := ⟨_, rfl⟩
 rw [← hbv]
 obtain ⟨W1, hW1⟩ : ∃ W1, W1 = ((w.alloc (.cells bv 33)).alloc (.cells #[.int .u8 k, .slice sa L.length sc] 70)).alloc (.cells #[.int .i64 0, .int .i64 0, .bool false, .int .i64 0, .int .i64 0, .int .i64 0, .int .i64 0, .int .i64 0, .int .i64 0, .int .i64 0, .int .i64 0, .int .i64 0, .int .i64 0, .int .i64 0, .int .i64 0, .int .i64 0, .bool false, .slice none 0 0, .slice none 0 0, .slice none 0 0, .int .u8 0, .int .i64 0, .int .i64 0, .int .i64 0, .bool false, .int .i64 0, .int .i64 0] 33) := ⟨_, rfl⟩
 have hb1 : Below w.heap.size w W1 := by rw [hW1]; exact (((Below.refl w.heap.size w).alloc (Nat.le_refl _) _).alloc (by simp) _).alloc (by simp; omega) _
 have n1 : BB W1 w.heap.size bv := by rw [hW1]; exact blk_alloc (blk_alloc (heap_new _ _) _) _
 have r1 : W1.heap[w.heap.size + 1]? = some (.cells #[.int .u8 k, .slice sa L.length sc] 70) := by rw [hW1]; exact blk_alloc (heap_new2 _ _ _) _
 have z1 : W1.heap[w.heap.size + 2]? = some (.cells #[.int .i64 0, .int .i64 0, .bool false, .int .i64 0, .int .i64 0, .int .i64 0, .int .i64 0, .int .i64 0, .int .i64 0, .int .i64 0, .int .i64 0, .int .i64 0, .int .i64 0, .int .i64 0, .int .i64 0, .int .i64 0, .bool false, .slice none 0 0, .slice none 0 0, .slice none 0 0, .int .u8 0, .int .i64 0, .int .i64 0, .int .i64 0, .bool false, .int .i64 0, .int .i64 0] 33) := by rw [hW1]; have := heap_new ((w.alloc (.cells bv 33)).alloc (.cells #[.int .u8 k, .slice sa L.length sc] 70)) (.cells #[.int .i64 0, .int .i64 0, .bool false, .int .i64 0, .int .i64 0, .int .i64 0, .int .i64 0, .int .i64 0, .int .i64 0, .int .i64 0, .int .i64 0, .int .i64 0, .int .i64 0, .int .i64 0, .int .i64 0, .int .i64 0, .bool false, .slice none 0 0, .slice none 0 0, .slice none 0 0, .int .u8 0, .int .i64 0, .int .i64 0, .int .i64 0, .bool false, .int .i64 0, .int .i64 0] 33); simpa using this
 have HV1 := hid (show VarIs W1 w.heap.size B (.agg bv) by rw [hbv] at n1 ⊢; exact ⟨_, _, _, rfl, n1, hm.below hb1, hi.below hb1, hk.below hb1⟩)
 have HN1 := hid n1
 have HR1 := hid r1
 have HZ1 := hid z1
 have HB1 := hid hb1
 have HS := hid hs
 have HOP := hid hop
 have HPH := hid hph
 have HBV := hid hbv
 have hsz : bv.size = 27 := by rw [hbv]; rfl
 have HSZ := hid hsz
 clear h hm hi hk hs hop hb1 n1 r1 z1 hph hbv hsz
 obtain ⟨RR, hRR⟩ : ∃ RR, applyB B k L = RR := ⟨_, rfl⟩
 rw [hRR]
 have HRR := hid hRR
 obtain ⟨q, hq⟩ : ∃ q, L.any badN = q := ⟨_, rfl⟩
 have HQ := hid hq
 clear hRR hq
 unfold recV
 go_enter Tryz.func29, Tryz.ntmps29
 go_upto_region 1 with (fail)
 rw [← hW1]
 clear hW1
 have hld := HV1.out.load
 go_wp2_with fail
 refine (rown13_any B _ W1 HV1.out.is hM (by omega) (by omega)).mono ?_
 rintro e V ⟨u, rfl, hend, hb⟩
 obtain ⟨X, hst, hvar, hbvr, hbx, hXo, _⟩ := brEnd_store (W := w) hend (blk_below HN1.out hb (blk_lt HN1.out)) HSZ.out (HB1.out.trans (hb.mono HB1.out.size)) (Nat.le_refl _)
 obtain ⟨mv, iv, kv, hbo⟩ := hbvr.bo (w := w) HB1.out.size (Nat.le_refl _) hbx
 have HO := hid hbo
 have HR := hid ((hXo (w.heap.size + 1) (by omega)).trans (blk_below HR1.out hb (blk_lt HR1.out)))
 have HZ := hid ((hXo (w.heap.size + 2) (by omega)).trans (blk_below HZ1.out hb (blk_lt HZ1.out)))
 have HSX := hid (HS.out.below hbx)
 clear hend hb hvar hbvr hXo hbo hld
 go_upto_region 2 with (fail)
 clear hst hbx
 have x0 : X.cell? ⟨w.heap.size + 1, 0, none⟩ = some (.int .u8 k) := blk_cell HR.out 0
 have x1 : X.cell? ⟨w.heap.size + 1, 1, none⟩ = some (.slice sa L.length sc) := blk_cell HR.out 1
 have lx := blk_lt HR.out
 have HNU := hid (rnumbers_any _ L q HQ.out X HSX.out)
 cases q with
 | true =>
  obtain rfl : B = RR := by rw [← HRR.out]; unfold applyB; rw [if_pos HQ.out]
  go_wp2_with fail
  refine HNU.out.mono ?_
  rintro e w' ⟨rfl, rfl⟩
  simp only [Bool.not_true]
  go_upto_region 3 with (fail)
  obtain ⟨hld, XF, m', i', k', hst, bb, hend⟩ := ap_end (HO.out) (HZ.out)
  have HBB := hid bb
  have HEND := hid hend
  clear bb hend x0 x1 lx
  go_wp2
  refine bodyPost_ret (results_cell_row rfl _ _ (w.heap.size + 2) 33 _ _ _ rfl HBB.out brain_under rfl (brain_size (brT_bc _ _ _ _ _))) rfl ?_
  exact HEND.out
 | false =>
  have HBAD := hid (show ∀ y ∈ L, badN y = false from fun y hy => by have := List.any_eq_false.1 HQ.out y hy; simpa using this)
  go_wp2_with fail
  refine HNU.out.mono ?_
  rintro e w' ⟨rfl, rfl⟩
  simp only [Bool.not_false]
  clear HNU
  by_cases hk2 : k = 2
  ·exact absurd HK4.out (by omega)
  ·have e2 : (k == 2) = false := by simpa using hk2
   go_upto_region 12 with (fail)
   clear e2
   by_cases h1 : k = 1
   ·exact absurd HK4.out (by omega)
   by_cases h3 : k = 3
   ·exact absurd HK4.out (by omega)
   by_cases h4 : k = 4
   ·subst h4
    by_cases hL : L.length = 3
    ·have HRX := hid (show RR = madeB B L by rw [← HRR.out]; exact applyB_of B 4 L 3 _ HQ.out (by decide) rfl hL)
     have HS0 := hid HS.out
     have dn : ((3 : Int) != (L.length : Int)) = false := by rw [hL]; rfl
     have HMY := hid (rmany_same 4 3 rfl)
     have HLN := hid hL
     clear hL
     go_quiet ((go_at_call 50; exact Calls.quiet_of_same (HMY.out _)))
     obtain ⟨D, hD⟩ : ∃ D : World, D = X.drewN nq := ⟨_, rfl⟩
     have hbD : Below X.heap.size X D := by rw [hD]; exact below_drewN (Below.refl _ _) _
     rw [← hD]
     have HOD := hid (HO.out.below hbD)
     have HRD := hid (blk_below HR.out hbD (blk_lt HR.out))
     have HZD := hid (blk_below HZ.out hbD (blk_lt HZ.out))
     have HSD := hid (HSX.out.below hbD)
     have y0 : D.cell? ⟨w.heap.size + 1, 0, none⟩ = some (.int .u8 4) := blk_cell HRD.out 0
     have y1 : D.cell? ⟨w.heap.size + 1, 1, none⟩ = some (.slice sa L.length sc) := blk_cell HRD.out 1
     have ly := blk_lt HRD.out
     clear hD hbD x0 x1 lx dn
     have hld := HOD.out.load
     go_wp2_with fail
     rw [HRX.out]
     refine ((rmade_any _ L HS0.out HLN.out HOD.out.end HOD.out.bel hlI hlK).mono fun _ _ h => h.two HOD.out.bel).mono ?_
     rintro e Y ⟨uy, rfl, hend, hbel, hkt⟩
     obtain ⟨XF, hst, hvar, hbvr, hbx, _, _⟩ := brEnd_store hend (hkt _ _ HZD.out) rfl hbel (Nat.le_add_right _ _)
     have HEND := hid (show BrEnd w RR uy XF by rw [HRX.out]; exact hbvr.end hvar)
     have HVX := hid hvar
     have HBX := hid hbx
     clear hend hbel hkt hvar hbvr hbx hld y0 y1 ly
     go_wp2
     obtain ⟨m', i', k', e, bb, _⟩ := HVX.out
     refine bodyPost_ret (results_cell_row rfl _ _ (w.heap.size + 2) 33 _ _ _ rfl bb brain_under rfl (brain_size (brT_bc _ _ _ _ _))) rfl ?_
     rw [← e]
     exact ⟨_, rfl, HEND.out, HBX.out⟩
    ·exact absurd HK4.out (by omega)
   by_cases h5 : k = 5
   ·exact absurd HK4.out (by omega)
   by_cases h6 : k = 6
   ·subst h6
    by_cases hL : L.length = 3
    ·have HRX := hid (show RR = keptB B (fun i x => phaseB B i x (L.getD 1 0) (L.getD 2 0)) (L.getD 0 0) by rw [← HRR.out]; exact applyB_of B 6 L 3 _ HQ.out (by decide) rfl hL)
     have HS0 := hid HS.out
     have dn : ((3 : Int) != (L.length : Int)) = false := by rw [hL]; rfl
     have HMY := hid (rmany_same 6 3 rfl)
     have HLN := hid hL
     clear hL
     go_quiet ((go_at_call 50; exact Calls.quiet_of_same (HMY.out _)))
     obtain ⟨D, hD⟩ : ∃ D : World, D = X.drewN nq := ⟨_, rfl⟩
     have hbD : Below X.heap.size X D := by rw [hD]; exact below_drewN (Below.refl _ _) _
     rw [← hD]
     have HOD := hid (HO.out.below hbD)
     have HRD := hid (blk_below HR.out hbD (blk_lt HR.out))
     have HZD := hid (blk_below HZ.out hbD (blk_lt HZ.out))
     have HSD := hid (HSX.out.below hbD)
     have y0 : D.cell? ⟨w.heap.size + 1, 0, none⟩ = some (.int .u8 6) := blk_cell HRD.out 0
     have y1 : D.cell? ⟨w.heap.size + 1, 1, none⟩ = some (.slice sa L.length sc) := blk_cell HRD.out 1
     have ly := blk_lt HRD.out
     clear hD hbD x0 x1 lx dn
     have hld := HOD.out.load
     go_wp2_with fail
     rw [HRX.out]
     refine (rphase_any _ L HS0.out HLN.out HBAD.out HPH.out HOD.out.end HOD.out.bel hlK).mono ?_
     rintro e Y ⟨uy, rfl, hend, hbel, hkt⟩
     obtain ⟨XF, hst, hvar, hbvr, hbx, _, _⟩ := brEnd_store hend (hkt _ _ HZD.out) rfl hbel (Nat.le_add_right _ _)
     have HEND := hid (show BrEnd w RR uy XF by rw [HRX.out]; exact hbvr.end hvar)
     have HVX := hid hvar
     have HBX := hid hbx
     clear hend hbel hkt hvar hbvr hbx hld y0 y1 ly
     go_wp2
     obtain ⟨m', i', k', e, bb, _⟩ := HVX.out
     refine bodyPost_ret (results_cell_row rfl _ _ (w.heap.size + 2) 33 _ _ _ rfl bb brain_under rfl (brain_size (brT_bc _ _ _ _ _))) rfl ?_
     rw [← e]
     exact ⟨_, rfl, HEND.out, HBX.out⟩
    ·exact absurd HK4.out (by omega)
   by_cases h7 : k = 7
   ·subst h7
    by_cases hL : L.length = 1
    ·have HRX := hid (show RR = keptB B (fun i _ => goneAt B i) (L.getD 0 0) by rw [← HRR.out]; exact applyB_of B 7 L 1 _ HQ.out (by decide) rfl hL)
     have HS0 := hid HS.out
     have dn : ((1 : Int) != (L.length : Int)) = false := by rw [hL]; rfl
     have HMY := hid (rmany_same 7 1 rfl)
     have HLN := hid hL
     clear hL
     go_quiet ((go_at_call 50; exact Calls.quiet_of_same (HMY.out _)))
     obtain ⟨D, hD⟩ : ∃ D : World, D = X.drewN nq := ⟨_, rfl⟩
     have hbD : Below X.heap.size X D := by rw [hD]; exact below_drewN (Below.refl _ _) _
     rw [← hD]
     have HOD := hid (HO.out.below hbD)
     have HRD := hid (blk_below HR.out hbD (blk_lt HR.out))
     have HZD := hid (blk_below HZ.out hbD (blk_lt HZ.out))
     have HSD := hid (HSX.out.below hbD)
     have y0 : D.cell? ⟨w.heap.size + 1, 0, none⟩ = some (.int .u8 7) := blk_cell HRD.out 0
     have y1 : D.cell? ⟨w.heap.size + 1, 1, none⟩ = some (.slice sa L.length sc) := blk_cell HRD.out 1
     have ly := blk_lt HRD.out
     clear hD hbD x0 x1 lx dn
     have hld := HOD.out.load
     go_wp2_with fail
     rw [HRX.out]
     refine ((rgone_any _ L HS0.out HLN.out HOD.out.end HOD.out.bel hlK).mono fun _ _ h => h.two HOD.out.bel).mono ?_
     rintro e Y ⟨uy, rfl, hend, hbel, hkt⟩
     obtain ⟨XF, hst, hvar, hbvr, hbx, _, _⟩ := brEnd_store hend (hkt _ _ HZD.out) rfl hbel (Nat.le_add_right _ _)
     have HEND := hid (show BrEnd w RR uy XF by rw [HRX.out]; exact hbvr.end hvar)
     have HVX := hid hvar
     have HBX := hid hbx
     clear hend hbel hkt hvar hbvr hbx hld y0 y1 ly
     go_wp2
     obtain ⟨m', i', k', e, bb, _⟩ := HVX.out
     refine bodyPost_ret (results_cell_row rfl _ _ (w.heap.size + 2) 33 _ _ _ rfl bb brain_under rfl (brain_size (brT_bc _ _ _ _ _))) rfl ?_
     rw [← e]
     exact ⟨_, rfl, HEND.out, HBX.out⟩
    ·exact absurd HK4.out (by omega)
   by_cases h8 : k = 8
   ·subst h8
    by_cases hL : L.length = 5
    ·have HRX := hid (show RR = takeB B L by rw [← HRR.out]; exact applyB_of B 8 L 5 _ HQ.out (by decide) rfl hL)
     have HS0 := hid HS.out
     have dn : ((5 : Int) != (L.length : Int)) = false := by rw [hL]; rfl
     have HMY := hid (rmany_same 8 5 rfl)
     have HLN := hid hL
     clear hL
     go_quiet ((go_at_call 50; exact Calls.quiet_of_same (HMY.out _)))
     obtain ⟨D, hD⟩ : ∃ D : World, D = X.drewN nq := ⟨_, rfl⟩
     have hbD : Below X.heap.size X D := by rw [hD]; exact below_drewN (Below.refl _ _) _
     rw [← hD]
     have HOD := hid (HO.out.below hbD)
     have HRD := hid (blk_below HR.out hbD (blk_lt HR.out))
     have HZD := hid (blk_below HZ.out hbD (blk_lt HZ.out))
     have HSD := hid (HSX.out.below hbD)
     have y0 : D.cell? ⟨w.heap.size + 1, 0, none⟩ = some (.int .u8 8) := blk_cell HRD.out 0
     have y1 : D.cell? ⟨w.heap.size + 1, 1, none⟩ = some (.slice sa L.length sc) := blk_cell HRD.out 1
     have ly := blk_lt HRD.out
     clear hD hbD x0 x1 lx dn
     have hld := HOD.out.load
     go_wp2_with fail
     rw [HRX.out]
     refine ((rtake_any _ L HS0.out HLN.out HOD.out.end HOD.out.bel hlK).mono fun _ _ h => h.two HOD.out.bel).mono ?_
     rintro e Y ⟨uy, rfl, hend, hbel, hkt⟩
     obtain ⟨XF, hst, hvar, hbvr, hbx, _, _⟩ := brEnd_store hend (hkt _ _ HZD.out) rfl hbel (Nat.le_add_right _ _)
     have HEND := hid (show BrEnd w RR uy XF by rw [HRX.out]; exact hbvr.end hvar)
     have HVX := hid hvar
     have HBX := hid hbx
     clear hend hbel hkt hvar hbvr hbx hld y0 y1 ly
     go_wp2
     obtain ⟨m', i', k', e, bb, _⟩ := HVX.out
     refine bodyPost_ret (results_cell_row rfl _ _ (w.heap.size + 2) 33 _ _ _ rfl bb brain_under rfl (brain_size (brT_bc _ _ _ _ _))) rfl ?_
     rw [← e]
     exact ⟨_, rfl, HEND.out, HBX.out⟩
    ·exact absurd HK4.out (by omega)
   by_cases h9 : k = 9
   ·exact absurd HK4.out (by omega)
   by_cases h10 : k = 10
   ·exact absurd HK4.out (by omega)
   by_cases h11 : k = 11
   ·exact absurd HK4.out (by omega)
   by_cases h12 : k = 12
   ·exact absurd HK4.out (by omega)
   by_cases h13 : k = 13
   ·exact absurd HK4.out (by omega)
   by_cases h14 : k = 14
   ·exact absurd HK4.out (by omega)
   by_cases h15 : k = 15
   ·exact absurd HK4.out (by omega)
   by_cases h16 : k = 16
   ·exact absurd HK4.out (by omega)
   exact absurd HK4.out (by omega)
end Go.Proofs.YtgcajfglidflnaaGreatDoor
