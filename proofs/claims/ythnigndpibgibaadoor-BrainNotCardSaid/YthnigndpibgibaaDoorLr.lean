/- BrainRight: a brain that may be may be behind whatever records. Printed by gn_lr.py. -/
import Derived.Test.YthnigndpibgibaaDoorVs
import Derived.Test.YthnigndpibgibaaDoorPlk
import Derived.Deep.RegionHeld3
namespace Go.Proofs.YthnigndpibgibaaDoor
open Go.RowKit Go.Shelf
attribute [-go_sem] loadVar storeVar Instr.buildSlice
attribute [local go_sem] load_other store_other

theorem applyB_M (B : BrainV) (k : Int) (L : List Int) {n : Nat} (h : B.M.length ≤ n) (hn : 4 ≤ n) : (applyB B k L).M.length ≤ n := by
  refine apply_ind (P := fun _ R => R.M.length ≤ n) B k L h (fun _ ho => ?_) (fun _ t ht hl => ?_)
  · unfold ofB at ho
    simp only [Bool.and_eq_true, decide_eq_true_eq] at ho
    have := checkB_marks ho.2.2
    show (L.drop 14).length ≤ n
    omega
  · have hm : t.2.2.M = B.M := by
      have hk : ∀ (D : Nat → KeptV → BrainV) (x0 : Int), (∀ i x, (D i x).M = B.M) → (keptB B D x0).M = B.M := fun D x0 hD => keptB_cases (P := fun R => R.M = B.M) rfl (fun i x _ _ => hD i x)
      have ha : ∀ R : BrainV, R.M = B.M → (activeB B R).M = B.M := fun R hR => by unfold activeB; split <;> first | exact hR | rfl
      unfold deedTs at ht
      simp only [List.mem_cons, List.not_mem_nil, or_false] at ht
      rcases ht with rfl | rfl | rfl | rfl | rfl | rfl | rfl | rfl | rfl | rfl | rfl | rfl | rfl | rfl | rfl
      · show (bootB B).M = _; unfold bootB; split <;> rfl
      · show (intentB B _ _ _).M = _; unfold intentB; split <;> rfl
      · show (madeB B L).M = _
        unfold madeB
        split
        · rfl
        · split
          · rfl
          · unfold madeX; split <;> rfl
      · show (takeB B L).M = _; unfold takeB; split <;> rfl
      · exact hk _ _ (fun i x => by unfold phaseB; split <;> rfl)
      · exact hk _ _ (fun i x => rfl)
      · exact hk _ _ (fun i x => by unfold guardB; split <;> rfl)
      · exact hk _ _ (fun i x => rfl)
      · show (startB B _ _).M = _; unfold startB; split <;> rfl
      · exact ha _ (by unfold failB; split <;> rfl)
      · exact ha _ rfl
      · exact ha _ rfl
      · exact ha _ (by unfold pauseB; split <;> rfl)
      · exact ha _ (by unfold goB; split <;> rfl)
      · exact ha _ rfl
    rw [hm]
    exact h
theorem bs_brain (f : Nat → Int) (g : Nat → Bool) (mv iv kv : Value) (w : World) : (Instr.buildSlice 53 1 #[(0, .agg (brT f g mv iv kv))]).run Tryd.prog w = .ok (.slice (some ⟨w.heap.size, 0, none⟩) 1 1) (w.alloc (.cells (brT f g mv iv kv) 30)) := by kernel_rfl
theorem applyAll_snoc (B : BrainV) (R : List RecE) (k : Nat) (r : RecE) (hr : R[k]? = some r) : applyAll B (R.take (k + 1)) = applyB (applyAll B (R.take k)) r.k r.L := by
  unfold applyAll
  rw [take_snoc R k r hr, List.foldl_append]
  rfl
set_option maxRecDepth 100000 in
set_option maxHeartbeats 4000000 in
theorem right_law (B : BrainV) (bv s : Value) (R : List RecE) (w : World) (hB : BrIs w B bv) (hR : RecsR w R s) (hph : ∀ x ∈ B.K, in8 x.phase) (hC : Changes w) (hLm : Limits w) :
    Calls Tryd.prog 3 #[bv, s] w fun e w' => e = .returned (.bool true) ∧ Below w.heap.size w w' := by
  obtain ⟨sa, sc, rfl, p1, p2, p3, hop⟩ := hR.1.open
  obtain ⟨ma, mc, ia, ic, ka, kc, rfl, hm, hi, hk⟩ := hB.open
  have HB := hid hB
  have HR := hid hR
  have HC := hid hC
  have HL := hid hLm
  have HOP := hid hop
  obtain ⟨bv, hbv⟩ : ∃ bv, bv = brT B.f B.g (.slice ma B.M.length mc) (.slice ia B.I.length ic) (.slice ka B.K.length kc) := ⟨_, rfl⟩
  obtain ⟨W1, hW1⟩ : ∃ W1, W1 = w.alloc (.cells bv 30) := ⟨_, rfl⟩
  have hb1 : Below w.heap.size w W1 := by rw [hW1]; exact (Below.refl _ _).alloc (Nat.le_refl _) _
  have n1 : BB W1 w.heap.size bv := by rw [hW1]; exact heap_new _ _
  have hV1 : VarIs W1 w.heap.size B (.agg bv) := by rw [hbv] at n1 ⊢; exact ⟨_, _, _, rfl, n1, hm.below hb1, hi.below hb1, hk.below hb1⟩
  have HB1 := hid hb1
  have HV1 := hid hV1
  have HW1 := hid hW1
  have hld := hV1.load
  have hbs := bs_brain B.f B.g (.slice ma B.M.length mc) (.slice ia B.I.length ic) (.slice ka B.K.length kc)
  rw [← hbv] at hbs HB ⊢
  obtain ⟨xr, hxB, hxr⟩ := BrsR.one (hV1.is) rfl
  obtain ⟨W2, hW2⟩ : ∃ W2, W2 = W1.alloc (.cells bv 30) := ⟨_, rfl⟩
  rw [← hW2] at hxr
  have hb2 : Below W1.heap.size W1 W2 := by rw [hW2]; exact (Below.refl _ _).alloc (Nat.le_refl _) _
  have HGR := hid (great13_any _ _ R [xr] W2 ((hR.below hb1).below hb2) hxr)
  rw [show W1.heap.size = w.heap.size + 1 by rw [hW1]; simp] at HGR
  have HV2 := hid (hV1.below hb2)
  have HB2 := hid hb2
  have HW2 := hid hW2
  have HPH := hid hph
  have HXB := hid hxB
  have HBV := hid hbv
  clear hB hR hC hLm hop hm hi hk hb1 n1 hV1 hxr hb2 hph hbv hxB
  rw [hW1] at hld
  go_enter Tryd.func3, Tryd.ntmps3
  go_wp2_with fail
  rw [← HW1.out, ← HW2.out]
  refine HGR.out.mono ?_
  rintro e W3 ⟨q, rfl, hq, hb⟩
  have HB3 := hid (HB1.out.trans ((HB2.out.trans (hb.mono HB2.out.size)).mono HB1.out.size))
  have HV3 := hid (HV2.out.below hb)
  have hld := HV3.out.load
  have HQ := hid hq
  clear hb hq hbs hW1 hW2
  cases q with
  | true =>
    go_wp2_with fail
    refine (wakes_any W3 (HC.out.below HB3.out) (HL.out.below HB3.out)).mono ?_
    rintro e W4 ⟨rfl, hb⟩
    have HB4 := hid (HB3.out.trans (hb.mono HB3.out.size))
    clear hb hld
    go_wp2
    go_ret
    exact ⟨rfl, HB4.out⟩
  | false =>
    obtain ⟨hR60, hR40, hG⟩ := HQ.out rfl
    have hgr := hG xr (List.mem_singleton.2 rfl)
    rw [HXB.out] at hgr
    have hgb : B.I.length ≤ 40 ∧ B.K.length ≤ 40 ∧ B.M.length ≤ 40 := by
      unfold greatB at hgr
      simp only [Bool.or_eq_false_iff, decide_eq_false_iff_not] at hgr
      omega
    obtain ⟨rq, hrq⟩ : ∃ rq, rightB B = rq := ⟨_, rfl⟩
    have HRQ := hid hrq
    have HRR := hid (rright_is rq hrq HV3.out.is)
    have HGB := hid hgb
    have HR40 := hid hR40
    clear hgr hG hR40 hrq hgb
    go_wp2_with fail
    refine HRR.out.mono ?_
    rintro e W4 ⟨rfl, hb⟩
    have HB4 := hid (HB3.out.trans (hb.mono HB3.out.size))
    have HV4 := hid (HV3.out.below hb)
    clear hb hld
    cases rq with
    | false =>
      go_wp2_with fail
      refine (wakes_any W4 (HC.out.below HB4.out) (HL.out.below HB4.out)).mono ?_
      rintro e W5 ⟨rfl, hb⟩
      have HB5 := hid (HB4.out.trans (hb.mono HB4.out.size))
      clear hb
      go_wp2
      go_ret
      exact ⟨rfl, HB5.out⟩
    | true =>
      have HRP := hid (rightP_iff.1 HRQ.out)
      have HFI := hid (show Fine B 40 from ⟨HGB.out.1, HGB.out.2.1, HPH.out⟩)
      have HM40 := hid HGB.out.2.2
      go_wp2
      go_loopw [5] (fun i wr => ∃ (k : Nat) (C : BrainV) (v : Value), k ≤ R.length ∧ i = .int .i64 k ∧ RightP C ∧ Fine C (40 + k) ∧ C.M.length ≤ 40 ∧ VarIs wr w.heap.size C v ∧ Below w.heap.size w wr) (fun i _ => R.length - (intOf i).toNat)
      case atStart => exact ⟨0, B, _, Nat.zero_le _, rfl, HRP.out, HFI.out, HM40.out, HV4.out, HB4.out⟩
      case round =>
        obtain ⟨k, C, v, hk, rfl, hrp, hfi, hcm, hv, hB⟩ := hrel
        have HRC := hid hrp
        have HFC := hid hfi
        have HMC := hid hcm
        have HVC := hid hv
        have HBr := hid hB
        clear hrp hfi hcm hv hB HRP HFI HM40 HV4 HV3 HV2 HV1
        by_cases hlt : k < R.length
        · obtain ⟨b1, o1, rfl, hb1, hr1⟩ := HOP.out (by omega)
          obtain ⟨r, hr⟩ := get_lt hlt
          obtain ⟨rs, hrs⟩ : ∃ x, r.s = x := ⟨_, rfl⟩
          have hrec := HR.out.2 r (mem_get hr)
          rw [hrs] at hrec
          obtain ⟨ra, rc, rfl, _⟩ := hrec.open
          obtain ⟨g0, g1⟩ := rowR (hr1.below HBr.out hb1) hr
          rw [hrs] at g1
          have hkL : (k : Int) < (R.length : Int) := by omega
          have hb1w : b1 < wr.heap.size := Nat.lt_of_lt_of_le hb1 HBr.out.size
          have hL40 := HR40.out r (mem_get hr)
          have HREC := hid (RowOf.below hrec HBr.out)
          have G0 := hid g0
          have G1 := hid g1
          obtain ⟨O, hO⟩ : ∃ O, applyB C r.k r.L = O := ⟨_, rfl⟩
          have HO := hid hO
          have hst := HRC.out.apply r.k r.L
          rw [hO] at hst
          have HST := hid hst
          have HFO := hid (show Fine O (40 + k + 1) by rw [← hO]; exact HFC.out.apply r.k r.L)
          have HMO := hid (show O.M.length ≤ 40 by rw [← hO]; exact applyB_M C r.k r.L HMC.out (by omega))
          clear hrec hr1 hr hst hO
          have hlw := HVC.out.lt
          go_wp2_with fail
          refine wp_region_cut 7 1 (fun _ => True) (by kernel_rfl) (by kernel_rfl) (by kernel_rfl) ?_
          simp only [List.take_succ_cons, List.take_zero]
          refine wpAnyH_grown (w0 := wr.drew) (spL [fun z _ => z = v, fun z _ => z = .slice (some ⟨b1, o1, none⟩) R.length sc, fun z _ => z = .int .i64 (k : Int), fun z _ => z = .pointer (some ⟨b1, o1 + k * 2, none⟩), fun z _ => z = .agg #[.int .u8 r.k, .slice ra r.L.length rc], fun z w => BrEnd wr (applyB C r.k (r.L)) z w, fun z w => NewBr wr z w]) (spL_stays ⟨stays_eq _, stays_eq _, stays_eq _, stays_eq _, stays_eq _, stays_brEnd _ _, stays_new _, trivial⟩) (by kernel_rfl) (by kernel_rfl) ?steps6 ?fin6 rfl
          case steps6 =>
            refine ⟨?_, ?_, ?_, ?_, ?_, ?_, ?_, trivial⟩
            · intro a' w' hB hdep hoth K hK
              have hbw : Below wr.heap.size wr w' := (below_drewN (Below.refl _ _) 1).trans hB
              have t2 := hoth 2 (notDst_at (by kernel_rfl))
              simp only [List.getElem?_toArray, List.getElem?_cons_succ, List.getElem?_cons_zero] at t2
              have hld := (HVC.out.below hbw).load
              clear hdep hoth
              go_simp
              exact hK _ _ (Below.refl _ _) rfl
            · intro a' w' hB hdep hoth K hK
              have hbw : Below wr.heap.size wr w' := (below_drewN (Below.refl _ _) 1).trans hB
              have t1 := hoth 1 (notDst_at (by kernel_rfl))
              simp only [List.getElem?_toArray, List.getElem?_cons_succ, List.getElem?_cons_zero] at t1
              clear hdep hoth
              go_simp
              exact hK _ _ (Below.refl _ _) rfl
            · intro a' w' hB hdep hoth K hK
              have hbw : Below wr.heap.size wr w' := (below_drewN (Below.refl _ _) 1).trans hB
              have t5 := hoth 5 (notDst_at (by kernel_rfl))
              simp only [List.getElem?_toArray, List.getElem?_cons_succ, List.getElem?_cons_zero] at t5
              clear hdep hoth
              go_simp
              exact hK _ _ (Below.refl _ _) rfl
            · intro a' w' hB hdep hoth K hK
              have hbw : Below wr.heap.size wr w' := (below_drewN (Below.refl _ _) 1).trans hB
              obtain ⟨vx0, gx0, ex0⟩ := hdep ⟨1, .data⟩ (by simp) rfl
              have gx0 := gx0 25 rfl (by simp)
              obtain rfl : vx0 = .slice (some ⟨b1, o1, none⟩) R.length sc := ex0
              obtain ⟨vx1, gx1, ex1⟩ := hdep ⟨2, .data⟩ (by simp) rfl
              have gx1 := gx1 26 rfl (by simp)
              obtain rfl : vx1 = .int .i64 (k : Int) := ex1
              clear hdep hoth
              go_simp
              exact hK _ _ (Below.refl _ _) rfl
            · intro a' w' hB hdep hoth K hK
              have hbw : Below wr.heap.size wr w' := (below_drewN (Below.refl _ _) 1).trans hB
              obtain ⟨vx0, gx0, ex0⟩ := hdep ⟨3, .data⟩ (by simp) rfl
              have gx0 := gx0 27 rfl (by simp)
              obtain rfl : vx0 = .pointer (some ⟨b1, o1 + k * 2, none⟩) := ex0
              have g0 := cell_below G0.out hbw
              have g1 := cell_below G1.out hbw
              have hb1w : b1 < w'.heap.size := Nat.lt_of_lt_of_le hb1w hbw.size
              clear hdep hoth
              go_simp
              exact hK _ _ (Below.refl _ _) rfl
            · intro a' w' hB hdep hoth K hK
              have hbw : Below wr.heap.size wr w' := (below_drewN (Below.refl _ _) 1).trans hB
              obtain ⟨v0, g0, e0⟩ := hdep ⟨0, .data⟩ (by simp) rfl
              have g0 := g0 24 rfl (by simp)
              obtain rfl : v0 = v := e0
              obtain ⟨v1, g1, e1⟩ := hdep ⟨4, .data⟩ (by simp) rfl
              have g1 := g1 28 rfl (by simp)
              obtain rfl : v1 = .agg #[.int .u8 r.k, .slice ra r.L.length rc] := e1
              have HA := hid (apply_is r.k r.L (40 + k) (HVC.out.below hbw).is ⟨_, rfl, HREC.out.below hbw⟩ HFC.out (by omega) (by have := HMC.out; omega) (by omega) (HC.out.below (HBr.out.trans (hbw.mono HBr.out.size))) (HL.out.below (HBr.out.trans (hbw.mono HBr.out.size))))
              clear hdep hoth
              go_simp
              refine HA.out.mono ?_
              rintro e w'' ⟨v, rfl, he, hb⟩
              exact hK v _ hb (he.base hbw.size)
            · intro a' w' hB hdep hoth K hK
              have hbw : Below wr.heap.size wr w' := (below_drewN (Below.refl _ _) 1).trans hB
              clear hdep hoth
              go_simp
              exact hK _ _ ((Below.refl _ _).alloc (Nat.le_refl _) _) ⟨w'.heap.size, rfl, hbw.size, heap_new w' _⟩
          case fin6 =>
            intro vs w' hB hs
            have hbw : Below wr.heap.size wr w' := (below_drewN (Below.refl _ _) 1).trans hB
            have e0 : vs 0 = _ := hs 0 (by decide)
            have e1 : vs 1 = _ := hs 1 (by decide)
            have e2 : vs 2 = _ := hs 2 (by decide)
            have e3 : vs 3 = _ := hs 3 (by decide)
            have e4 : vs 4 = _ := hs 4 (by decide)
            have e5 : BrEnd wr _ (vs 5) w' := hs 5 (by decide)
            obtain ⟨T6, e6, hT, hz⟩ := hs 6 (by decide)
            clear hs
            refine cutQ_held (fun _ => True) (fun f => ?_)
            simp only [actOf, dstAt, if_true, List.getElem?_toArray, List.getElem?_cons_succ, List.getElem?_cons_zero, Option.bind_some, Act.put, List.setIfInBounds_toArray, List.set_cons_zero, List.set_cons_succ, List.length_cons, List.length_nil, Nat.reduceAdd]
            rw [e6]
            obtain ⟨u6, hu⟩ : ∃ u, vs 5 = u := ⟨_, rfl⟩
            rw [hu] at e5 ⊢
            obtain ⟨X6, hst, hvar, hbv, hbx, hXo, hXs⟩ := brEnd_store e5 hz rfl hbw hT
            refine wpAnyH_ready (rs := [7]) (by kernel_rfl) (by simp) ?_
            refine AllReadyH.cons rfl (fun K hK => ?_) AllReadyH.nil
            go_simp
            refine hK.out _ _ trivial (fun _ => ?_)
            clear hK K
            refine wpAnyH_done (by kernel_rfl) ?_ _
            rw [HO.out] at hvar hbv
            have HVO := hid hvar
            have HBVO := hid hbv
            have HBX := hid (HBr.out.trans (hbx.mono HBr.out.size))
            have HBW := hid hbx
            have HVC2 := hid (HVC.out.below hbx)
            clear hst hvar hbv hbx hXo hXs e0 e1 e2 e3 e4 e5 e6 hu hz hT hbw hB
            have hld := HVO.out.load
            have HRO := hid (rright_is true (rightP_iff.2 HST.out.1) HVO.out.is)
            go_wp2_with fail
            refine HRO.out.mono ?_
            rintro e X7 ⟨rfl, hb⟩
            have HVO7 := hid (HVO.out.below hb)
            have HVC7 := hid (HVC2.out.below hb)
            have HBX7 := hid (HBX.out.trans (hb.mono HBX.out.size))
            have HBV7 := hid (HBVO.out.below hb)
            have HBW7 := hid (HBW.out.trans (hb.mono HBW.out.size))
            clear hb hld
            have hld := HVO7.out.load
            have HRO2 := hid (right_is true (rightP_iff.2 HST.out.1) HVO7.out.is (by have := HFO.out.1; omega) (by have := HFO.out.2.1; omega) (HL.out.below HBX7.out))
            go_wp2_with fail
            refine HRO2.out.mono ?_
            rintro e X8 ⟨rfl, hb⟩
            have HVO8 := hid (HVO7.out.below hb)
            have HVC8 := hid (HVC7.out.below hb)
            have HBX8 := hid (HBX7.out.trans (hb.mono HBX7.out.size))
            have HBV8 := hid (HBV7.out.below hb)
            have HBW8 := hid (HBW7.out.trans (hb.mono HBW7.out.size))
            clear hb hld
            obtain ⟨oma, omc, oia, oic, oka, okc, ou, obb, _⟩ := HVO8.out.open
            obtain ⟨cma, cmc, cia, cic, cka, ckc, cu, cbb, _⟩ := HVC8.out.open
            have x0 : X8.cell? ⟨T6, 0, none⟩ = some (.int .i64 (O.f 0)) := blk_cell obb 0
            have x1 : X8.cell? ⟨T6, 1, none⟩ = some (.int .i64 (O.f 1)) := blk_cell obb 1
            have x2 : X8.cell? ⟨T6, 2, none⟩ = some (.bool (O.g 2)) := blk_cell obb 2
            have x18 : X8.cell? ⟨T6, 18, none⟩ = some (.slice oia O.I.length oic) := blk_cell obb 18
            have x19 : X8.cell? ⟨T6, 19, none⟩ = some (.slice oka O.K.length okc) := blk_cell obb 19
            have y0 : X8.cell? ⟨w.heap.size, 0, none⟩ = some (.int .i64 (C.f 0)) := blk_cell cbb 0
            have y1 : X8.cell? ⟨w.heap.size, 1, none⟩ = some (.int .i64 (C.f 1)) := blk_cell cbb 1
            have y2 : X8.cell? ⟨w.heap.size, 2, none⟩ = some (.bool (C.g 2)) := blk_cell cbb 2
            have y18 : X8.cell? ⟨w.heap.size, 18, none⟩ = some (.slice cia C.I.length cic) := blk_cell cbb 18
            have y19 : X8.cell? ⟨w.heap.size, 19, none⟩ = some (.slice cka C.K.length ckc) := blk_cell cbb 19
            have lx := blk_lt obb
            have ly := blk_lt cbb
            have hseq : decide (O.f 1 < C.f 1) = false := decide_eq_false (by have := HST.out.2.seq; omega)
            have hep : decide (O.f 0 < C.f 0) = false := decide_eq_false (by have := HST.out.2.ep; omega)
            have g0 := cell_below G0.out HBW8.out
            have hb1x : b1 < X8.heap.size := Nat.lt_of_lt_of_le hb1w HBW8.out.size
            have hld := HVO8.out.load
            obtain ⟨X9, hst, hvar, _, hbx, _, _⟩ := brEnd_store (HBV8.out.end HVO8.out) cbb rfl HBX8.out (Nat.le_refl _)
            have HVAR := hid hvar
            have HBX9 := hid hbx
            clear hvar hbx
            have OBB := hid obb
            have OU := hid ou
            obtain ⟨gc, hgc⟩ : ∃ x, C.g 2 = x := ⟨_, rfl⟩
            obtain ⟨gq, hgq⟩ : ∃ x, O.g 2 = x := ⟨_, rfl⟩
            have hset : gc = true → gq = true := by rw [← hgc, ← hgq]; exact HST.out.2.set
            rw [hgc] at y2
            rw [hgq] at x2
            obtain ⟨na, hna⟩ : ∃ n, O.I.length = n := ⟨_, rfl⟩
            obtain ⟨nb, hnb⟩ : ∃ n, O.K.length = n := ⟨_, rfl⟩
            obtain ⟨nc, hnc⟩ : ∃ n, C.I.length = n := ⟨_, rfl⟩
            obtain ⟨nd, hnd⟩ : ∃ n, C.K.length = n := ⟨_, rfl⟩
            rw [hna] at x18
            rw [hnb] at x19
            rw [hnc] at y18
            rw [hnd] at y19
            have hh := HST.out.2
            have hhi := hh.hi
            have hlo := hh.lo
            have hup := hh.up
            have hdn := hh.dn
            rw [hna, hnb, hnc, hnd] at hhi hlo hup hdn
            have hb1 := HFC.out.1
            have hb2 := HFC.out.2.1
            rw [hnc] at hb1
            rw [hnd] at hb2
            clear hh obb ou cu cbb hgc hgq hna hnb hnc hnd
            cases gc with
            | false =>
              rcases (show na + nb = nc + nd ∨ (na + nb = nc + nd + 1 ∧ r.k = 3) ∨ (na + nb = nc + nd + 1 ∧ r.k = 8) ∨ (na + nb + 1 = nc + nd ∧ r.k = 7) by omega) with hc | ⟨hc, hkk⟩ | ⟨hc, hkk⟩ | ⟨hc, hkk⟩
              · have hm : (na : Int) + nb - nc - nd = 0 := by omega
                clear hc hhi hlo hup hdn
                go_wp2
                go_roundw
                case rel => exact ⟨k + 1, O, _, by omega, by go_num, HST.out.1, by have := HFO.out; rwa [Nat.add_assoc] at this, HMO.out, HVAR.out, HBX9.out⟩
                case measure => simp [intOf]; omega
              · have hm : (na : Int) + nb - nc - nd = 1 := by omega
                rw [hkk] at g0
                clear hc hhi hlo hup hdn
                go_wp2
                go_roundw
                case rel => exact ⟨k + 1, O, _, by omega, by go_num, HST.out.1, by have := HFO.out; rwa [Nat.add_assoc] at this, HMO.out, HVAR.out, HBX9.out⟩
                case measure => simp [intOf]; omega
              · have hm : (na : Int) + nb - nc - nd = 1 := by omega
                rw [hkk] at g0
                clear hc hhi hlo hup hdn
                go_wp2
                go_roundw
                case rel => exact ⟨k + 1, O, _, by omega, by go_num, HST.out.1, by have := HFO.out; rwa [Nat.add_assoc] at this, HMO.out, HVAR.out, HBX9.out⟩
                case measure => simp [intOf]; omega
              · have hm : (na : Int) + nb - nc - nd = -1 := by omega
                rw [hkk] at g0
                clear hc hhi hlo hup hdn
                go_wp2
                go_roundw
                case rel => exact ⟨k + 1, O, _, by omega, by go_num, HST.out.1, by have := HFO.out; rwa [Nat.add_assoc] at this, HMO.out, HVAR.out, HBX9.out⟩
                case measure => simp [intOf]; omega
            | true =>
              obtain rfl : gq = true := hset rfl
              rcases (show na + nb = nc + nd ∨ (na + nb = nc + nd + 1 ∧ r.k = 3) ∨ (na + nb = nc + nd + 1 ∧ r.k = 8) ∨ (na + nb + 1 = nc + nd ∧ r.k = 7) by omega) with hc | ⟨hc, hkk⟩ | ⟨hc, hkk⟩ | ⟨hc, hkk⟩
              · have hm : (na : Int) + nb - nc - nd = 0 := by omega
                clear hc hhi hlo hup hdn
                go_wp2
                go_roundw
                case rel => exact ⟨k + 1, O, _, by omega, by go_num, HST.out.1, by have := HFO.out; rwa [Nat.add_assoc] at this, HMO.out, HVAR.out, HBX9.out⟩
                case measure => simp [intOf]; omega
              · have hm : (na : Int) + nb - nc - nd = 1 := by omega
                rw [hkk] at g0
                clear hc hhi hlo hup hdn
                go_wp2
                go_roundw
                case rel => exact ⟨k + 1, O, _, by omega, by go_num, HST.out.1, by have := HFO.out; rwa [Nat.add_assoc] at this, HMO.out, HVAR.out, HBX9.out⟩
                case measure => simp [intOf]; omega
              · have hm : (na : Int) + nb - nc - nd = 1 := by omega
                rw [hkk] at g0
                clear hc hhi hlo hup hdn
                go_wp2
                go_roundw
                case rel => exact ⟨k + 1, O, _, by omega, by go_num, HST.out.1, by have := HFO.out; rwa [Nat.add_assoc] at this, HMO.out, HVAR.out, HBX9.out⟩
                case measure => simp [intOf]; omega
              · have hm : (na : Int) + nb - nc - nd = -1 := by omega
                rw [hkk] at g0
                clear hc hhi hlo hup hdn
                go_wp2
                go_roundw
                case rel => exact ⟨k + 1, O, _, by omega, by go_num, HST.out.1, by have := HFO.out; rwa [Nat.add_assoc] at this, HMO.out, HVAR.out, HBX9.out⟩
                case measure => simp [intOf]; omega
        · obtain rfl : k = R.length := by omega
          go_wp2_with fail
          refine (wakes_any wr (HC.out.below HBr.out) (HL.out.below HBr.out)).mono ?_
          rintro e W5 ⟨rfl, hb⟩
          have HB5 := hid (HBr.out.trans (hb.mono HBr.out.size))
          clear hb
          go_wp2
          go_ret
          exact ⟨rfl, HB5.out⟩
end Go.Proofs.YthnigndpibgibaaDoor
