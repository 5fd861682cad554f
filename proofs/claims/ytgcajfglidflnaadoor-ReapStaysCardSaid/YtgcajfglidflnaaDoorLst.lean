import Derived.Test.YtgcajfglidflnaaDoorLsm
import Derived.Deep.RegionHeld3
import Derived.Lib.QuietBelow
import Derived.BigQuiet
/- ReapStays: what is kept later, or is seen as it is to be, stays as it was. Printed by gn_lst.py. -/
namespace Go.Proofs.YtgcajfglidflnaaDoor
open Go.RowKit Go.Shelf
attribute [-go_sem] loadVar storeVar Instr.buildSlice
attribute [local go_sem] load_other store_other

theorem kept_cells {W : World} {T : Nat} {k : KeptV} (h : W.heap[T]? = some (.cells #[.int .i64 k.id, .int .i64 k.token, .int .i64 k.version, .int .i64 k.zone, .int .u8 k.phase, .int .i64 k.since, .bool k.guarded, .bool k.complete] 41)) :
  W.cell? ⟨T, 0, none⟩ = some (.int .i64 k.id) ∧ W.cell? ⟨T, 1, none⟩ = some (.int .i64 k.token) ∧ W.cell? ⟨T, 2, none⟩ = some (.int .i64 k.version) ∧ W.cell? ⟨T, 3, none⟩ = some (.int .i64 k.zone) ∧ W.cell? ⟨T, 4, none⟩ = some (.int .u8 k.phase) ∧ W.cell? ⟨T, 5, none⟩ = some (.int .i64 k.since) ∧ W.cell? ⟨T, 6, none⟩ = some (.bool k.guarded) ∧ W.cell? ⟨T, 7, none⟩ = some (.bool k.complete) ∧ T < W.heap.size :=
 ⟨blk_cell h 0, blk_cell h 1, blk_cell h 2, blk_cell h 3, blk_cell h 4, blk_cell h 5, blk_cell h 6, blk_cell h 7, blk_lt h⟩
set_option maxRecDepth 100000 in
set_option maxHeartbeats 16000000 in
theorem stays_law (B : BrainV) (bv : Array Value) (on : Bool) (frm beh : Int) (sv : Value) (L : List SeenV) (now : Int) (w : World) (hB : BrIs w B (.agg bv)) (hs : RowS w sv L) (hwf : ∀ x ∈ B.K, in8 x.phase) (hC : Changes w) (hL : Limits w) :
  Calls Tryd.prog 3 #[.agg bv, scanV on frm beh sv, .int .i64 now] w fun e w' => e = .returned (.bool true) ∧ Below w.heap.size w w' := by
 obtain ⟨sa, sc, rfl, _⟩ := hs.open
 obtain ⟨W1, hW1⟩ : ∃ W1, W1 = (w.alloc (.cells bv 30)).alloc (.cells #[.bool on, .int .i64 frm, .int .i64 beh, .slice sa L.length sc] 33) := ⟨_, rfl⟩
 have hb1 : Below w.heap.size w W1 := by rw [hW1]; exact ((Below.refl _ _).alloc (Nat.le_refl _) _).alloc (by simp) _
 have n0 : BB W1 w.heap.size bv := by rw [hW1]; exact blk_alloc (heap_new _ _) _
 obtain ⟨mv, iv, kv, e, h1, h2, h3⟩ := hB
 have hv1 : VarIs W1 w.heap.size B (.agg bv) := by cases e; exact ⟨mv, iv, kv, rfl, n0, h1.below hb1, h2.below hb1, h3.below hb1⟩
 have M1 := hid (show SrM w B bv on frm beh sa sc L W1 from ⟨hv1, by rw [hW1]; exact heap_new2 _ _ _, hs.below hb1, hb1⟩)
 have HW1 := hid hW1
 have HC := hid hC
 have HL := hid hL
 have HWF := hid hwf
 clear hs hb1 hW1 hC hL hwf n0 e h1 h2 h3 hv1
 have HWK := hid (fun (W : World) (hb : Below w.heap.size w W) => wakes21_any W (HC.out.below hb) (HL.out.below hb))
 unfold scanV
 go_enter Tryd.func3, Tryd.ntmps3
 go_upto_region 1 with (fail)
 rw [← HW1.out]
 clear HW1
 obtain ⟨q, hq⟩ : ∃ q, greatB B = q := ⟨_, rfl⟩
 have HQ := hid hq
 clear hq
 have hld := M1.out.br.load
 go_wp2_with fail
 refine (great_is q HQ.out M1.out.br.is).mono ?_
 rintro e W2 ⟨rfl, hb⟩
 have M2 := hid (M1.out.below hb)
 clear hb hld M1
 cases q with
 | true =>
  go_wp2_with fail
  refine (HWK.out _ M2.out.bel).mono ?_
  rintro e Wz ⟨rfl, hb⟩
  have HB := hid (Below.trans M2.out.bel (hb.mono M2.out.bel.size))
  clear hb
  go_wp2
  go_ret
  exact ⟨rfl, HB.out⟩
 | false =>
  obtain ⟨rb, hrb⟩ : ∃ q, rightB B = q := ⟨_, rfl⟩
  have HRB := hid hrb
  clear hrb
  have hld := M2.out.br.load
  go_wp2_with fail
  refine (rright_is rb HRB.out M2.out.br.is).mono ?_
  rintro e W3 ⟨rfl, hb⟩
  have M3 := hid (M2.out.below hb)
  clear hb hld M2
  cases rb with
  | false =>
   go_wp2_with fail
   refine (HWK.out _ M3.out.bel).mono ?_
   rintro e Wz ⟨rfl, hb⟩
   have HB := hid (Below.trans M3.out.bel (hb.mono M3.out.bel.size))
   clear hb
   go_wp2
   go_ret
   exact ⟨rfl, HB.out⟩
  | true =>
   obtain ⟨q2, hq2⟩ : ∃ q, decide ((60 : Int) < (L.length : Int)) = q := ⟨_, rfl⟩
   have HQ2 := hid hq2
   clear hq2
   obtain ⟨s0, s1, s2, s3, sl⟩ := M3.out.cells
   go_wp2_with fail
   refine (great21_any on frm beh _ L W3 M3.out.rs q2 HQ2.out).mono ?_
   rintro e W4 ⟨rfl, hb⟩
   have M4 := hid (M3.out.below hb)
   clear hb s0 s1 s2 s3 sl M3
   cases q2 with
   | true =>
    go_wp2_with fail
    refine (HWK.out _ M4.out.bel).mono ?_
    rintro e Wz ⟨rfl, hb⟩
    have HB := hid (Below.trans M4.out.bel (hb.mono M4.out.bel.size))
    clear hb
    go_wp2
    go_ret
    exact ⟨rfl, HB.out⟩
   | false =>
    by_cases h0 : now < 0
    ·have d0 : decide (now < 0) = true := decide_eq_true h0
     go_wp2_with fail
     refine (HWK.out _ M4.out.bel).mono ?_
     rintro e Wz ⟨rfl, hb⟩
     have HB := hid (Below.trans M4.out.bel (hb.mono M4.out.bel.size))
     clear hb
     go_wp2
     go_ret
     exact ⟨rfl, HB.out⟩
    ·by_cases h30 : 1073741824 < now
     ·have d0 : decide (now < 0) = false := decide_eq_false h0
      have d1 : decide ((1073741824 : Int) < now) = true := decide_eq_true h30
      go_wp2_with fail
      refine (HWK.out _ M4.out.bel).mono ?_
      rintro e Wz ⟨rfl, hb⟩
      have HB := hid (Below.trans M4.out.bel (hb.mono M4.out.bel.size))
      clear hb
      go_wp2
      go_ret
      exact ⟨rfl, HB.out⟩
     ·have d0 : decide (now < 0) = false := decide_eq_false h0
      have d1 : decide ((1073741824 : Int) < now) = false := decide_eq_false h30
      have HGN := hid (show goodN now from ⟨by omega, by omega⟩)
      have HR := hid (rightP_iff.1 HRB.out)
      have HG := hid (great_small HQ.out)
      have HL60 := hid (show L.length ≤ 60 by have := HQ2.out; simp at this; omega)
      have HF := hid (show Fine B 40 from ⟨HG.out.1, HG.out.2.1, HWF.out⟩)
      clear h0 h30 HQ HRB HQ2
      have HV4 := hid M4.out.br
      go_upto_region 3 with (fail)
      clear d0 d1
      refine wp_region_cut 7 1 (fun _ => True) (by kernel_rfl) (by kernel_rfl) (by kernel_rfl) ?_
      simp only [List.take_succ_cons, List.take_zero]
      refine wpAnyH_grownD (w0 := W4.drew) (spL _) (relD [] (KeptT 30) [] KeptE) (aliveD []) (ancD []) (spD (n := 7) (m := 7) (l := [fun z _ => z = (.agg bv), fun z _ => z = (.agg bv), fun z _ => z = .agg #[.bool on, .int .i64 frm, .int .i64 beh, .slice sa L.length sc], fun z _ => z = .int .i64 now, fun z w => RecsL w (recordsL B L frm now) z, fun z w => BrEnd W4 (outB B L frm now) z w, fun z w => NewBr W4 z w]) (apps := []) (stab := []) (appsE := []) (stabE := []) ⟨stays_eq _, stays_eq _, stays_eq _, stays_eq _, stays_recsL _, stays_brEnd _ _, stays_new _, trivial⟩ trivial trivial rfl (by decide) (by decide)) (by kernel_rfl) (by kernel_rfl) (by kernel_rfl) (by kernel_rfl) ?steps3 ?fin3 rfl
      case steps3 =>
       refine ⟨?_, ?_, ?_, ?_, ?_, ?_, ?_, trivial⟩
       ·intro a' w' hB hdep hoth K hK
        have hK := growB hB hK
        rw [if_pos (guard_none rfl)]
        have hbw : Below W4.heap.size W4 w' := (below_drewN (Below.refl _ _) 1).trans hB
        have t3 := hoth 3 (notDst_at (by kernel_rfl))
        simp only [List.getElem?_toArray, List.getElem?_cons_succ, List.getElem?_cons_zero] at t3
        have hld := (HV4.out.below hbw).load
        clear hdep hoth
        go_simp
        exact hK _ _ (Below.refl _ _) rfl
       ·intro a' w' hB hdep hoth K hK
        have hK := growB hB hK
        rw [if_pos (guard_none rfl)]
        have hbw : Below W4.heap.size W4 w' := (below_drewN (Below.refl _ _) 1).trans hB
        have t3 := hoth 3 (notDst_at (by kernel_rfl))
        simp only [List.getElem?_toArray, List.getElem?_cons_succ, List.getElem?_cons_zero] at t3
        have hld := (HV4.out.below hbw).load
        clear hdep hoth
        go_simp
        exact hK _ _ (Below.refl _ _) rfl
       ·intro a' w' hB hdep hoth K hK
        have hK := growB hB hK
        rw [if_pos (guard_none rfl)]
        have hbw : Below W4.heap.size W4 w' := (below_drewN (Below.refl _ _) 1).trans hB
        have t4 := hoth 4 (notDst_at (by kernel_rfl))
        simp only [List.getElem?_toArray, List.getElem?_cons_succ, List.getElem?_cons_zero] at t4
        obtain ⟨s0, s1, s2, s3, sl⟩ := (M4.out.below hbw).cells
        clear hdep hoth
        go_simp
        exact hK _ _ (Below.refl _ _) rfl
       ·intro a' w' hB hdep hoth K hK
        have hK := growB hB hK
        rw [if_pos (guard_none rfl)]
        have hbw : Below W4.heap.size W4 w' := (below_drewN (Below.refl _ _) 1).trans hB
        have t2 := hoth 2 (notDst_at (by kernel_rfl))
        simp only [List.getElem?_toArray, List.getElem?_cons_succ, List.getElem?_cons_zero] at t2
        clear hdep hoth
        go_simp
        exact hK _ _ (Below.refl _ _) rfl
       ·intro a' w' hB hdep hoth K hK
        have hK := growB hB hK
        rw [if_pos (guard_none rfl)]
        have hbw : Below W4.heap.size W4 w' := (below_drewN (Below.refl _ _) 1).trans hB
        obtain ⟨v0, g0, e0⟩ := hdep ⟨1, .data⟩ (by simp) rfl
        have g0 := g0 35 rfl (by simp)
        obtain rfl : v0 = .agg bv := e0
        obtain ⟨v1, g1, e1⟩ := hdep ⟨2, .data⟩ (by simp) rfl
        have g1 := g1 36 rfl (by simp)
        obtain rfl : v1 = .agg #[.bool on, .int .i64 frm, .int .i64 beh, .slice sa L.length sc] := e1
        obtain ⟨v2, g2, e2⟩ := hdep ⟨3, .data⟩ (by simp) rfl
        have g2 := g2 37 rfl (by simp)
        obtain rfl : v2 = .int .i64 now := e2
        have hbq := M4.out.bel.trans (hbw.mono M4.out.bel.size)
        have HA := hid (reap_any B bv on frm beh now (.slice sa L.length sc) L w' (HV4.out.below hbw).is (M4.out.rs.below hbw) (HF.out.up (by omega)) HL60.out (by have := HG.out.2.2; omega) (HC.out.below hbq) (HL.out.below hbq))
        clear hdep hoth hbq
        go_simp
        refine HA.out.mono ?_
        rintro e w'' ⟨v, rfl, he, hb⟩
        exact hK v _ hb he
       ·intro a' w' hB hdep hoth K hK
        have hK := growB hB hK
        rw [if_pos (guard_none rfl)]
        have hbw : Below W4.heap.size W4 w' := (below_drewN (Below.refl _ _) 1).trans hB
        obtain ⟨v0, g0, e0⟩ := hdep ⟨0, .data⟩ (by simp) rfl
        have g0 := g0 34 rfl (by simp)
        obtain rfl : v0 = .agg bv := e0
        obtain ⟨v1, g1, e1⟩ := hdep ⟨4, .data⟩ (by simp) rfl
        have g1 := g1 38 rfl (by simp)
        have e1 : RecsL w' (recordsL B L frm now) v1 := e1
        have HA := hid (rall_told (HV4.out.below hbw).is e1 HF.out (by have := HG.out.2.2; omega) HGN.out HL60.out)
        clear hdep hoth e1
        go_simp
        refine HA.out.mono ?_
        rintro e w'' ⟨v, rfl, he, hb⟩
        exact hK v _ hb (he.base hbw.size)
       ·intro a' w' hB hdep hoth K hK
        have hK := growB hB hK
        rw [if_pos (guard_none rfl)]
        have hbw : Below W4.heap.size W4 w' := (below_drewN (Below.refl _ _) 1).trans hB
        clear hdep hoth
        go_simp
        exact hK _ _ ((Below.refl _ _).alloc (Nat.le_refl _) _) ⟨w'.heap.size, rfl, hbw.size, heap_new w' _⟩
      case fin3 =>
       intro vs w' hB hs
       have hbw : Below W4.heap.size W4 w' := (below_drewN (Below.refl _ _) 1).trans hB
       have e5 := hs 5 (by decide) (by decide)
       have e5 : BrEnd W4 _ (vs 5) w' := e5
       obtain ⟨T3, e6, hT, hz⟩ := hs 6 (by decide) (by decide)
       clear hs
       refine cutQ_held (fun _ => True) (fun f => ?_)
       simp only [actOf, dstAt, if_true, List.getElem?_toArray, List.getElem?_cons_succ, List.getElem?_cons_zero, Option.bind_some, Act.put, List.setIfInBounds_toArray, List.set_cons_zero, List.set_cons_succ, List.length_cons, List.length_nil, Nat.reduceAdd]
       rw [e6]
       obtain ⟨u3, hu⟩ : ∃ u, vs 5 = u := ⟨_, rfl⟩
       rw [hu] at e5 ⊢
       obtain ⟨X3, hst, hvar, hbv, hbx, hXo, hXs⟩ := brEnd_store e5 hz rfl hbw hT
       refine wpAnyH_ready (rs := [7]) (by kernel_rfl) (by simp) ?_
       refine AllReadyH.cons rfl (fun K hK => ?_) AllReadyH.nil
       go_simp
       refine hK.out _ _ trivial (fun _ => ?_)
       clear hK K
       refine wpAnyH_done (by kernel_rfl) ?_ _
       obtain ⟨O, hO⟩ : ∃ O, outB B L frm now = O := ⟨_, rfl⟩
       rw [hO] at hvar
       have HOR := hid (show RightP O by rw [← hO]; exact out_right HR.out L frm now)
       have HOF := hid (show O.f 0 = B.f 0 ∧ O.f 1 = B.f 1 ∧ O.f 20 = B.f 20 by rw [← hO]; exact ⟨out_f B L frm now (by omega), out_f B L frm now (by omega), out_f B L frm now (by omega)⟩)
       have HOV := hid hvar
       have M5 := hid (M4.out.below hbx)
       have HST := hid (show ∀ k ∈ B.K, (frm ≤ k.since ∨ (∃ x, firstS L k.id = some x ∧ ((x.well = true ∧ x.inn = true) ∨ k.phase ≠ 4)) → k ∈ O.K) ∧ (¬ (frm ≤ k.since ∨ (∃ x, firstS L k.id = some x ∧ ((x.well = true ∧ x.inn = true) ∨ k.phase ≠ 4))) → (∃ x, firstS L k.id = some x) → ∃ y ∈ O.K, y.id = k.id ∧ (y.phase = 5 ∨ y.phase = 3) ∧ y.since = now) from fun k hk => by rw [← hO]; exact stays_plain HR.out HGN.out hk)
       clear hvar hbv hbx hXo hXs hO hz hT hbw hB e5 hu M4 HV4 HF HL60 HG HR e6
       go_wp2
       clear hst
       go_loopw [8] (fun i wr => ∃ n : Nat, n ≤ B.K.length ∧ i = .int .i64 n ∧ Below X3.heap.size X3 wr) (fun i _ => B.K.length - (intOf i).toNat)
       case atStart => exact ⟨0, Nat.zero_le _, rfl, Below.refl _ _⟩
       case round =>
        obtain ⟨n, hn, rfl, hB⟩ := hrel
        have HBr := hid hB
        have MR := hid (M5.out.below hB)
        have OR := hid (HOV.out.below hB)
        obtain ⟨bf0, bf1, bf20, bl, ka, kc, b19, brow⟩ := MR.out.br.at
        clear hB
        by_cases hlt : n < B.K.length
        ·obtain ⟨_, _, he, _, _, _, hop⟩ := brow.open
         cases he
         obtain ⟨b1, o1, rfl, hb1, hr1⟩ := hop (by omega)
         obtain ⟨k, hk⟩ := get_lt hlt
         obtain ⟨g0, g1, g2, g3, g4, g5, g6, g7⟩ := rowK hr1 hk
         have hnL : (n : Int) < (B.K.length : Int) := by omega
         have HKN := hid hk
         obtain ⟨r, hr⟩ : ∃ r, idxL O.K (fun y => y.id == k.id) = r := ⟨_, rfl⟩
         have HRR := hid hr
         have hal : Below wr.heap.size wr (wr.alloc (.cells #[.int .i64 k.id, .int .i64 k.token, .int .i64 k.version, .int .i64 k.zone, .int .u8 k.phase, .int .i64 k.since, .bool k.guarded, .bool k.complete] 41)) := (Below.refl _ _).alloc (Nat.le_refl _) _
         have HAL := hid hal
         have hld7 := (OR.out.below hal).load
         have HFD := hid (rfind13_at O u3 k.id r hr _ (OR.out.below hal).is)
         have HKW := hid (heap_new wr (.cells #[.int .i64 k.id, .int .i64 k.token, .int .i64 k.version, .int .i64 k.zone, .int .u8 k.phase, .int .i64 k.since, .bool k.guarded, .bool k.complete] 41))
         have ol := OR.out.lt
         clear hr1 hk hr hal brow hop
         go_wp2_with fail
         refine HFD.out.mono ?_
         rintro e Y ⟨rfl, hb⟩
         have hbY := HAL.out.trans (hb.mono HAL.out.size)
         have MY := hid (MR.out.below hbY)
         have OY := hid (OR.out.below hbY)
         have HKY0 := blk_below HKW.out hb (blk_lt HKW.out)
         have HBY := hid (HBr.out.trans (hbY.mono HBr.out.size))
         obtain ⟨T9, hT9⟩ : ∃ T, wr.heap.size = T := ⟨_, rfl⟩
         rw [hT9] at HKY0 ⊢
         have HKY1 := hid HKY0
         clear hb hbY hT9 HKY0 HKW HAL HFD hld7 g0 g1 g2 g3 g4 g5 g6 g7 bf0 bf1 bf20 bl b19 ol
         obtain ⟨s0, s1, s2, s3, sl⟩ := MY.out.cells
         go_wp2_with fail
         clear s0 s1 s2 s3 sl
         go_loopw [13, 11, 12] (fun i a c wq => ∃ j : Nat, j ≤ L.length ∧ i = .int .i64 ((j : Int) - 1) ∧ a = .bool (shownB (L.drop j) k.id) ∧ c = .bool (fineW (L.drop j) k.id) ∧ Below Y.heap.size Y wq) (fun i _ _ _ => (intOf i + 1).toNat)
         case atStart => exact ⟨L.length, Nat.le_refl _, by go_num, by simp [shownB, firstS], by simp [fineW, firstS], Below.refl _ _⟩
         case round =>
          obtain ⟨j, hj, rfl, rfl, rfl, hB⟩ := hrel
          obtain ⟨wq, hwq⟩ : ∃ W : World, W = wr := ⟨_, rfl⟩
          rw [← hwq] at hB ⊢
          clear hwq
          have HBQ := hid hB
          have MQ := hid (MY.out.below hB)
          have HOY := hid (OY.out.below hB)
          have HKY := hid (blk_below HKY1.out hB (blk_lt HKY1.out))
          have HBYQ := hid (HBY.out.trans (hB.mono HBY.out.size))
          obtain ⟨s0, s1, s2, s3, sl⟩ := MQ.out.cells
          obtain ⟨k0, k1, k2, k3, k4, k5, k6, k7, kl⟩ := kept_cells HKY.out
          clear hB
          cases j with
          | succ q =>
           rw [show (((q + 1 : Nat) : Int) - 1) = (q : Int) by omega]
           have hqL : q < L.length := hj
           obtain ⟨_, _, he, _, _, _, hop⟩ := MQ.out.rs.open
           cases he
           obtain ⟨b2, o2, hsa, hb2, hr2⟩ := hop (by omega)
           obtain ⟨x, hx⟩ := get_lt hqL
           obtain ⟨x0, x1, x2, x3, x4, x5, x6⟩ := rowS hr2 hx
           have hqI : (q : Int) < (L.length : Int) := by omega
           have hq0 : ¬ ((q : Int) < 0) := by omega
           have HSH := hid (shown_at hx k.id)
           rw [hsa] at s3
           clear hr2 hx hop hsa
           by_cases hxk : x.id = k.id
           ·have dx : (x.id == k.id) = true := by simpa using hxk
            have HXK := hid hxk
            clear hxk
            cases hw : x.well with
            | false =>
             rw [hw] at x5
             have HF2 := hid (show fineW (L.drop q) k.id = false by rw [(HSH.out.1 HXK.out).2, hw]; rfl)
             clear hw
             go_wp2_with fail
             go_quiet (fail)
             go_wp2
             go_roundw
             case rel => exact ⟨q, by omega, by go_num, by rw [(HSH.out.1 HXK.out).1], by rw [HF2.out], below_drewN HBQ.out _⟩
             case measure => simp [intOf]
            | true =>
             rw [hw] at x5
             have HF2 := hid (show fineW (L.drop q) k.id = x.inn by rw [(HSH.out.1 HXK.out).2, hw]; rfl)
             clear hw
             go_wp2_with fail
             go_quiet (fail)
             go_wp2
             go_roundw
             case rel => exact ⟨q, by omega, by go_num, by rw [(HSH.out.1 HXK.out).1], by rw [HF2.out], below_drewN HBQ.out _⟩
             case measure => simp [intOf]
           ·have dx : (x.id == k.id) = false := by simpa using hxk
            have HXK := hid hxk
            clear hxk
            go_wp2_with fail
            go_quiet (fail)
            go_wp2
            go_roundw
            case rel => exact ⟨q, by omega, by go_num, by rw [(HSH.out.2 HXK.out).1], by rw [(HSH.out.2 HXK.out).2], below_drewN HBQ.out _⟩
            case measure => simp [intOf]
          | zero =>
           rw [show (((0 : Nat) : Int) - 1) = -1 by omega, List.drop_zero]
           have HBY := HBYQ
           by_cases hsi : frm ≤ k.since
           ·have ds : decide (frm ≤ k.since) = true := decide_eq_true hsi
            obtain ⟨sh, hsh⟩ : ∃ b, shownB L k.id = b := ⟨_, rfl⟩
            obtain ⟨fi, hfi⟩ : ∃ b, fineW L k.id = b := ⟨_, rfl⟩
            rw [hsh, hfi]
            clear hsh hfi
            have hmem := (HST.out k (mem_get HKN.out)).1 (.inl hsi)
            obtain ⟨j, hjr, hj⟩ := find_mem HOR.out.ids hmem
            obtain rfl : r = (j : Int) := by rw [← HRR.out]; exact hjr
            obtain ⟨_, _, _, tl7, oa, oc, o19, orow⟩ := HOY.out.at
            obtain ⟨_, _, he, _, _, _, hop7⟩ := orow.open
            cases he
            obtain ⟨b7, o7, rfl, hb7, hr7⟩ := hop7 (by have := lt_get hj; omega)
            obtain ⟨y0, y1, y2, y3, y4, y5, y6, y7⟩ := rowK hr7 hj
            have hjl : (j : Int) < (O.K.length : Int) := by have := lt_get hj; omega
            have hj0 : ¬ ((j : Int) < 0) := by omega
            have hne := neqkpE_run k k
            rw [kpEB_iff.2 (rfl : k = k)] at hne
            clear hmem hjr orow hop7 hr7 hj
            go_wp2_with fail
            go_quiet (fail)
            go_wp2
            go_roundw
            case rel => exact ⟨n + 1, by omega, by go_num, below_drewN HBY.out _⟩
            case measure => simp [intOf]; omega
           ·have ds : decide (frm ≤ k.since) = false := decide_eq_false hsi
            cases hfs : firstS L k.id with
            | none =>
             have h1 : shownB L k.id = false := by unfold shownB; rw [hfs]; rfl
             have h2 : fineW L k.id = false := by unfold fineW; rw [hfs]
             rw [h1, h2]
             clear hfs h1 h2 hsi
             go_wp2
             go_roundw
             case rel => exact ⟨n + 1, by omega, by go_num, HBY.out⟩
             case measure => simp [intOf]; omega
            | some x =>
             have h1 : shownB L k.id = true := by unfold shownB; rw [hfs]; rfl
             cases hfi : (x.well && x.inn) with
             | true =>
              have h2 : fineW L k.id = true := by unfold fineW; rw [hfs]; exact hfi
              rw [h1, h2]
              have hxx : x.well = true ∧ x.inn = true := by simpa using hfi
              clear h1 h2 hfi
              have hmem := (HST.out k (mem_get HKN.out)).1 (.inr ⟨x, hfs, .inl hxx⟩)
              obtain ⟨j, hjr, hj⟩ := find_mem HOR.out.ids hmem
              obtain rfl : r = (j : Int) := by rw [← HRR.out]; exact hjr
              obtain ⟨_, _, _, tl7, oa, oc, o19, orow⟩ := HOY.out.at
              obtain ⟨_, _, he, _, _, _, hop7⟩ := orow.open
              cases he
              obtain ⟨b7, o7, rfl, hb7, hr7⟩ := hop7 (by have := lt_get hj; omega)
              obtain ⟨y0, y1, y2, y3, y4, y5, y6, y7⟩ := rowK hr7 hj
              have hjl : (j : Int) < (O.K.length : Int) := by have := lt_get hj; omega
              have hj0 : ¬ ((j : Int) < 0) := by omega
              have hne := neqkpE_run k k
              rw [kpEB_iff.2 (rfl : k = k)] at hne
              clear hmem hjr orow hop7 hr7 hj
              go_wp2_with fail
              go_quiet (fail)
              go_wp2
              go_roundw
              case rel => exact ⟨n + 1, by omega, by go_num, below_drewN HBY.out _⟩
              case measure => simp [intOf]; omega
             | false =>
              have h2 : fineW L k.id = false := by unfold fineW; rw [hfs]; exact hfi
              have hxx : ¬ (x.well = true ∧ x.inn = true) := by simpa using hfi
              rw [h1, h2]
              clear h1 h2 hfi
              by_cases hp : k.phase = 4
              ·rw [hp] at k4
               obtain ⟨y, hym, hyid, hyp, hys⟩ := (HST.out k (mem_get HKN.out)).2 (fun h => h.elim hsi (fun ⟨x', h1, h2⟩ => by rw [hfs] at h1; cases h1; exact h2.elim hxx (fun h3 => h3 hp))) ⟨x, hfs⟩
               obtain ⟨j, hjr, hj⟩ := find_mem HOR.out.ids hym
               rw [hyid] at hjr
               obtain rfl : r = (j : Int) := by rw [← HRR.out]; exact hjr
               obtain ⟨_, _, _, tl7, oa, oc, o19, orow⟩ := HOY.out.at
               obtain ⟨_, _, he, _, _, _, hop7⟩ := orow.open
               cases he
               obtain ⟨b7, o7, rfl, hb7, hr7⟩ := hop7 (by have := lt_get hj; omega)
               obtain ⟨y0, y1, y2, y3, y4, y5, y6, y7⟩ := rowK hr7 hj
               have hjl : (j : Int) < (O.K.length : Int) := by have := lt_get hj; omega
               have hj0 : ¬ ((j : Int) < 0) := by omega
               rw [hys] at y5
               clear hym hyid hjr orow hop7 hr7 hj hys
               rcases hyp with hyp | hyp
               ·rw [hyp] at y4
                clear hyp
                go_wp2
                go_roundw
                case rel => exact ⟨n + 1, by omega, by go_num, HBY.out⟩
                case measure => simp [intOf]; omega
               ·rw [hyp] at y4
                clear hyp
                go_wp2
                go_roundw
                case rel => exact ⟨n + 1, by omega, by go_num, HBY.out⟩
                case measure => simp [intOf]; omega
              ·have hmem := (HST.out k (mem_get HKN.out)).1 (.inr ⟨x, hfs, .inr hp⟩)
               obtain ⟨j, hjr, hj⟩ := find_mem HOR.out.ids hmem
               obtain rfl : r = (j : Int) := by rw [← HRR.out]; exact hjr
               obtain ⟨_, _, _, tl7, oa, oc, o19, orow⟩ := HOY.out.at
               obtain ⟨_, _, he, _, _, _, hop7⟩ := orow.open
               cases he
               obtain ⟨b7, o7, rfl, hb7, hr7⟩ := hop7 (by have := lt_get hj; omega)
               obtain ⟨y0, y1, y2, y3, y4, y5, y6, y7⟩ := rowK hr7 hj
               have hjl : (j : Int) < (O.K.length : Int) := by have := lt_get hj; omega
               have hj0 : ¬ ((j : Int) < 0) := by omega
               have hne := neqkpE_run k k
               rw [kpEB_iff.2 (rfl : k = k)] at hne
               clear hmem hjr orow hop7 hr7 hj
               go_wp2_with fail
               go_quiet (fail)
               go_wp2
               go_roundw
               case rel => exact ⟨n + 1, by omega, by go_num, below_drewN HBY.out _⟩
               case measure => simp [intOf]; omega
        ·obtain rfl : n = B.K.length := by omega
         obtain ⟨of0, of1, of20, ol, _⟩ := OR.out.at
         rw [HOF.out.1] at of0
         rw [HOF.out.2.1] at of1
         rw [HOF.out.2.2] at of20
         have e0 : (B.f 0 == B.f 0) = true := by simp
         have e1 : (B.f 1 == B.f 1) = true := by simp
         have e20 : (B.f 20 == B.f 20) = true := by simp
         clear brow
         go_wp2_with fail
         refine (HWK.out _ MR.out.bel).mono ?_
         rintro e Wz ⟨rfl, hb⟩
         have HBz := hid (Below.trans MR.out.bel (hb.mono MR.out.bel.size))
         clear hb e0 e1 e20
         go_wp2
         go_ret
         exact ⟨rfl, HBz.out⟩
end Go.Proofs.YtgcajfglidflnaaDoor
