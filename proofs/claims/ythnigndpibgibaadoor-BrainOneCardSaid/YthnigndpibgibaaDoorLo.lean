/- BrainOne: a record of one instance changes no other one. Printed by gn_lo.py. -/
import Derived.Test.YthnigndpibgibaaDoorLr
import Derived.Test.YthnigndpibgibaaDoorRft
import Derived.Test.YthnigndpibgibaaDoorPl1
import Derived.Lib.QuietBelow
import Derived.BigQuiet
namespace Go.Proofs.YthnigndpibgibaaDoor
open Go.RowKit Go.Shelf
attribute [-go_sem] loadVar storeVar Instr.buildSlice run_equalIn_agg
attribute [local go_sem] load_other3 store_other

theorem bs_rec (k : Int) (a : Option Addr) (n c : Nat) (w : World) : (Instr.buildSlice 31 1 #[(0, .agg #[.int .u8 k, .slice a n c])]).run Tryd.prog w = .ok (.slice (some ⟨w.heap.size, 0, none⟩) 1 1) (w.alloc (.cells #[.int .u8 k, .slice a n c] 37)) := by kernel_rfl
theorem bs_kept (w : World) : (Instr.buildSlice 26 0 #[]).run Tryd.prog w = .ok (.slice (some ⟨w.heap.size, 0, none⟩) 0 0) (w.alloc (.cells #[] 43)) := by kernel_rfl
/-- A brain's row of Kept, set anew. -/
theorem setK_var {W0 w1 : World} {T base : Nat} {O : BrainV} {K' : List KeptV} {m i k kv' : Value} (hB : BrVar W0 w1 T O) (hV : VarIs w1 T O (.agg (brT O.f O.g m i k))) (ho : OwnK w1 base kv' K') :
    VarIs (w1.setCell ⟨T, 19, none⟩ kv') T { O with K := K' } (.agg (brT O.f O.g m i kv')) := by
  obtain ⟨mq, iq, kq, q0, q1, q2, _⟩ := hB
  obtain ⟨m', i', k', e, g0, _⟩ := hV
  have e := congrArg (fun v : Value => match v with | .agg c => (c[17]?, c[18]?, c[19]?) | _ => (none, none, none)) e
  simp [brT] at e
  obtain ⟨rfl, rfl, rfl⟩ := e
  have q0' := q0
  have g0' := g0
  unfold BB at q0' g0'
  rw [q0'] at g0'
  have e := congrArg (fun o : Option Obj => match o with | some (.cells c _) => (c[17]?, c[18]?) | _ => (none, none)) g0'
  simp [brT] at e
  obtain ⟨rfl, rfl⟩ := e
  refine ⟨_, _, _, rfl, blk_set g0 19 _, ?_, ?_, ?_⟩
  · exact (q1.kept (KeptT.set (p := ⟨T, 19, none⟩) g0 (by decide) _)).row
  · exact (owns_at q2 g0 (by decide) 19 _).row encIn_len (by decide)
  · exact (owns_at ho g0 (by decide) 19 _).row encKp_len (by decide)
theorem sameB_of {A B : BrainV} (h : A = B) : sameB A B = true := by rw [h]; exact sameB_refl B
set_option maxRecDepth 100000 in
set_option maxHeartbeats 8000000 in
theorem one_law (B : BrainV) (bv s : Value) (k : Int) (L : List Int) (w : World) (hB : BrIs w B bv) (hs : RowOf 1 encI w s L) (hph : ∀ x ∈ B.K, in8 x.phase) (hC : Changes w) (hLm : Limits w) :
    Calls Tryd.prog 7 #[bv, recV k s] w fun e w' => e = .returned (.bool true) ∧ Below w.heap.size w w' := by
  obtain ⟨sa, sc, rfl, p1, p2, p3, hop⟩ := hs.open
  obtain ⟨ma, mc, ia, ic, ka, kc, rfl, hm, hi, hk⟩ := hB.open
  have HB := hid hB
  have HS := hid hs
  have HC := hid hC
  have HL := hid hLm
  have HOP := hid hop
  obtain ⟨bv, hbv⟩ : ∃ bv, bv = brT B.f B.g (.slice ma B.M.length mc) (.slice ia B.I.length ic) (.slice ka B.K.length kc) := ⟨_, rfl⟩
  obtain ⟨W1, hW1⟩ : ∃ W1, W1 = (w.alloc (.cells bv 30)).alloc (.cells #[.int .u8 k, .slice sa L.length sc] 37) := ⟨_, rfl⟩
  have hb1 : Below w.heap.size w W1 := by rw [hW1]; exact ((Below.refl _ _).alloc (Nat.le_refl _) _).alloc (by simp) _
  have n1 : BB W1 w.heap.size bv := by rw [hW1]; exact blk_alloc (heap_new _ _) _
  have r1 : W1.heap[w.heap.size + 1]? = some (.cells #[.int .u8 k, .slice sa L.length sc] 37) := by rw [hW1]; exact heap_new2 _ _ _
  have hz1 : W1.heap.size = w.heap.size + 2 := by rw [hW1]; simp
  have hV1 : VarIs W1 w.heap.size B (.agg bv) := by rw [hbv] at n1 ⊢; exact ⟨_, _, _, rfl, n1, hm.below hb1, hi.below hb1, hk.below hb1⟩
  have hrr := RecsR.one (k := k) (hs.below hb1)
  obtain ⟨W2, hW2⟩ : ∃ W2, W2 = W1.alloc (.cells #[.int .u8 k, .slice sa L.length sc] 37) := ⟨_, rfl⟩
  rw [← hW2] at hrr
  have hb2 : Below W1.heap.size W1 W2 := by rw [hW2]; exact (Below.refl _ _).alloc (Nat.le_refl _) _
  have hV2 := hV1.below hb2
  obtain ⟨xr, hxB, hxr⟩ := BrsR.one (hV2.is) rfl
  obtain ⟨W3, hW3⟩ : ∃ W3, W3 = W2.alloc (.cells bv 30) := ⟨_, rfl⟩
  rw [← hW3] at hxr
  have hb3 : Below W2.heap.size W2 W3 := by rw [hW3]; exact (Below.refl _ _).alloc (Nat.le_refl _) _
  have hz2 : W2.heap.size = w.heap.size + 3 := by rw [hW2]; simp; omega
  have HGR := hid (great13_any _ _ [⟨k, .slice sa L.length sc, L⟩] [xr] W3 (hrr.below hb3) hxr)
  rw [hz1, hz2] at HGR
  have HV3 := hid (hV2.below hb3)
  have HR1 := hid r1
  have HB1 := hid hb1
  have hb13 := hb2.trans (hb3.mono hb2.size)
  have HR3 := hid (blk_below r1 hb13 (blk_lt r1))
  have HB3 := hid (hb1.trans (hb13.mono hb1.size))
  have HW1 := hid hW1
  have HW2 := hid hW2
  have HW3 := hid hW3
  have HPH := hid hph
  have HXB := hid hxB
  have HBV := hid hbv
  have hld := hV2.load
  have hbs := bs_brain B.f B.g (.slice ma B.M.length mc) (.slice ia B.I.length ic) (.slice ka B.K.length kc)
  rw [← hbv] at hbs HB ⊢
  have hbr := bs_rec k sa L.length sc
  have x0 : W1.cell? ⟨w.heap.size + 1, 0, none⟩ = some (.int .u8 k) := blk_cell r1 0
  have x1 : W1.cell? ⟨w.heap.size + 1, 1, none⟩ = some (.slice sa L.length sc) := blk_cell r1 1
  have lx := blk_lt r1
  rw [hW2, hW1] at hld
  rw [hW1] at x0 x1 lx
  clear hB hs hC hLm hop hm hi hk hb1 n1 r1 hV1 hV2 hrr hxr hb2 hb3 hb13 hph hbv hxB hz1 hz2
  unfold recV
  go_enter Tryd.func7, Tryd.ntmps7
  go_wp2_with fail
  rw [← HW1.out, ← HW2.out, ← HW3.out]
  refine HGR.out.mono ?_
  rintro e W4 ⟨q, rfl, hq, hb⟩
  have HB4 := hid (HB3.out.trans (hb.mono HB3.out.size))
  have HV4 := hid (HV3.out.below hb)
  have HR4 := hid (blk_below HR3.out hb (blk_lt HR3.out))
  have hld := HV4.out.load
  have HQ := hid hq
  clear hb hq hbs hbr hW1 hW2 hW3 x0 x1 lx
  cases q with
  | true =>
    go_wp2_with fail
    refine (wakes_any W4 (HC.out.below HB4.out) (HL.out.below HB4.out)).mono ?_
    rintro e Ww ⟨rfl, hb⟩
    have HBw := hid (HB4.out.trans (hb.mono HB4.out.size))
    clear hb
    go_wp2
    go_ret
    exact ⟨rfl, HBw.out⟩
  | false =>
    obtain ⟨_, hL40, hG⟩ := HQ.out rfl
    have hL40 : L.length ≤ 40 := hL40 _ (List.mem_singleton.2 rfl)
    have hgr := hG xr (List.mem_singleton.2 rfl)
    rw [HXB.out] at hgr
    have hgb : B.I.length ≤ 40 ∧ B.K.length ≤ 40 ∧ B.M.length ≤ 40 := by
      unfold greatB at hgr
      simp only [Bool.or_eq_false_iff, decide_eq_false_iff_not] at hgr
      omega
    have HGB := hid hgb
    clear hgr hG hgb
    obtain ⟨rq, hrq⟩ : ∃ rq, rightB B = rq := ⟨_, rfl⟩
    have HRQ := hid hrq
    have HRR := hid (rright_is rq hrq HV4.out.is)
    clear hrq
    go_wp2_with fail
    refine HRR.out.mono ?_
    rintro e W5 ⟨rfl, hb⟩
    have HB5 := hid (HB4.out.trans (hb.mono HB4.out.size))
    have HV5 := hid (HV4.out.below hb)
    have HR5 := hid (blk_below HR4.out hb (blk_lt HR4.out))
    clear hb hld
    cases rq with
    | false =>
      go_wp2_with fail
      refine (wakes_any W5 (HC.out.below HB5.out) (HL.out.below HB5.out)).mono ?_
      rintro e Ww ⟨rfl, hb⟩
      have HBw := hid (HB5.out.trans (hb.mono HB5.out.size))
      clear hb
      go_wp2
      go_ret
      exact ⟨rfl, HBw.out⟩
    | true =>
      have HRP := hid (rightP_iff.1 HRQ.out)
      have HFI := hid (show Fine B 40 from ⟨HGB.out.1, HGB.out.2.1, HPH.out⟩)
      have x0 : W5.cell? ⟨w.heap.size + 1, 0, none⟩ = some (.int .u8 k) := blk_cell HR5.out 0
      have x1 : W5.cell? ⟨w.heap.size + 1, 1, none⟩ = some (.slice sa L.length sc) := blk_cell HR5.out 1
      have lx := blk_lt HR5.out
      have hld := HV5.out.load
      have HA := hid (apply_is k L 40 HV5.out.is ⟨_, rfl, HS.out.below HB5.out⟩ HFI.out (by omega) (by have := HGB.out.2.2; omega) (by omega) (HC.out.below HB5.out) (HL.out.below HB5.out))
      obtain ⟨O, hO⟩ : ∃ O, applyB B k L = O := ⟨_, rfl⟩
      rw [hO] at HA
      have HO := hid hO
      have hro := (HRP.out.apply k L).1
      rw [hO] at hro
      have HRO := hid hro
      clear hO hro
      go_wp2_with fail
      refine HA.out.mono ?_
      rintro e V ⟨u, rfl, hend, hb⟩
      have hbz : Below V.heap.size V (V.alloc (.cells #[.int .i64 0, .int .i64 0, .bool false, .int .i64 0, .int .i64 0, .int .i64 0, .int .i64 0, .int .i64 0, .int .i64 0, .int .i64 0, .int .i64 0, .int .i64 0, .int .i64 0, .int .i64 0, .int .i64 0, .int .i64 0, .bool false, .slice none 0 0, .slice none 0 0, .slice none 0 0, .int .u8 0, .int .i64 0, .int .i64 0, .int .i64 0, .bool false, .int .i64 0, .int .i64 0] 30)) := (Below.refl _ _).alloc (Nat.le_refl _) _
      have hzz : (V.alloc (.cells #[.int .i64 0, .int .i64 0, .bool false, .int .i64 0, .int .i64 0, .int .i64 0, .int .i64 0, .int .i64 0, .int .i64 0, .int .i64 0, .int .i64 0, .int .i64 0, .int .i64 0, .int .i64 0, .int .i64 0, .int .i64 0, .bool false, .slice none 0 0, .slice none 0 0, .slice none 0 0, .int .u8 0, .int .i64 0, .int .i64 0, .int .i64 0, .bool false, .int .i64 0, .int .i64 0] 30)).heap[V.heap.size]? = some (.cells #[.int .i64 0, .int .i64 0, .bool false, .int .i64 0, .int .i64 0, .int .i64 0, .int .i64 0, .int .i64 0, .int .i64 0, .int .i64 0, .int .i64 0, .int .i64 0, .int .i64 0, .int .i64 0, .int .i64 0, .int .i64 0, .bool false, .slice none 0 0, .slice none 0 0, .slice none 0 0, .int .u8 0, .int .i64 0, .int .i64 0, .int .i64 0, .bool false, .int .i64 0, .int .i64 0] 30) := heap_new _ _
      obtain ⟨X, hst, hvar, hbv5, hbx, _, _⟩ := brEnd_store (hend.below hbz) hzz rfl hbz (Nat.le_refl _)
      have hbV := HB5.out.trans (hb.mono HB5.out.size)
      have HBX := hid (hbV.trans (hbx.mono hbV.size))
      have HVO := hid hvar
      have HBVO := hid hbv5
      have hb5x := hb.trans (hbx.mono hb.size)
      have HVB := hid (HV5.out.below hb5x)
      have HRB := hid (blk_below HR5.out hb5x (blk_lt HR5.out))
      obtain ⟨T5, hT5⟩ : ∃ T, V.heap.size = T := ⟨_, rfl⟩
      have hTw : w.heap.size ≤ T5 := by rw [← hT5]; exact hbV.size
      have HB5X := hid hb5x
      have hTw5 : W5.heap.size ≤ T5 := by rw [← hT5]; exact hb.size
      clear hb hend hbz hzz hvar hbv5 hbx hbV hb5x x0 x1 lx hld
      rw [hT5] at HVO HBVO hst
      obtain ⟨oma, omc, oia, oic, oka, okc, rfl, obb, om, oi, ok⟩ := HVO.out.open
      obtain ⟨cma, cmc, cia, cic, cka, ckc, cu, cbb, cm, ci, ck⟩ := HVB.out.open
      obtain ⟨_, _, he, _, _, _, hoko⟩ := ok.open
      cases he
      obtain ⟨_, _, he, _, _, _, hokc⟩ := ck.open
      cases he
      have OBB := hid obb
      have CBB := hid cbb
      have HOKO := hid hoko
      have HOKC := hid hokc
      have CK := hid ck
      have HCU := hid cu
      have x0 : X.cell? ⟨w.heap.size + 1, 0, none⟩ = some (.int .u8 k) := blk_cell HRB.out 0
      have x1 : X.cell? ⟨w.heap.size + 1, 1, none⟩ = some (.slice sa L.length sc) := blk_cell HRB.out 1
      have lx := blk_lt HRB.out
      have b19 : X.cell? ⟨w.heap.size, 19, none⟩ = some (.slice cka B.K.length ckc) := blk_cell cbb 19
      have o19 : X.cell? ⟨T5, 19, none⟩ = some (.slice oka O.K.length okc) := blk_cell obb 19
      have B19 := hid b19
      have O19 := hid o19
      have X1 := hid x1
      have lb := blk_lt cbb
      have lo := blk_lt obb
      have OM := hid om
      have CM := hid cm
      clear obb om oi ok cbb cm ci ck hoko hokc b19 o19 cu
      by_cases hki : kindI k ∧ 0 < L.length
      · have hone := one_inst hki.1 L (B := B)
        rw [HO.out] at hone
        have HONE := hid hone
        have hlen : decide ((0 : Int) < (L.length : Int)) = true := decide_eq_true (by have := hki.2; omega)
        have hl0 := hki.2
        obtain ⟨t0, ht0⟩ := get_lt hl0
        have HT0 := hid ht0
        obtain ⟨b9, o9, hsa, hb9, hr9⟩ := HOP.out hl0
        have HR9 := hid hr9
        have HKI := hid hki.1
        have ht : L.getD 0 0 = t0 := by rw [List.getD_eq_getElem?_getD, HT0.out]; rfl
        have HT := hid ht
        clear hki hone ht0 hr9 ht
        subst hsa
        rcases HKI.out with rfl | rfl | rfl | rfl | rfl
        all_goals
          go_wp2
          clear x0 x1
          go_loopw [7, 8] (fun i _ wr => ∃ n : Nat, n ≤ B.K.length ∧ i = .int .i64 n ∧ Below X.heap.size X wr) (fun i _ _ => B.K.length - (intOf i).toNat)
          case atStart => exact ⟨0, Nat.zero_le _, rfl, Below.refl _ _⟩
          case round =>
            obtain ⟨n, hn, rfl, hBr⟩ := hrel
            have HBr := hid hBr
            have HBW := hid (HBX.out.trans (hBr.mono HBX.out.size))
            have y19 := cell_below B19.out hBr
            have lb2 : w.heap.size < wr.heap.size := Nat.lt_of_lt_of_le lb hBr.size
            clear hBr
            by_cases hlt : n < B.K.length
            · obtain ⟨b2, o2, rfl, hb2, hr2⟩ := HOKC.out (by omega)
              obtain ⟨x, hx⟩ := get_lt hlt
              obtain ⟨g0, g1, g2, g3, g4, g5, g6, g7⟩ := rowK (hr2.below HBr.out hb2) hx
              have t9 := rowN1 (HR9.out.below HBW.out hb9) HT0.out
              simp only [Nat.add_zero] at t9
              have z1 := cell_below X1.out HBr.out
              have z19 := cell_below O19.out HBr.out
              have hnL : (n : Int) < (B.K.length : Int) := by omega
              have l2 : b2 < wr.heap.size := Nat.lt_of_lt_of_le hb2 HBr.out.size
              have l9 : b9 < wr.heap.size := Nat.lt_of_lt_of_le hb9 HBW.out.size
              have lo2 : T5 < wr.heap.size := Nat.lt_of_lt_of_le lo HBr.out.size
              have lx2 : w.heap.size + 1 < wr.heap.size := Nat.lt_of_lt_of_le lx HBr.out.size
              have hlen : decide ((0 : Int) < (L.length : Int)) = true := decide_eq_true (by omega)
              obtain ⟨at', hat⟩ : ∃ r, idxL O.K (fun y => y.id == x.id) = r := ⟨_, rfl⟩
              have HAT := hid hat
              have hfd := fun V (hV : Below wr.heap.size wr V) => rfind13_at O _ x.id at' hat V ((HVO.out.below (HBr.out.trans (hV.mono HBr.out.size))).is)
              have HFD := hid hfd
              have HX := hid hx
              have kq := fun d os => cell_regrown g0 d os
              have kb := fun d os => cell_regrown y19 d os
              have kl := fun d os => ((HVO.out.below HBr.out).below (below_regrown wr d os)).load
              have HCALL := hid (fun d os => Calls.regrown_of (d := d) (os := os) (w := wr) (HFD.out _ (below_regrown wr d os)))
              clear hx hr2 hat hfd
              go_wp2_with fail
              refine wp_region_quiet_below (by kernel_rfl) (by kernel_rfl) ?_
              repeat (quiet_step (exact HCALL.out _ _))
              refine wpQuiet_nil ?_
              intro _ hw'
              obtain ⟨⟨dq, osq⟩, hw''⟩ := hw'
              subst hw''
              have hbq := below_regrown wr dq osq
              obtain ⟨Y, hY⟩ : ∃ Y, Y = Sort.grow (redrawn wr dq) osq := ⟨_, rfl⟩
              rw [← hY] at hbq ⊢
              have HBQ := hid hbq
              have g0 := cell_below g0 hbq
              have g1 := cell_below g1 hbq
              have g2 := cell_below g2 hbq
              have g3 := cell_below g3 hbq
              have g4 := cell_below g4 hbq
              have g5 := cell_below g5 hbq
              have g6 := cell_below g6 hbq
              have g7 := cell_below g7 hbq
              have t9 := cell_below t9 hbq
              have z1 := cell_below z1 hbq
              have z19 := cell_below z19 hbq
              have y19 := cell_below y19 hbq
              have l2 : b2 < Y.heap.size := Nat.lt_of_lt_of_le l2 hbq.size
              have l9 : b9 < Y.heap.size := Nat.lt_of_lt_of_le l9 hbq.size
              have lo2 : T5 < Y.heap.size := Nat.lt_of_lt_of_le lo2 hbq.size
              have lx2 : w.heap.size + 1 < Y.heap.size := Nat.lt_of_lt_of_le lx2 hbq.size
              have lb2 : w.heap.size < Y.heap.size := Nat.lt_of_lt_of_le lb2 hbq.size
              clear hY kq kb kl HCALL hbq
              obtain ⟨xi, hxi⟩ : ∃ u, x.id = u := ⟨_, rfl⟩
              by_cases hid0 : xi = t0
              · have d0 : (xi != t0) = false := by simpa using hid0
                rw [hxi] at g0
                clear hid0 hxi
                go_wp2
                go_quiet (fail)
                go_wp2
                go_roundw
                case rel => exact ⟨n + 1, by omega, by go_num, below_drewN (HBr.out.trans (HBQ.out.mono HBr.out.size)) _⟩
                case measure => simp [intOf]; omega
              · have d0 : (xi != t0) = true := by simpa using hid0
                have hmem := HONE.out.2.2.2.2 x (mem_get HX.out) (by rw [HT.out, hxi]; exact hid0)
                obtain ⟨j, hj, hjx⟩ := find_mem HRO.out.ids hmem
                obtain rfl : at' = (j : Int) := by rw [← HAT.out]; exact hj
                have hjl := lt_get hjx
                obtain ⟨b6, o6, rfl, hb6, hr6⟩ := HOKO.out (by omega)
                obtain ⟨f0, f1, f2, f3, f4, f5, f6, f7⟩ := rowK (hr6.below (HBr.out.trans (HBQ.out.mono HBr.out.size)) hb6) hjx
                have l6 : b6 < Y.heap.size := Nat.lt_of_lt_of_le hb6 (HBr.out.trans (HBQ.out.mono HBr.out.size)).size
                have hjL : (j : Int) < (O.K.length : Int) := by omega
                have d1 : decide ((j : Int) < 0) = false := decide_eq_false (by omega)
                have hne := neqkpE_run x x
                rw [kpEB_iff.2 rfl] at hne
                rw [hxi] at g0 f0 hne
                clear hid0 hmem hj hjx hr6 hxi
                go_wp2
                go_quiet (fail)
                go_wp2
                go_roundw
                case rel => exact ⟨n + 1, by omega, by go_num, below_drewN (HBr.out.trans (HBQ.out.mono HBr.out.size)) _⟩
                case measure => simp [intOf]; omega
            · obtain rfl : n = B.K.length := by omega
              obtain ⟨i0, hi, hz0, hz1, hz2⟩ := info_parts infoKp
              obtain ⟨Y0, hY0⟩ : ∃ Y, Y = wr.alloc (.cells #[] 43) := ⟨_, rfl⟩
              have hbY : Below wr.heap.size wr Y0 := by rw [hY0]; exact (Below.refl _ _).alloc (Nat.le_refl _) _
              have hown : OwnK Y0 wr.heap.size (.slice (some ⟨wr.heap.size, 0, none⟩) 0 0) ([] : List KeptV) := by
                rw [hY0]
                have := World.ownsRow_made (e := 43) (size := 8) (base := wr.heap.size) wr #[] 0 (by simp) (by decide) rfl
                simpa [Owns] using this
              have HOWN := hid hown
              have HKR := hid ((CK.out.below HBr.out).below hbY)
              have c1 : ([] : List KeptV).length + B.K.length ≤ maxLen := by have := HGB.out.2.1; unfold maxLen; simp; omega
              have c2 : (([] : List KeptV).length + B.K.length) * 56 ≤ 140737488355328 := by have := HGB.out.2.1; simp; omega
              have c3 : wr.heap.size ≤ Y0.heap.size := hbY.size
              have HBY := hid hbY
              have OB0 := hid (blk_below (blk_below OBB.out HBr.out lo) hbY (Nat.lt_of_lt_of_le lo HBr.out.size))
              have HY0 := hid hY0
              have hbk := bs_kept
              have yy : Y0.cell? ⟨w.heap.size, 19, none⟩ = some (.slice cka B.K.length ckc) := cell_below y19 hbY
              have lb3 : w.heap.size < Y0.heap.size := Nat.lt_of_lt_of_le lb2 hbY.size
              have lo3 : T5 < Y0.heap.size := Nat.lt_of_lt_of_le (Nat.lt_of_lt_of_le lo HBr.out.size) hbY.size
              rw [hY0] at yy lb3
              have hOB : ({ O with K := B.K } : BrainV) = B := by
                have h := HONE.out
                cases O
                cases B
                obtain ⟨h1, h2, h3, h4, _⟩ := h
                dsimp only at h1 h2 h3 h4
                subst h1 h2 h3 h4
                rfl
              have HOB := hid hOB
              have HBV1 := hid (HBVO.out.below HBr.out)
              have HVO1 := hid (HVO.out.below HBr.out)
              have hb5r := HB5X.out.trans (HBr.out.mono HB5X.out.size)
              have HB5R := hid hb5r
              clear hown hbY hY0 hOB hb5r
              go_wp2_with (at_builtin; rw [← HY0.out]; refine append_rows rfl _ _ 26 rfl wr.heap.size 43 i0 _ 56 Tryd.underlying26 hi hz0 hz1 hz2 rfl (by decide) encKp_len encKp_one _ [] rfl HOWN.out _ B.K rfl HKR.out c1 c2 c3 ?_; intro v' w1 hown hgrow; obtain ⟨va, vn, vc, rfl⟩ := hown.shape; have hbw1 : Below wr.heap.size wr w1 := HBY.out.grown hgrow HBY.out.size (fun r e => by cases e; exact Nat.le_refl _); have OB1 := hid (blk_below (blk_below OBB.out HBr.out lo) hbw1 (Nat.lt_of_lt_of_le lo HBr.out.size)); have z19 : w1.cell? ⟨T5, 19, none⟩ = some (.slice oka O.K.length okc) := blk_cell OB1.out 19; have zf := blk_free OB1.out 19; have lo4 := blk_lt OB1.out; have hvv := setK_var (HBV1.out.below hbw1) (HVO1.out.below hbw1) hown; rw [show ({ O with K := [] ++ B.K } : BrainV) = B from HOB.out] at hvv; have hb52 : Below W5.heap.size W5 (w1.setCell ⟨T5, 19, none⟩ (.slice va vn vc)) := (HB5R.out.trans (hbw1.mono HB5R.out.size)).setCell (p := ⟨T5, 19, none⟩) hTw5 _; have HVN := hid hvv; have HVB2 := hid (HV5.out.below hb52); have HBX2 := hid (HB5.out.trans (hb52.mono HB5.out.size)); have hld5 := HVN.out.load; have hld2 := HVB2.out.load; have HSAME := hid (rsame_is true (sameB_refl B) HVN.out.is HVB2.out.is); clear hown hgrow hbw1 yy hvv hb52)
              refine HSAME.out.mono ?_
              rintro e Z ⟨rfl, hb⟩
              have HBZ := hid (HBX2.out.trans (hb.mono HBX2.out.size))
              clear hb hld5 hld2
              go_wp2_with fail
              refine (wakes_any Z (HC.out.below HBZ.out) (HL.out.below HBZ.out)).mono ?_
              rintro e Ww ⟨rfl, hb⟩
              have HBw := hid (HBZ.out.trans (hb.mono HBZ.out.size))
              clear hb
              go_wp2
              go_ret
              exact ⟨rfl, HBw.out⟩
      · have hki2 : ¬ (k = 3 ∨ k = 4) → OneO B O := fun h => by rw [← HO.out]; exact one_other h hki
        have HKO := hid hki2
        have HKI := hid hki
        clear hki2 hki
        by_cases hk34 : k = 3 ∨ k = 4
        · have hl := one_launch hk34 L (B := B)
          rw [HO.out] at hl
          obtain ⟨l0, l2, lc, l16, lM, l20, l22⟩ := hl
          have x14 : (loadVar 24 ⟨T5, 3, none⟩).run Tryd.prog X = .ok (.agg (confA (fun i => O.f (i + 3)) (O.g 16) (.slice oma O.M.length omc))) X := load_mid OBB.out
          have y14 : (loadVar 24 ⟨w.heap.size, 3, none⟩).run Tryd.prog X = .ok (.agg (confA (fun i => B.f (i + 3)) (B.g 16) (.slice cma B.M.length cmc))) X := load_mid CBB.out
          have hsc : sameC (fun i => O.f (i + 3)) (O.g 16) O.M (fun i => B.f (i + 3)) (B.g 16) B.M = true := by
            unfold sameC
            rw [decide_eq_true lM, l16, eq13_iff.2 lc]
            simp
          have HSC := hid (same07_at _ _ _ _ _ _ _ _ true hsc X OM.out CM.out)
          have v0 : X.cell? ⟨T5, 0, none⟩ = some (.int .i64 (B.f 0)) := by rw [← l0]; exact blk_cell OBB.out 0
          have u0 : X.cell? ⟨w.heap.size, 0, none⟩ = some (.int .i64 (B.f 0)) := blk_cell CBB.out 0
          have v2 : X.cell? ⟨T5, 2, none⟩ = some (.bool (B.g 2)) := by rw [← l2]; exact blk_cell OBB.out 2
          have u2 : X.cell? ⟨w.heap.size, 2, none⟩ = some (.bool (B.g 2)) := blk_cell CBB.out 2
          have HV20 := hid (show X.cell? ⟨T5, 20, none⟩ = some (.int .u8 (B.f 20)) by rw [← l20]; exact blk_cell OBB.out 20)
          have HU20 := hid (show X.cell? ⟨w.heap.size, 20, none⟩ = some (.int .u8 (B.f 20)) from blk_cell CBB.out 20)
          have HV22 := hid (show X.cell? ⟨T5, 22, none⟩ = some (.int .i64 (B.f 22)) by rw [← l22]; exact blk_cell OBB.out 22)
          have HU22 := hid (show X.cell? ⟨w.heap.size, 22, none⟩ = some (.int .i64 (B.f 22)) from blk_cell CBB.out 22)
          clear l0 l2 lc l16 lM l20 l22 hsc
          rcases hk34 with rfl | rfl
          all_goals
            go_wp2_with fail
            refine HSC.out.mono ?_
            rintro e Z ⟨rfl, hb⟩
            have HBZ := hid (HBX.out.trans (hb.mono HBX.out.size))
            have v20 := cell_below HV20.out hb
            have u20 := cell_below HU20.out hb
            have v22 := cell_below HV22.out hb
            have u22' := cell_below HU22.out hb
            have lb2 : w.heap.size < Z.heap.size := Nat.lt_of_lt_of_le lb hb.size
            have lo2 : T5 < Z.heap.size := Nat.lt_of_lt_of_le lo hb.size
            clear hb x14 y14 v0 u0 v2 u2
            go_wp2_with fail
            refine (wakes_any Z (HC.out.below HBZ.out) (HL.out.below HBZ.out)).mono ?_
            rintro e Ww ⟨rfl, hb⟩
            have HBw := hid (HBZ.out.trans (hb.mono HBZ.out.size))
            clear hb
            go_wp2
            go_ret
            exact ⟨rfl, HBw.out⟩
        · obtain ⟨o1, o2, o3⟩ := HKO.out hk34
          have v19 : X.cell? ⟨T5, 19, none⟩ = some (.slice oka B.K.length okc) := by have := O19.out; rwa [o1] at this
          have u19 : X.cell? ⟨w.heap.size, 19, none⟩ = some (.slice cka B.K.length ckc) := B19.out
          have v18 : X.cell? ⟨T5, 18, none⟩ = some (.slice oia B.I.length oic) := by have := blk_cell OBB.out 18; rw [← o2]; exact this
          have u18 : X.cell? ⟨w.heap.size, 18, none⟩ = some (.slice cia B.I.length cic) := blk_cell CBB.out 18
          have v1 : X.cell? ⟨T5, 1, none⟩ = some (.int .i64 (B.f 1)) := by rw [← o3]; exact blk_cell OBB.out 1
          have u1 : X.cell? ⟨w.heap.size, 1, none⟩ = some (.int .i64 (B.f 1)) := blk_cell CBB.out 1
          have V19 := hid v19
          have OK := HOKO.out
          rw [o1] at OK
          have HOK2 := hid OK
          have n3 : ¬ k = 3 := fun e => hk34 (.inl e)
          have n4 : ¬ k = 4 := fun e => hk34 (.inr e)
          clear o1 o2 o3 OK hk34
          by_cases hkk : kindI k
          · have hl0 : L.length = 0 := by
              rcases Nat.eq_zero_or_pos L.length with h | h
              · exact h
              · exact absurd ⟨hkk, h⟩ HKI.out
            have hlen : decide ((0 : Int) < (L.length : Int)) = false := decide_eq_false (by omega)
            clear n3 n4
            rcases hkk with rfl | rfl | rfl | rfl | rfl
            all_goals
              go_wp2
              clear x0 x1 v18 u18 v19 u19 v1 u1
              go_loopw [9] (fun i wr => ∃ n : Nat, n ≤ B.K.length ∧ i = .int .i64 n ∧ Below X.heap.size X wr) (fun i _ => B.K.length - (intOf i).toNat)
              case atStart => exact ⟨0, Nat.zero_le _, rfl, Below.refl _ _⟩
              case round =>
                obtain ⟨n, hn, rfl, hBr⟩ := hrel
                have HBr := hid hBr
                have y19 := cell_below B19.out hBr
                have z19 := cell_below V19.out hBr
                have lb2 : w.heap.size < wr.heap.size := Nat.lt_of_lt_of_le lb hBr.size
                have lo2 : T5 < wr.heap.size := Nat.lt_of_lt_of_le lo hBr.size
                have HBW := hid (HBX.out.trans (hBr.mono HBX.out.size))
                clear hBr
                by_cases hlt : n < B.K.length
                · obtain ⟨b2, o2, rfl, hb2, hr2⟩ := HOKC.out (by omega)
                  obtain ⟨b6, o6, rfl, hb6, hr6⟩ := HOK2.out (by omega)
                  obtain ⟨x, hx⟩ := get_lt hlt
                  obtain ⟨g0, g1, g2, g3, g4, g5, g6, g7⟩ := rowK (hr2.below HBr.out hb2) hx
                  obtain ⟨f0, f1, f2, f3, f4, f5, f6, f7⟩ := rowK (hr6.below HBr.out hb6) hx
                  have hnL : (n : Int) < (B.K.length : Int) := by omega
                  have l2 : b2 < wr.heap.size := Nat.lt_of_lt_of_le hb2 HBr.out.size
                  have l6 : b6 < wr.heap.size := Nat.lt_of_lt_of_le hb6 HBr.out.size
                  have hne := neqkpE_run x x
                  rw [kpEB_iff.2 rfl] at hne
                  clear hx hr2 hr6
                  go_wp2
                  go_quiet (fail)
                  go_wp2
                  go_roundw
                  case rel => exact ⟨n + 1, by omega, by go_num, below_drewN HBr.out _⟩
                  case measure => simp [intOf]; omega
                · obtain rfl : n = B.K.length := by omega
                  go_wp2_with fail
                  refine (wakes_any wr (HC.out.below HBW.out) (HL.out.below HBW.out)).mono ?_
                  rintro e Ww ⟨rfl, hb⟩
                  have HBw := hid (HBW.out.trans (hb.mono HBW.out.size))
                  clear hb
                  go_wp2
                  go_ret
                  exact ⟨rfl, HBw.out⟩
          · have n6 : ¬ k = 6 := fun e => hkk (by unfold kindI; omega)
            have n7 : ¬ k = 7 := fun e => hkk (by unfold kindI; omega)
            have n8 : ¬ k = 8 := fun e => hkk (by unfold kindI; omega)
            have n9 : ¬ k = 9 := fun e => hkk (by unfold kindI; omega)
            have n10 : ¬ k = 10 := fun e => hkk (by unfold kindI; omega)
            have e3 : (k == 3) = false := by simpa using n3
            have e4 : (k == 4) = false := by simpa using n4
            have e6 : (k == 6) = false := by simpa using n6
            have e7 : (k == 7) = false := by simpa using n7
            have e8 : (k == 8) = false := by simpa using n8
            have e9 : (k == 9) = false := by simpa using n9
            have e10 : (k == 10) = false := by simpa using n10
            clear n3 n4 n6 n7 n8 n9 n10 hkk
            go_wp2
            clear x0 x1 v18 u18 v19 u19 v1 u1
            go_loopw [9] (fun i wr => ∃ n : Nat, n ≤ B.K.length ∧ i = .int .i64 n ∧ Below X.heap.size X wr) (fun i _ => B.K.length - (intOf i).toNat)
            case atStart => exact ⟨0, Nat.zero_le _, rfl, Below.refl _ _⟩
            case round =>
              obtain ⟨n, hn, rfl, hBr⟩ := hrel
              have HBr := hid hBr
              have y19 := cell_below B19.out hBr
              have z19 := cell_below V19.out hBr
              have lb2 : w.heap.size < wr.heap.size := Nat.lt_of_lt_of_le lb hBr.size
              have lo2 : T5 < wr.heap.size := Nat.lt_of_lt_of_le lo hBr.size
              have HBW := hid (HBX.out.trans (hBr.mono HBX.out.size))
              clear hBr
              by_cases hlt : n < B.K.length
              · obtain ⟨b2, o2, rfl, hb2, hr2⟩ := HOKC.out (by omega)
                obtain ⟨b6, o6, rfl, hb6, hr6⟩ := HOK2.out (by omega)
                obtain ⟨x, hx⟩ := get_lt hlt
                obtain ⟨g0, g1, g2, g3, g4, g5, g6, g7⟩ := rowK (hr2.below HBr.out hb2) hx
                obtain ⟨f0, f1, f2, f3, f4, f5, f6, f7⟩ := rowK (hr6.below HBr.out hb6) hx
                have hnL : (n : Int) < (B.K.length : Int) := by omega
                have l2 : b2 < wr.heap.size := Nat.lt_of_lt_of_le hb2 HBr.out.size
                have l6 : b6 < wr.heap.size := Nat.lt_of_lt_of_le hb6 HBr.out.size
                have hne := neqkpE_run x x
                rw [kpEB_iff.2 rfl] at hne
                clear hx hr2 hr6
                go_wp2
                go_quiet (fail)
                go_wp2
                go_roundw
                case rel => exact ⟨n + 1, by omega, by go_num, below_drewN HBr.out _⟩
                case measure => simp [intOf]; omega
              · obtain rfl : n = B.K.length := by omega
                go_wp2_with fail
                refine (wakes_any wr (HC.out.below HBW.out) (HL.out.below HBW.out)).mono ?_
                rintro e Ww ⟨rfl, hb⟩
                have HBw := hid (HBW.out.trans (hb.mono HBW.out.size))
                clear hb
                go_wp2
                go_ret
                exact ⟨rfl, HBw.out⟩
end Go.Proofs.YthnigndpibgibaaDoor
