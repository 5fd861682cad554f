/- BrainTokens: no token comes twice. Printed by gn_ltk.py. -/
import Derived.Test.YthnigndpibgibaaDoorLr
import Derived.Test.YthnigndpibgibaaDoorGrr
import Derived.Test.YthnigndpibgibaaDoorPlm
import Derived.Lib.QuietBelow
import Derived.BigQuiet
namespace Go.Proofs.YthnigndpibgibaaDoor
open Go.RowKit Go.Shelf
attribute [-go_sem] loadVar storeVar Instr.buildSlice
attribute [local go_sem] load_other store_other

theorem idx_neg {α : Type} {L : List α} {p : α → Bool} (h : ∀ y ∈ L, p y = false) : idxL L p = -1 := idxL_no h
theorem kept_differ {K : List KeptV} (h1 : (K.map KeptV.token).Pairwise (· ≠ ·)) (h2 : RiseP 1099511627776 (K.map KeptV.id)) {i j : Nat} {x y : KeptV} (hx : K[i]? = some x) (hy : K[j]? = some y) (hij : i < j) : (x.token == y.token) = false ∧ (x.id == y.id) = false := by
  have hi := lt_get hx
  have hj := lt_get hy
  rw [List.getElem?_eq_getElem hi] at hx
  rw [List.getElem?_eq_getElem hj] at hy
  cases hx
  cases hy
  constructor
  · have := List.pairwise_iff_getElem.1 h1 i j (by simpa using hi) (by simpa using hj) hij
    simpa using this
  · have := List.pairwise_iff_getElem.1 h2.2 i j (by simpa using hi) (by simpa using hj) hij
    simp only [List.getElem_map] at this
    simp
    omega
set_option maxRecDepth 100000 in
set_option maxHeartbeats 8000000 in
theorem tokens_law (s : Value) (R : List RecE) (w : World) (hR : RecsR w R s) (hC : Changes w) (hLm : Limits w) :
    Calls Tryd.prog 4 #[s] w fun e w' => e = .returned (.bool true) ∧ Below w.heap.size w w' := by
  obtain ⟨sa, sc, rfl, p1, p2, p3, hop⟩ := hR.1.open
  have HR := hid hR
  have HC := hid hC
  have HL := hid hLm
  have HOP := hid hop
  have HGR := hid (great13_any _ _ R [] w hR (BrsR.nil w))
  clear hR hC hLm hop
  go_enter Tryd.func4, Tryd.ntmps4
  go_wp2_with fail
  refine HGR.out.mono ?_
  rintro e W1 ⟨q, rfl, hq, hb⟩
  have HB1 := hid hb
  have HQ := hid hq
  clear hb hq
  cases q with
  | true =>
    go_wp2_with fail
    refine (wakes_any W1 (HC.out.below HB1.out) (HL.out.below HB1.out)).mono ?_
    rintro e Ww ⟨rfl, hb⟩
    have HBw := hid (HB1.out.trans (hb.mono HB1.out.size))
    clear hb
    go_wp2
    go_ret
    exact ⟨rfl, HBw.out⟩
  | false =>
    obtain ⟨hR60, hR40, _⟩ := HQ.out rfl
    have HR40 := hid hR40
    have hbz : Below W1.heap.size W1 (W1.alloc (.cells #[.int .i64 0, .int .i64 0, .bool false, .int .i64 0, .int .i64 0, .int .i64 0, .int .i64 0, .int .i64 0, .int .i64 0, .int .i64 0, .int .i64 0, .int .i64 0, .int .i64 0, .int .i64 0, .int .i64 0, .int .i64 0, .bool false, .slice none 0 0, .slice none 0 0, .slice none 0 0, .int .u8 0, .int .i64 0, .int .i64 0, .int .i64 0, .bool false, .int .i64 0, .int .i64 0] 30)) := (Below.refl _ _).alloc (Nat.le_refl _) _
    have hzz : (W1.alloc (.cells #[.int .i64 0, .int .i64 0, .bool false, .int .i64 0, .int .i64 0, .int .i64 0, .int .i64 0, .int .i64 0, .int .i64 0, .int .i64 0, .int .i64 0, .int .i64 0, .int .i64 0, .int .i64 0, .int .i64 0, .int .i64 0, .bool false, .slice none 0 0, .slice none 0 0, .slice none 0 0, .int .u8 0, .int .i64 0, .int .i64 0, .int .i64 0, .bool false, .int .i64 0, .int .i64 0] 30)).heap[W1.heap.size]? = some (.cells #[.int .i64 0, .int .i64 0, .bool false, .int .i64 0, .int .i64 0, .int .i64 0, .int .i64 0, .int .i64 0, .int .i64 0, .int .i64 0, .int .i64 0, .int .i64 0, .int .i64 0, .int .i64 0, .int .i64 0, .int .i64 0, .bool false, .slice none 0 0, .slice none 0 0, .slice none 0 0, .int .u8 0, .int .i64 0, .int .i64 0, .int .i64 0, .bool false, .int .i64 0, .int .i64 0] 30) := heap_new _ _
    have hv0 : VarIs (W1.alloc (.cells #[.int .i64 0, .int .i64 0, .bool false, .int .i64 0, .int .i64 0, .int .i64 0, .int .i64 0, .int .i64 0, .int .i64 0, .int .i64 0, .int .i64 0, .int .i64 0, .int .i64 0, .int .i64 0, .int .i64 0, .int .i64 0, .bool false, .slice none 0 0, .slice none 0 0, .slice none 0 0, .int .u8 0, .int .i64 0, .int .i64 0, .int .i64 0, .bool false, .int .i64 0, .int .i64 0] 30)) W1.heap.size noB (.agg zeroBr) := ⟨_, _, _, rfl, hzz, row_nil _, row_nil _, row_nil _⟩
    have hx0 : BrVar w (W1.alloc (.cells #[.int .i64 0, .int .i64 0, .bool false, .int .i64 0, .int .i64 0, .int .i64 0, .int .i64 0, .int .i64 0, .int .i64 0, .int .i64 0, .int .i64 0, .int .i64 0, .int .i64 0, .int .i64 0, .int .i64 0, .int .i64 0, .bool false, .slice none 0 0, .slice none 0 0, .slice none 0 0, .int .u8 0, .int .i64 0, .int .i64 0, .int .i64 0, .bool false, .int .i64 0, .int .i64 0] 30)) W1.heap.size noB := ⟨_, _, _, hzz, (Owns.nil _ w.heap.size).trow encI_len (by decide), Owns.nil _ _, Owns.nil _ _⟩
    have HV0 := hid hv0
    have HBV0 := hid hx0
    have HBZ := hid (HB1.out.trans (hbz.mono HB1.out.size))
    obtain ⟨T3, hT3⟩ : ∃ T, W1.heap.size = T := ⟨_, rfl⟩
    have hTw : w.heap.size ≤ T3 := by rw [← hT3]; exact HB1.out.size
    rw [hT3] at HV0 HBV0
    clear hR40 hbz hzz hv0 hx0
    go_wp2
    go_loopw [4, 5] (fun most i wr => ∃ (n : Nat) (C : BrainV) (v : Value), n ≤ R.length ∧ i = .int .i64 n ∧ most = .int .i64 (C.f 1) ∧ TokP C ∧ Fine C n ∧ C.M.length ≤ 4 ∧ VarIs wr T3 C v ∧ Below w.heap.size w wr) (fun _ i _ => R.length - (intOf i).toNat)
    case atStart => exact ⟨0, noB, _, Nat.zero_le _, rfl, rfl, tok_none, noB_fine, Nat.zero_le _, HV0.out, HBZ.out⟩
    case round =>
      obtain ⟨n, C, v, hn, rfl, rfl, htp, hfi, hcm, hv, hB⟩ := hrel
      have HTC := hid htp
      have HFC := hid hfi
      have HMC := hid hcm
      have HVC := hid hv
      have HBr := hid hB
      clear htp hfi hcm hv hB HV0 HBV0 HBZ
      by_cases hlt : n < R.length
      · obtain ⟨b1, o1, rfl, hb1, hr1⟩ := HOP.out (by omega)
        obtain ⟨r, hr⟩ := get_lt hlt
        obtain ⟨rs, hrs⟩ : ∃ x, r.s = x := ⟨_, rfl⟩
        have hrec := HR.out.2 r (mem_get hr)
        rw [hrs] at hrec
        obtain ⟨ra, rc, rfl, _⟩ := hrec.open
        obtain ⟨g0, g1⟩ := rowR (hr1.below HBr.out hb1) hr
        rw [hrs] at g1
        have hnL : (n : Int) < (R.length : Int) := by omega
        have hb1w : b1 < wr.heap.size := Nat.lt_of_lt_of_le hb1 HBr.out.size
        have hL40 := HR40.out r (mem_get hr)
        have HREC := hid (RowOf.below hrec HBr.out)
        have G0 := hid g0
        have G1 := hid g1
        obtain ⟨rk, hrk⟩ : ∃ x, r.k = x := ⟨_, rfl⟩
        rw [hrk] at g0 G0
        clear hrec hr1 hr
        by_cases hk8 : rk = 8
        · have e8 : (rk == 8) = true := by simpa using hk8
          clear hk8
          go_wp2
          go_roundw
          case rel => exact ⟨n + 1, C, v, by omega, by go_num, rfl, HTC.out, HFC.out.up (by omega), HMC.out, HVC.out, HBr.out⟩
          case measure => simp [intOf]; omega
        · have e8 : (rk == 8) = false := by simpa using hk8
          obtain ⟨O, hO⟩ : ∃ O, applyB C rk r.L = O := ⟨_, rfl⟩
          have HO := hid hO
          have hst := HTC.out.apply hk8 r.L
          have hsb := (HTC.out.right.apply rk r.L).2
          rw [hO] at hst hsb
          have HST := hid hst
          have HSB := hid hsb.seq
          have HFO := hid (show Fine O (n + 1) by rw [← hO]; exact HFC.out.apply rk r.L)
          have HMO := hid (show O.M.length ≤ 4 by rw [← hO]; exact applyB_M C rk r.L HMC.out (by omega))
          clear hst hO hk8 hsb
          have hlw := HVC.out.lt
          go_wp2_with fail
          refine wp_region_cut 7 1 (fun _ => True) (by kernel_rfl) (by kernel_rfl) (by kernel_rfl) ?_
          simp only [List.take_succ_cons, List.take_zero]
          refine wpAnyH_grown (w0 := wr.drew) (spL [fun z _ => z = v, fun z _ => z = .slice (some ⟨b1, o1, none⟩) R.length sc, fun z _ => z = .int .i64 (n : Int), fun z _ => z = .pointer (some ⟨b1, o1 + n * 2, none⟩), fun z _ => z = .agg #[.int .u8 rk, .slice ra r.L.length rc], fun z w => BrEnd wr (applyB C rk (r.L)) z w, fun z w => NewBr wr z w]) (spL_stays ⟨stays_eq _, stays_eq _, stays_eq _, stays_eq _, stays_eq _, stays_brEnd _ _, stays_new _, trivial⟩) (by kernel_rfl) (by kernel_rfl) ?steps6 ?fin6 rfl
          case steps6 =>
            refine ⟨?_, ?_, ?_, ?_, ?_, ?_, ?_, trivial⟩
            · intro a' w' hB hdep hoth K hK
              have hbw : Below wr.heap.size wr w' := (below_drewN (Below.refl _ _) 1).trans hB
              have t3 := hoth 3 (notDst_at (by kernel_rfl))
              simp only [List.getElem?_toArray, List.getElem?_cons_succ, List.getElem?_cons_zero] at t3
              have hld := (HVC.out.below hbw).load
              clear hdep hoth
              go_simp
              exact hK _ _ (Below.refl _ _) rfl
            · intro a' w' hB hdep hoth K hK
              have hbw : Below wr.heap.size wr w' := (below_drewN (Below.refl _ _) 1).trans hB
              have t0 := hoth 0 (notDst_at (by kernel_rfl))
              simp only [List.getElem?_toArray, List.getElem?_cons_succ, List.getElem?_cons_zero] at t0
              clear hdep hoth
              go_simp
              exact hK _ _ (Below.refl _ _) rfl
            · intro a' w' hB hdep hoth K hK
              have hbw : Below wr.heap.size wr w' := (below_drewN (Below.refl _ _) 1).trans hB
              have t5 := hoth 5 (notDst_at (by kernel_rfl))
              simp only [List.getElem?_toArray, List.getElem?_cons_succ, List.getElem?_cons_zero] at t5
              clear hdep hoth
              go_simp
              exact hK _ _ (Below.refl _ _) rfl
            · intro a' w' hB hdep hoth K hK
              have hbw : Below wr.heap.size wr w' := (below_drewN (Below.refl _ _) 1).trans hB
              obtain ⟨vx0, gx0, ex0⟩ := hdep ⟨1, .data⟩ (by simp) rfl
              have gx0 := gx0 26 rfl (by simp)
              obtain rfl : vx0 = .slice (some ⟨b1, o1, none⟩) R.length sc := ex0
              obtain ⟨vx1, gx1, ex1⟩ := hdep ⟨2, .data⟩ (by simp) rfl
              have gx1 := gx1 27 rfl (by simp)
              obtain rfl : vx1 = .int .i64 (n : Int) := ex1
              clear hdep hoth
              go_simp
              exact hK _ _ (Below.refl _ _) rfl
            · intro a' w' hB hdep hoth K hK
              have hbw : Below wr.heap.size wr w' := (below_drewN (Below.refl _ _) 1).trans hB
              obtain ⟨vx0, gx0, ex0⟩ := hdep ⟨3, .data⟩ (by simp) rfl
              have gx0 := gx0 28 rfl (by simp)
              obtain rfl : vx0 = .pointer (some ⟨b1, o1 + n * 2, none⟩) := ex0
              have g0 := cell_below G0.out hbw
              have g1 := cell_below G1.out hbw
              have hb1w : b1 < w'.heap.size := Nat.lt_of_lt_of_le hb1w hbw.size
              clear hdep hoth
              go_simp
              exact hK _ _ (Below.refl _ _) rfl
            · intro a' w' hB hdep hoth K hK
              have hbw : Below wr.heap.size wr w' := (below_drewN (Below.refl _ _) 1).trans hB
              obtain ⟨v0, g0, e0⟩ := hdep ⟨0, .data⟩ (by simp) rfl
              have g0 := g0 25 rfl (by simp)
              obtain rfl : v0 = v := e0
              obtain ⟨v1, g1, e1⟩ := hdep ⟨4, .data⟩ (by simp) rfl
              have g1 := g1 29 rfl (by simp)
              obtain rfl : v1 = .agg #[.int .u8 rk, .slice ra r.L.length rc] := e1
              have HA := hid (apply_is rk r.L n (HVC.out.below hbw).is ⟨_, rfl, HREC.out.below hbw⟩ HFC.out (by omega) (by have := HMC.out; omega) (by omega) (HC.out.below (HBr.out.trans (hbw.mono HBr.out.size))) (HL.out.below (HBr.out.trans (hbw.mono HBr.out.size))))
              clear hdep hoth
              go_simp
              refine HA.out.mono ?_
              rintro e w'' ⟨v, rfl, he, hb⟩
              exact hK v _ hb (he.base hbw.size)
            · intro a' w' hB hdep hoth K hK
              have hbw : Below wr.heap.size wr w' := (below_drewN (Below.refl _ _) 1).trans hB
              clear hdep hoth
              go_simp
              exact hK _ _ ((Below.refl _ _).alloc (Nat.le_refl _) _) ⟨w'.heap.size, rfl, hbw.size, heap_new w' _⟩
          case fin6 =>
            intro vs w' hB hs
            have hbw : Below wr.heap.size wr w' := (below_drewN (Below.refl _ _) 1).trans hB
            have e0 : vs 0 = _ := hs 0 (by decide)
            have e1 : vs 1 = _ := hs 1 (by decide)
            have e2 : vs 2 = _ := hs 2 (by decide)
            have e3 : vs 3 = _ := hs 3 (by decide)
            have e4 : vs 4 = _ := hs 4 (by decide)
            have e5 : BrEnd wr _ (vs 5) w' := hs 5 (by decide)
            obtain ⟨T6, e6, hT, hz⟩ := hs 6 (by decide)
            clear hs
            refine cutQ_held (fun _ => True) (fun f => ?_)
            simp only [actOf, dstAt, if_true, List.getElem?_toArray, List.getElem?_cons_succ, List.getElem?_cons_zero, Option.bind_some, Act.put, List.setIfInBounds_toArray, List.set_cons_zero, List.set_cons_succ, List.length_cons, List.length_nil, Nat.reduceAdd]
            rw [e6]
            obtain ⟨u6, hu⟩ : ∃ u, vs 5 = u := ⟨_, rfl⟩
            rw [hu] at e5 ⊢
            obtain ⟨X6, hst, hvar, hbv, hbx, hXo, hXs⟩ := brEnd_store e5 hz rfl hbw hT
            refine wpAnyH_ready (rs := [7]) (by kernel_rfl) (by simp) ?_
            refine AllReadyH.cons rfl (fun K hK => ?_) AllReadyH.nil
            go_simp
            refine hK.out _ _ trivial (fun _ => ?_)
            clear hK K
            refine wpAnyH_done (by kernel_rfl) ?_ _
            rw [HO.out] at hvar hbv
            have HVO := hid hvar
            have HBVO := hid hbv
            have HBW := hid hbx
            have HBX := hid (HBr.out.trans (hbx.mono HBr.out.size))
            have HVC2 := hid (HVC.out.below hbx)
            clear hst hvar hbv hbx hXo hXs e0 e1 e2 e3 e4 e5 e6 hu hz hT hbw hB g0 g1
            obtain ⟨oma, omc, oia, oic, oka, okc, ou, obb, om, oi, ok⟩ := HVO.out.open
            obtain ⟨_, _, he, _, _, _, hoio⟩ := oi.open
            cases he
            obtain ⟨_, _, he, _, _, _, hoko⟩ := ok.open
            cases he
            have HOIO := hid hoio
            have HOKO := hid hoko
            have OBB := hid obb
            have i18 : X6.cell? ⟨T6, 18, none⟩ = some (.slice oia O.I.length oic) := blk_cell obb 18
            have i19 : X6.cell? ⟨T6, 19, none⟩ = some (.slice oka O.K.length okc) := blk_cell obb 19
            have I18 := hid i18
            have I19 := hid i19
            have lo := blk_lt obb
            clear obb om oi ok hoio hoko i18 i19 ou
            go_wp2
            go_loopw [7] (fun i wa => ∃ m : Nat, m ≤ O.I.length ∧ i = .int .i64 m ∧ Below X6.heap.size X6 wa) (fun i _ => O.I.length - (intOf i).toNat)
            case atStart => exact ⟨0, Nat.zero_le _, rfl, Below.refl _ _⟩
            case round =>
              obtain ⟨wa, rfl⟩ : ∃ W : World, W = wr := ⟨_, rfl⟩
              obtain ⟨m, hm, rfl, hBa⟩ := hrel
              have HBa := hid hBa
              have y18 := cell_below I18.out hBa
              have lo2 : T6 < wa.heap.size := Nat.lt_of_lt_of_le lo hBa.size
              clear hBa
              by_cases hlm : m < O.I.length
              · obtain ⟨b2, o2, rfl, hb2, hr2⟩ := HOIO.out (by omega)
                obtain ⟨x, hx⟩ := get_lt hlm
                obtain ⟨g0, _, _, _⟩ := rowI (hr2.below HBa.out hb2) hx
                have hmL : (m : Int) < (O.I.length : Int) := by omega
                have l2 : b2 < wa.heap.size := Nat.lt_of_lt_of_le hb2 HBa.out.size
                obtain ⟨t, ht⟩ : ∃ t, x.token = t := ⟨_, rfl⟩
                rw [ht] at g0
                obtain ⟨at', hat⟩ : ∃ z, idxL C.I (fun y => y.token == t) = z := ⟨_, rfl⟩
                have hnew := HST.out.new x (mem_get hx)
                rw [ht] at hnew
                have hfd := fun V (hV : Below wa.heap.size wa V) => rtoken13_at C _ t at' hat V ((HVC2.out.below (HBa.out.trans (hV.mono HBa.out.size))).is)
                have HFD := hid hfd
                have HY18 := hid y18
                have HG0 := hid g0
                have hcase : (at' = -1 ∧ decide (t ≤ C.f 1) = false) ∨ ∃ z : Nat, at' = (z : Int) := by
                  rcases idxL_cases C.I (fun y => y.token == t) with ⟨h1, h2⟩ | ⟨z, y, h1, _⟩
                  · left
                    refine ⟨by rw [← hat]; exact h1, decide_eq_false ?_⟩
                    rcases hnew with h3 | h3
                    · have := h2 x h3
                      rw [ht] at this
                      simp at this
                    · omega
                  · right
                    exact ⟨z, by rw [← hat]; exact h1⟩
                clear hx hr2 hat hfd hnew ht
                rcases hcase with ⟨rfl, d1⟩ | ⟨zj, rfl⟩
                · skip
                  have HALL := hid (show ∀ W, Below wa.heap.size wa W → Below wa.heap.size wa W ∧ W.cell? ⟨T6, 18, none⟩ = some (.slice (some ⟨b2, o2, none⟩) O.I.length oic) ∧ W.cell? ⟨b2, o2 + m * 4, none⟩ = some (.int .i64 t) ∧ (loadVar 30 ⟨T3, 0, none⟩).run Tryd.prog W = .ok v W from fun W hb => ⟨hb, cell_below HY18.out hb, cell_below HG0.out hb, ((HVC2.out.below HBa.out).below hb).load⟩)
                  go_wp2_with fail
                  clear y18 g0
                  go_region_held3 (fun W => Below wa.heap.size wa W ∧ W.cell? ⟨T6, 18, none⟩ = some (.slice (some ⟨b2, o2, none⟩) O.I.length oic) ∧ W.cell? ⟨b2, o2 + m * 4, none⟩ = some (.int .i64 t) ∧ (loadVar 30 ⟨T3, 0, none⟩).run Tryd.prog W = .ok v W) (first | exact HALL.out _ (below_drewN (Below.refl _ _) 1) | (go_split_ands; exact HALL.out _ (below_call (by assumption) hbt1)) | (go_split_ands; exact HALL.out _ (below_realloc (by assumption) hbs)) | (go_split_ands; exact HALL.out _ (below_set4 (by assumption) (by first | omega | (simp; omega)) _ _ _ _)) | (go_split_ands; exact HALL.out _ (below_alloc (by assumption) _))) ((go_at_call 14; go_split_ands; refine (HFD.out _ (by assumption)).mono ?_; rintro e x1 ⟨rfl, hbt1⟩; have hbs := hbt1.size))
                  go_split_ands
                  have HBQ := hid (show Below wa.heap.size wa x1 by assumption)
                  go_wp2
                  go_roundw
                  case rel => exact ⟨m + 1, by omega, by go_num, HBa.out.trans (HBQ.out.mono HBa.out.size)⟩
                  case measure => simp [intOf]; omega
                · have d0 : decide ((zj : Int) < 0) = false := decide_eq_false (by omega)
                  have hbin : ∀ w, (binOp .lss 3 (.int .i64 (zj : Int)) (.int .i64 0)).run Tryd.prog w = .ok (.bool false) w := fun w => by rw [← d0]; simp [go_sem]
                  have HVCa := hid (HVC2.out.below HBa.out)
                  go_wp2_with fail
                  clear y18 g0
                  refine wp_region_held_drew (S := fun _ => True) (by kernel_rfl) trivial (fun _ => ?_)
                  refine wpAnyH_grownG (w0 := wa.drew) (spL [fun z _ => z = v, fun z _ => z = .pointer (some ⟨T6, 18, none⟩), fun z _ => z = .slice (some ⟨b2, o2, none⟩) O.I.length oic, fun z _ => z = .int .i64 (m : Int), fun z _ => z = .pointer (some ⟨b2, o2 + m * 4, none⟩), fun z _ => z = .pointer (some ⟨b2, o2 + m * 4, none⟩), fun z _ => z = .int .i64 t, fun z _ => z = .int .i64 (zj : Int), fun z _ => z = .bool false, fun z _ => z = .bool false, fun z _ => z = undef, fun z _ => z = undef, fun z _ => z = undef, fun z _ => z = undef, fun z _ => z = undef, fun z _ => z = undef, fun z _ => z = undef, fun z _ => z = undef, fun z _ => z = .bool false]) (spL_stays ⟨stays_eq _, stays_eq _, stays_eq _, stays_eq _, stays_eq _, stays_eq _, stays_eq _, stays_eq _, stays_eq _, stays_eq _, stays_eq _, stays_eq _, stays_eq _, stays_eq _, stays_eq _, stays_eq _, stays_eq _, stays_eq _, stays_eq _, trivial⟩) (by kernel_rfl) (by kernel_rfl) ?steps13 ?fin13 rfl
                  case steps13 =>
                    refine ⟨?_, ?_, ?_, ?_, ?_, ?_, ?_, ?_, ?_, ?_, ?_, ?_, ?_, ?_, ?_, ?_, ?_, ?_, ?_, trivial⟩
                    · intro a' w' hB hdep hoth K hK
                      rw [if_pos (guard_none rfl)]
                      have hbw : Below wa.heap.size wa w' := (below_drewN (Below.refl _ _) 1).trans hB
                      have t3 := hoth 3 (notDst_at (by kernel_rfl))
                      simp only [List.getElem?_toArray, List.getElem?_cons_succ, List.getElem?_cons_zero] at t3
                      have hld := (HVCa.out.below hbw).load
                      clear hdep hoth
                      go_simp
                      exact hK _ _ (Below.refl _ _) rfl
                    · intro a' w' hB hdep hoth K hK
                      rw [if_pos (guard_none rfl)]
                      have hbw : Below wa.heap.size wa w' := (below_drewN (Below.refl _ _) 1).trans hB
                      have t6 := hoth 6 (notDst_at (by kernel_rfl))
                      simp only [List.getElem?_toArray, List.getElem?_cons_succ, List.getElem?_cons_zero] at t6
                      clear hdep hoth
                      go_simp
                      exact hK _ _ (Below.refl _ _) rfl
                    · intro a' w' hB hdep hoth K hK
                      rw [if_pos (guard_none rfl)]
                      have hbw : Below wa.heap.size wa w' := (below_drewN (Below.refl _ _) 1).trans hB
                      obtain ⟨vx0, gx0, ex0⟩ := hdep ⟨1, .data⟩ (by simp) rfl
                      have gx0 := gx0 39 rfl (by simp)
                      obtain rfl : vx0 = .pointer (some ⟨T6, 18, none⟩) := ex0
                      have y18 := cell_below HY18.out hbw
                      have lo3 : T6 < w'.heap.size := Nat.lt_of_lt_of_le lo2 hbw.size
                      clear hdep hoth
                      go_simp
                      exact hK _ _ (Below.refl _ _) rfl
                    · intro a' w' hB hdep hoth K hK
                      rw [if_pos (guard_none rfl)]
                      have hbw : Below wa.heap.size wa w' := (below_drewN (Below.refl _ _) 1).trans hB
                      have t7 := hoth 7 (notDst_at (by kernel_rfl))
                      simp only [List.getElem?_toArray, List.getElem?_cons_succ, List.getElem?_cons_zero] at t7
                      clear hdep hoth
                      go_simp
                      exact hK _ _ (Below.refl _ _) rfl
                    · intro a' w' hB hdep hoth K hK
                      rw [if_pos (guard_none rfl)]
                      have hbw : Below wa.heap.size wa w' := (below_drewN (Below.refl _ _) 1).trans hB
                      obtain ⟨vx0, gx0, ex0⟩ := hdep ⟨2, .data⟩ (by simp) rfl
                      have gx0 := gx0 40 rfl (by simp)
                      obtain rfl : vx0 = .slice (some ⟨b2, o2, none⟩) O.I.length oic := ex0
                      obtain ⟨vx1, gx1, ex1⟩ := hdep ⟨3, .data⟩ (by simp) rfl
                      have gx1 := gx1 41 rfl (by simp)
                      obtain rfl : vx1 = .int .i64 (m : Int) := ex1
                      clear hdep hoth
                      go_simp
                      exact hK _ _ (Below.refl _ _) rfl
                    · intro a' w' hB hdep hoth K hK
                      rw [if_pos (guard_none rfl)]
                      have hbw : Below wa.heap.size wa w' := (below_drewN (Below.refl _ _) 1).trans hB
                      obtain ⟨vx0, gx0, ex0⟩ := hdep ⟨4, .data⟩ (by simp) rfl
                      have gx0 := gx0 42 rfl (by simp)
                      obtain rfl : vx0 = .pointer (some ⟨b2, o2 + m * 4, none⟩) := ex0
                      clear hdep hoth
                      go_simp
                      exact hK _ _ (Below.refl _ _) rfl
                    · intro a' w' hB hdep hoth K hK
                      rw [if_pos (guard_none rfl)]
                      have hbw : Below wa.heap.size wa w' := (below_drewN (Below.refl _ _) 1).trans hB
                      obtain ⟨vx0, gx0, ex0⟩ := hdep ⟨5, .data⟩ (by simp) rfl
                      have gx0 := gx0 43 rfl (by simp)
                      obtain rfl : vx0 = .pointer (some ⟨b2, o2 + m * 4, none⟩) := ex0
                      have g0 := cell_below HG0.out hbw
                      have l3 : b2 < w'.heap.size := Nat.lt_of_lt_of_le l2 hbw.size
                      clear hdep hoth
                      go_simp
                      exact hK _ _ (Below.refl _ _) rfl
                    · intro a' w' hB hdep hoth K hK
                      rw [if_pos (guard_none rfl)]
                      have hbw : Below wa.heap.size wa w' := (below_drewN (Below.refl _ _) 1).trans hB
                      obtain ⟨vx0, gx0, ex0⟩ := hdep ⟨0, .data⟩ (by simp) rfl
                      have gx0 := gx0 38 rfl (by simp)
                      obtain rfl : vx0 = v := ex0
                      obtain ⟨vx1, gx1, ex1⟩ := hdep ⟨6, .data⟩ (by simp) rfl
                      have gx1 := gx1 44 rfl (by simp)
                      obtain rfl : vx1 = .int .i64 t := ex1
                      have HA := hid (HFD.out _ hbw)
                      clear hdep hoth
                      go_simp
                      refine HA.out.mono ?_
                      rintro e w'' ⟨rfl, hb⟩
                      exact hK _ _ hb rfl
                    · intro a' w' hB hdep hoth K hK
                      rw [if_pos (guard_none rfl)]
                      have hbw : Below wa.heap.size wa w' := (below_drewN (Below.refl _ _) 1).trans hB
                      obtain ⟨vx0, gx0, ex0⟩ := hdep ⟨7, .data⟩ (by simp) rfl
                      have gx0 := gx0 45 rfl (by simp)
                      obtain rfl : vx0 = .int .i64 (zj : Int) := ex0
                      clear hdep hoth
                      go_simp
                      exact hK _ _ (Below.refl _ _) rfl
                    · intro a' w' hB hdep hoth K hK
                      rw [if_pos (guard_none rfl)]
                      have hbw : Below wa.heap.size wa w' := (below_drewN (Below.refl _ _) 1).trans hB
                      obtain ⟨vx0, gx0, ex0⟩ := hdep ⟨8, .data⟩ (by simp) rfl
                      have gx0 := gx0 46 rfl (by simp)
                      obtain rfl : vx0 = .bool false := ex0
                      clear hdep hoth
                      go_simp
                      exact hK _ _ (Below.refl _ _) rfl
                    · intro a' w' hB hdep hoth K hK
                      obtain ⟨vg, gg, eg⟩ := hdep ⟨9, .guard⟩ (by simp) rfl
                      have gg := gg 47 rfl (by simp)
                      obtain rfl : vg = .bool false := eg
                      rw [guard_is rfl rfl gg]
                      rw [if_neg (by decide)]
                      exact hK _ _ (Below.refl _ _) rfl
                    · intro a' w' hB hdep hoth K hK
                      obtain ⟨vg, gg, eg⟩ := hdep ⟨9, .guard⟩ (by simp) rfl
                      have gg := gg 47 rfl (by simp)
                      obtain rfl : vg = .bool false := eg
                      rw [guard_is rfl rfl gg]
                      rw [if_neg (by decide)]
                      exact hK _ _ (Below.refl _ _) rfl
                    · intro a' w' hB hdep hoth K hK
                      obtain ⟨vg, gg, eg⟩ := hdep ⟨9, .guard⟩ (by simp) rfl
                      have gg := gg 47 rfl (by simp)
                      obtain rfl : vg = .bool false := eg
                      rw [guard_is rfl rfl gg]
                      rw [if_neg (by decide)]
                      exact hK _ _ (Below.refl _ _) rfl
                    · intro a' w' hB hdep hoth K hK
                      obtain ⟨vg, gg, eg⟩ := hdep ⟨9, .guard⟩ (by simp) rfl
                      have gg := gg 47 rfl (by simp)
                      obtain rfl : vg = .bool false := eg
                      rw [guard_is rfl rfl gg]
                      rw [if_neg (by decide)]
                      exact hK _ _ (Below.refl _ _) rfl
                    · intro a' w' hB hdep hoth K hK
                      obtain ⟨vg, gg, eg⟩ := hdep ⟨9, .guard⟩ (by simp) rfl
                      have gg := gg 47 rfl (by simp)
                      obtain rfl : vg = .bool false := eg
                      rw [guard_is rfl rfl gg]
                      rw [if_neg (by decide)]
                      exact hK _ _ (Below.refl _ _) rfl
                    · intro a' w' hB hdep hoth K hK
                      obtain ⟨vg, gg, eg⟩ := hdep ⟨9, .guard⟩ (by simp) rfl
                      have gg := gg 47 rfl (by simp)
                      obtain rfl : vg = .bool false := eg
                      rw [guard_is rfl rfl gg]
                      rw [if_neg (by decide)]
                      exact hK _ _ (Below.refl _ _) rfl
                    · intro a' w' hB hdep hoth K hK
                      obtain ⟨vg, gg, eg⟩ := hdep ⟨9, .guard⟩ (by simp) rfl
                      have gg := gg 47 rfl (by simp)
                      obtain rfl : vg = .bool false := eg
                      rw [guard_is rfl rfl gg]
                      rw [if_neg (by decide)]
                      exact hK _ _ (Below.refl _ _) rfl
                    · intro a' w' hB hdep hoth K hK
                      obtain ⟨vg, gg, eg⟩ := hdep ⟨9, .guard⟩ (by simp) rfl
                      have gg := gg 47 rfl (by simp)
                      obtain rfl : vg = .bool false := eg
                      rw [guard_is rfl rfl gg]
                      rw [if_neg (by decide)]
                      exact hK _ _ (Below.refl _ _) rfl
                    · intro a' w' hB hdep hoth K hK
                      rw [if_pos (guard_none rfl)]
                      have hbw : Below wa.heap.size wa w' := (below_drewN (Below.refl _ _) 1).trans hB
                      obtain ⟨vx0, gx0, ex0⟩ := hdep ⟨9, .data⟩ (by simp) rfl
                      have gx0 := gx0 47 rfl (by simp)
                      obtain rfl : vx0 = .bool false := ex0
                      clear hdep hoth
                      go_simp
                      exact hK _ _ (Below.refl _ _) rfl
                  case fin13 =>
                    intro vs w' hB hs
                    have hbw : Below wa.heap.size wa w' := (below_drewN (Below.refl _ _) 1).trans hB
                    have e18 : vs 18 = .bool false := hs 18 (by decide)
                    clear hs
                    simp only [actOf, dstAt, if_true, List.getElem?_toArray, List.getElem?_cons_succ, List.getElem?_cons_zero, Option.bind_some, Act.put, List.setIfInBounds_toArray, List.set_cons_zero, List.set_cons_succ, List.length_cons, List.length_nil, Nat.reduceAdd]
                    rw [e18]
                    clear e18 hB hbin
                    have HBQ := hid hbw
                    clear hbw
                    go_wp2
                    go_roundw
                    case rel => exact ⟨m + 1, by omega, by go_num, HBa.out.trans (HBQ.out.mono HBa.out.size)⟩
                    case measure => simp [intOf]; omega
              · obtain rfl : m = O.I.length := by omega
                have J19 := hid (cell_below I19.out HBa.out)
                have HVO2 := hid (HVO.out.below HBa.out)
                have HVC3 := hid (HVC2.out.below HBa.out)
                have HBVO2 := hid (HBVO.out.below HBa.out)
                go_wp2
                clear y18
                go_loopw [8, 9] (fun i _ wc => ∃ m : Nat, m ≤ O.K.length ∧ i = .int .i64 m ∧ Below wa.heap.size wa wc) (fun i _ _ => O.K.length - (intOf i).toNat)
                case atStart => exact ⟨0, Nat.zero_le _, rfl, Below.refl _ _⟩
                case round =>
                  obtain ⟨wc, rfl⟩ : ∃ W : World, W = wr := ⟨_, rfl⟩
                  obtain ⟨m, hm, rfl, hBc⟩ := hrel
                  have HBc := hid hBc
                  have y19 := cell_below J19.out hBc
                  have lo3 : T6 < wc.heap.size := Nat.lt_of_lt_of_le lo2 hBc.size
                  clear hBc
                  by_cases hlm : m < O.K.length
                  · obtain ⟨b3, o3, rfl, hb3, hr3⟩ := HOKO.out (by omega)
                    have hb3a := Nat.lt_of_lt_of_le hb3 HBa.out.size
                    obtain ⟨x, hx⟩ := get_lt hlm
                    have hmL : (m : Int) < (O.K.length : Int) := by omega
                    have HX := hid hx
                    have HR3 := hid (hr3.below HBa.out hb3)
                    clear hx hr3
                    go_wp2
                    go_loopw [9] (fun i wd => ∃ j : Nat, j ≤ m ∧ i = .int .i64 j ∧ Below wc.heap.size wc wd) (fun i _ => m - (intOf i).toNat)
                    case atStart => exact ⟨0, Nat.zero_le _, rfl, Below.refl _ _⟩
                    case round =>
                      obtain ⟨wd, rfl⟩ : ∃ W : World, W = wr := ⟨_, rfl⟩
                      obtain ⟨j, hj, rfl, hBd⟩ := hrel
                      have HBd := hid hBd
                      have HBad := hid (HBc.out.trans (hBd.mono HBc.out.size))
                      have z19 := cell_below y19 hBd
                      have lo4 : T6 < wd.heap.size := Nat.lt_of_lt_of_le lo3 hBd.size
                      have l3 : b3 < wd.heap.size := Nat.lt_of_lt_of_le hb3a HBad.out.size
                      obtain ⟨f0, f1, _, _, _, _, _, _⟩ := rowK (HR3.out.below HBad.out hb3a) HX.out
                      clear hBd
                      by_cases hjm : j < m
                      · obtain ⟨y, hy⟩ := get_lt (show j < O.K.length by omega)
                        obtain ⟨g0, g1, _, _, _, _, _, _⟩ := rowK (HR3.out.below HBad.out hb3a) hy
                        obtain ⟨d0, d1⟩ := kept_differ HST.out.p.dis HST.out.p.right.ids hy HX.out hjm
                        have hjL : (j : Int) < (O.K.length : Int) := by omega
                        have hjmL : (j : Int) < (m : Int) := by omega
                        have hjO : j < O.K.length := by omega
                        obtain ⟨xt, hxt⟩ : ∃ u, x.token = u := ⟨_, rfl⟩
                        obtain ⟨xi, hxi⟩ : ∃ u, x.id = u := ⟨_, rfl⟩
                        obtain ⟨yt, hyt⟩ : ∃ u, y.token = u := ⟨_, rfl⟩
                        obtain ⟨yi, hyi⟩ : ∃ u, y.id = u := ⟨_, rfl⟩
                        rw [hxt] at f1 d0
                        rw [hyt] at g1 d0
                        rw [hxi] at f0 d1
                        rw [hyi] at g0 d1
                        clear hy hxt hxi hyt hyi
                        go_wp2
                        go_quiet (fail)
                        go_wp2
                        go_roundw
                        case rel => exact ⟨j + 1, by omega, by go_num, below_drewN HBd.out _⟩
                        case measure => simp [intOf]; omega
                      · obtain rfl : j = m := by omega
                        obtain ⟨xt, hxt⟩ : ∃ u, x.token = u := ⟨_, rfl⟩
                        have hno : idxL O.I (fun y => y.token == xt) = -1 := idx_neg fun y hy => by
                          have := HST.out.p.apart x (mem_get HX.out) y hy
                          rw [hxt] at this
                          simpa using this.symm
                        have h1 := (HST.out.p.one x (mem_get HX.out)).1
                        rw [hxt] at h1 f1
                        have d0 : decide (xt < 1) = false := decide_eq_false (by omega)
                        have hfd := fun V (hV : Below wd.heap.size wd V) => rtoken13_at O _ xt (-1) hno V ((HVO2.out.below (HBad.out.trans (hV.mono HBad.out.size))).is)
                        have HFD := hid hfd
                        have HZ19 := hid z19
                        have HF1 := hid f1
                        clear hfd hno h1 hxt
                        have HALL := hid (show ∀ W, Below wd.heap.size wd W → Below wd.heap.size wd W ∧ W.cell? ⟨T6, 19, none⟩ = some (.slice (some ⟨b3, o3, none⟩) O.K.length okc) ∧ W.cell? ⟨b3, o3 + j * 8 + 1, none⟩ = some (.int .i64 xt) ∧ (loadVar 30 ⟨T6, 0, none⟩).run Tryd.prog W = .ok u6 W from fun W hb => ⟨hb, cell_below HZ19.out hb, cell_below HF1.out hb, ((HVO2.out.below HBad.out).below hb).load⟩)
                        clear z19 f1 f0
                        go_wp2_with fail
                        go_region_held3 (fun W => Below wd.heap.size wd W ∧ W.cell? ⟨T6, 19, none⟩ = some (.slice (some ⟨b3, o3, none⟩) O.K.length okc) ∧ W.cell? ⟨b3, o3 + j * 8 + 1, none⟩ = some (.int .i64 xt) ∧ (loadVar 30 ⟨T6, 0, none⟩).run Tryd.prog W = .ok u6 W) (first | exact HALL.out _ (below_drewN (Below.refl _ _) 1) | (go_split_ands; exact HALL.out _ (below_call (by assumption) hbt1)) | (go_split_ands; exact HALL.out _ (below_realloc (by assumption) hbs)) | (go_split_ands; exact HALL.out _ (below_set4 (by assumption) (by first | omega | (simp; omega)) _ _ _ _)) | (go_split_ands; exact HALL.out _ (below_alloc (by assumption) _))) ((go_at_call 14; go_split_ands; refine (HFD.out _ (by assumption)).mono ?_; rintro e x1 ⟨rfl, hbt1⟩; have hbs := hbt1.size))
                        go_split_ands
                        have HBQ := hid (show Below wd.heap.size wd x1 by assumption)
                        go_wp2
                        go_roundw
                        case rel => exact ⟨j + 1, by omega, by go_num, HBad.out.trans (HBQ.out.mono HBad.out.size)⟩
                        case measure => simp [intOf]; omega
                  · obtain rfl : m = O.K.length := by omega
                    have HVO3 := hid (HVO2.out.below HBc.out)
                    have HVC4 := hid (HVC3.out.below HBc.out)
                    have HBVO3 := hid (HBVO2.out.below HBc.out)
                    have HBX2 := HBX.out.trans (HBa.out.mono HBX.out.size)
                    have HBX3 := hid (HBX2.trans (HBc.out.mono HBX2.size))
                    obtain ⟨_, _, _, _, _, _, ou, obb, _⟩ := HVO3.out.open
                    obtain ⟨_, _, _, _, _, _, cu, cbb, _⟩ := HVC4.out.open
                    have x1 : wc.cell? ⟨T6, 1, none⟩ = some (.int .i64 (O.f 1)) := blk_cell obb 1
                    have hld := HVO3.out.load
                    obtain ⟨X9, hst, hvar, _, hbx, _, _⟩ := brEnd_store (HBVO3.out.end HVO3.out) cbb rfl HBX3.out hTw
                    have HVAR := hid hvar
                    have HBX9 := hid hbx
                    have hsq := HSB.out
                    clear obb cbb hvar hbx HBX2 ou cu
                    obtain ⟨q1, hq1⟩ : ∃ z, O.f 1 = z := ⟨_, rfl⟩
                    obtain ⟨q2, hq2⟩ : ∃ z, C.f 1 = z := ⟨_, rfl⟩
                    have HQ1 := hid hq1
                    rw [hq1] at x1 hsq
                    rw [hq2] at hsq ⊢
                    clear hq1 hq2
                    have HSQ := hid hsq
                    clear hsq
                    go_wp2
                    go_roundw
                    case rel => exact ⟨n + 1, O, _, by omega, by go_num, by rw [HQ1.out]; congr 1; have := HSQ.out; omega, HST.out.p, HFO.out, HMO.out, HVAR.out, HBX9.out⟩
                    case measure => simp [intOf]; omega
      · obtain rfl : n = R.length := by omega
        go_wp2_with fail
        refine (wakes_any wr (HC.out.below HBr.out) (HL.out.below HBr.out)).mono ?_
        rintro e Ww ⟨rfl, hb⟩
        have HBw := hid (HBr.out.trans (hb.mono HBr.out.size))
        clear hb
        go_wp2
        go_ret
        exact ⟨rfl, HBw.out⟩
end Go.Proofs.YthnigndpibgibaaDoor
