/- BrainParts: behind records in two parts a brain is as behind all. Printed by gn_lp.py. -/
import Derived.Test.YthnigndpibgibaaDoorRow13
import Derived.Test.YthnigndpibgibaaDoorVd
import Derived.Deep.RegionHeld3
import Derived.Deep.RegionLaw
namespace Go.Proofs.YthnigndpibgibaaDoor
open Go.RowKit Go.Shelf
attribute [-go_sem] loadVar storeVar Instr.buildSlice
attribute [local go_sem] load_other store_other

theorem infoR : (Tryd.prog.info? 37).map (fun i => (i.zero, i.size, i.bytes)) = some (some (.agg #[.int .u8 0, .slice none 0 0]), 2, 32) := by kernel_rfl
theorem bs_rec0 (w : World) : (Instr.buildSlice 31 0 #[]).run Tryd.prog w = .ok (.slice (some ⟨w.heap.size, 0, none⟩) 0 0) (w.alloc (.cells #[] 37)) := by kernel_rfl
theorem applyAll_append (B : BrainV) (R S : List RecE) : applyAll B (R ++ S) = applyAll (applyAll B R) S := by
  unfold applyAll
  rw [List.foldl_append]
theorem applyAll_M {n : Nat} (hn : 4 ≤ n) : ∀ (R : List RecE) {B : BrainV}, B.M.length ≤ n → (applyAll B R).M.length ≤ n
  | [], _, h => h
  | r :: R, B, h => applyAll_M hn R (applyB_M B r.k r.L h hn)
theorem recs_one {w : World} {R : List RecE} {s : Value} (h : RecsR w R s) : ∀ y ∈ R, ∀ u ∈ encR y, u.oneCell' = true := by
  intro y hy u hu
  obtain ⟨a, c, e, _⟩ := (h.2 y hy).open
  simp only [encR, List.mem_cons, List.not_mem_nil, or_false] at hu
  rcases hu with rfl | rfl
  · rfl
  · rw [e]; rfl
theorem own_rec_at {w : World} {g base : Nat} (h : w.heap[g]? = some (.cells #[] 37)) (hb : base ≤ g) : Owns 2 37 encR w base (.slice (some ⟨g, 0, none⟩) 0 0) ([] : List RecE) :=
  Owns.mk (fun _ => rfl) h rfl (Nat.le_refl _) (by decide) hb rfl rfl
theorem own_cells {W : World} {base : Nat} {v : Value} {l : List KeptV} (h : OwnK W base v l) : ∃ a c, v = .slice a l.length c ∧ (0 < l.length → ∃ g cur, a = some ⟨g, 0, none⟩ ∧ base ≤ g ∧ W.heap[g]? = some (.cells cur 43) ∧ l.length * 8 ≤ cur.size) := by
  rcases Owns.form h with ⟨rfl, h0⟩ | ⟨g, c, rfl, hg, hl⟩
  · exact ⟨none, 0, by rw [h0]; rfl, fun h1 => by rw [h0] at h1; simp at h1⟩
  · obtain ⟨cur, h1, h2, h3, h4, h5, h6, h7⟩ := Owns.blk h
    exact ⟨_, c, rfl, fun _ => ⟨g, cur, rfl, h5, h1, by rw [h6]; exact Nat.mul_le_mul_right 8 h3⟩⟩
def KCells (W : World) (a : Option Addr) (n : Nat) : Prop := ∀ g, a = some ⟨g, 0, none⟩ → 0 < n → ∃ cur, W.heap[g]? = some (.cells cur 43) ∧ n * 8 ≤ cur.size
theorem sameB_of {A B : BrainV} (h : A = B) : sameB A B = true := by rw [h]; exact sameB_refl B
set_option maxRecDepth 100000 in
set_option maxHeartbeats 8000000 in
theorem parts_law (B : BrainV) (bv s t : Value) (R S : List RecE) (w : World) (hB : BrIs w B bv) (hR : RecsR w R s) (hS : RecsR w S t) (hph : ∀ x ∈ B.K, in8 x.phase) (hC : Changes w) (hLm : Limits w) :
    Calls Tryd.prog 5 #[bv, s, t] w fun e w' => e = .returned (.bool true) ∧ Below w.heap.size w w' := by
  obtain ⟨r0, hr0, hr1, hr2, hr3⟩ := info_parts infoR
  have HI0 := hid hr0
  have HI1 := hid hr1
  have HI2 := hid hr2
  have HI3 := hid hr3
  have hb0 := bs_rec0
  clear hr0 hr1 hr2 hr3
  obtain ⟨sa, sc, rfl, p1, p2, p3, hop⟩ := hR.1.open
  obtain ⟨ta, tc, rfl, t1, t2, t3, _⟩ := hS.1.open
  obtain ⟨ma, mc, ia, ic, ka, kc, rfl, hm, hi, hk⟩ := hB.open
  have HB := hid hB
  have HR := hid hR
  have HS := hid hS
  have HC := hid hC
  have HL := hid hLm
  have HOP := hid hop
  obtain ⟨bv, hbv⟩ : ∃ bv, bv = brT B.f B.g (.slice ma B.M.length mc) (.slice ia B.I.length ic) (.slice ka B.K.length kc) := ⟨_, rfl⟩
  obtain ⟨W1, hW1⟩ : ∃ W1, W1 = w.alloc (.cells bv 30) := ⟨_, rfl⟩
  have hb1 : Below w.heap.size w W1 := by rw [hW1]; exact (Below.refl _ _).alloc (Nat.le_refl _) _
  have n1 : BB W1 w.heap.size bv := by rw [hW1]; exact heap_new _ _
  have hV1 : VarIs W1 w.heap.size B (.agg bv) := by rw [hbv] at n1 ⊢; exact ⟨_, _, _, rfl, n1, hm.below hb1, hi.below hb1, hk.below hb1⟩
  have HB1 := hid hb1
  have HV1 := hid hV1
  have HW1 := hid hW1
  have hld := hV1.load
  have hbs := bs_brain B.f B.g (.slice ma B.M.length mc) (.slice ia B.I.length ic) (.slice ka B.K.length kc)
  rw [← hbv] at hbs HB ⊢
  obtain ⟨xr, hxB, hxr⟩ := BrsR.one (hV1.is) rfl
  obtain ⟨W2, hW2⟩ : ∃ W2, W2 = W1.alloc (.cells bv 30) := ⟨_, rfl⟩
  rw [← hW2] at hxr
  have hb2 : Below W1.heap.size W1 W2 := by rw [hW2]; exact (Below.refl _ _).alloc (Nat.le_refl _) _
  have HGR := hid (great13_any _ _ R [xr] W2 ((hR.below hb1).below hb2) hxr)
  rw [show W1.heap.size = w.heap.size + 1 by rw [hW1]; simp] at HGR
  have HV2 := hid (hV1.below hb2)
  have HB2 := hid hb2
  have HW2 := hid hW2
  have HPH := hid hph
  have HXB := hid hxB
  have HBV := hid hbv
  clear hB hR hS hC hLm hop hm hi hk hb1 n1 hV1 hxr hb2 hph hbv hxB
  rw [hW1] at hld
  go_enter Tryd.func5, Tryd.ntmps5
  go_wp2_with fail
  rw [← HW1.out, ← HW2.out]
  refine HGR.out.mono ?_
  rintro e W3 ⟨q, rfl, hq, hb⟩
  have HB3 := hid (HB1.out.trans ((HB2.out.trans (hb.mono HB2.out.size)).mono HB1.out.size))
  have HV3 := hid (HV2.out.below hb)
  have HQ := hid hq
  clear hb hq hbs hW1 hW2 hld
  cases q with
  | true =>
    go_wp2_with fail
    refine (wakes_any W3 (HC.out.below HB3.out) (HL.out.below HB3.out)).mono ?_
    rintro e Ww ⟨rfl, hb⟩
    have HBw := hid (HB3.out.trans (hb.mono HB3.out.size))
    clear hb
    go_wp2
    go_ret
    exact ⟨rfl, HBw.out⟩
  | false =>
    obtain ⟨_, hR40, hG⟩ := HQ.out rfl
    have hgr := hG xr (List.mem_singleton.2 rfl)
    rw [HXB.out] at hgr
    have hgb : B.I.length ≤ 40 ∧ B.K.length ≤ 40 ∧ B.M.length ≤ 40 := by
      unfold greatB at hgr
      simp only [Bool.or_eq_false_iff, decide_eq_false_iff_not] at hgr
      omega
    have HGB := hid hgb
    have HR40 := hid hR40
    have HGS := hid (great13_any _ _ S [] W3 (HS.out.below HB3.out) (BrsR.nil W3))
    clear hgr hG hR40 hgb
    go_wp2_with fail
    refine HGS.out.mono ?_
    rintro e W4 ⟨q2, rfl, hq2, hb⟩
    have HB4 := hid (HB3.out.trans (hb.mono HB3.out.size))
    have HV4 := hid (HV3.out.below hb)
    have HQ2 := hid hq2
    clear hb hq2
    cases q2 with
    | true =>
      go_wp2_with fail
      refine (wakes_any W4 (HC.out.below HB4.out) (HL.out.below HB4.out)).mono ?_
      rintro e Ww ⟨rfl, hb⟩
      have HBw := hid (HB4.out.trans (hb.mono HB4.out.size))
      clear hb
      go_wp2
      go_ret
      exact ⟨rfl, HBw.out⟩
    | false =>
      obtain ⟨_, hS40, _⟩ := HQ2.out rfl
      have HS40 := hid hS40
      clear hS40
      by_cases hsum : (60 : Int) < (R.length : Int) + (S.length : Int)
      · have d0 : decide ((60 : Int) < (R.length : Int) + (S.length : Int)) = true := decide_eq_true hsum
        clear hsum
        go_wp2_with fail
        refine (wakes_any W4 (HC.out.below HB4.out) (HL.out.below HB4.out)).mono ?_
        rintro e Ww ⟨rfl, hb⟩
        have HBw := hid (HB4.out.trans (hb.mono HB4.out.size))
        clear hb
        go_wp2
        go_ret
        exact ⟨rfl, HBw.out⟩
      · have d0 : decide ((60 : Int) < (R.length : Int) + (S.length : Int)) = false := decide_eq_false hsum
        have HSUM := hid (show R.length + S.length ≤ 60 by omega)
        clear hsum
        have HFI := hid (show Fine B 40 from ⟨HGB.out.1, HGB.out.2.1, HPH.out⟩)
        have hld := HV4.out.load
        have hO13 := hid (rown13_any B _ W4 HV4.out.is (by have := HGB.out.2.2; omega) (by have := HGB.out.1; omega) (by have := HGB.out.2.1; omega))
        go_wp2_with fail
        refine hO13.out.mono ?_
        rintro e V ⟨u7, rfl, hend, hb⟩
        have hbz : Below V.heap.size V (V.alloc (.cells #[.int .i64 0, .int .i64 0, .bool false, .int .i64 0, .int .i64 0, .int .i64 0, .int .i64 0, .int .i64 0, .int .i64 0, .int .i64 0, .int .i64 0, .int .i64 0, .int .i64 0, .int .i64 0, .int .i64 0, .int .i64 0, .bool false, .slice none 0 0, .slice none 0 0, .slice none 0 0, .int .u8 0, .int .i64 0, .int .i64 0, .int .i64 0, .bool false, .int .i64 0, .int .i64 0] 30)) := (Below.refl _ _).alloc (Nat.le_refl _) _
        have hzz : (V.alloc (.cells #[.int .i64 0, .int .i64 0, .bool false, .int .i64 0, .int .i64 0, .int .i64 0, .int .i64 0, .int .i64 0, .int .i64 0, .int .i64 0, .int .i64 0, .int .i64 0, .int .i64 0, .int .i64 0, .int .i64 0, .int .i64 0, .bool false, .slice none 0 0, .slice none 0 0, .slice none 0 0, .int .u8 0, .int .i64 0, .int .i64 0, .int .i64 0, .bool false, .int .i64 0, .int .i64 0] 30)).heap[V.heap.size]? = some (.cells #[.int .i64 0, .int .i64 0, .bool false, .int .i64 0, .int .i64 0, .int .i64 0, .int .i64 0, .int .i64 0, .int .i64 0, .int .i64 0, .int .i64 0, .int .i64 0, .int .i64 0, .int .i64 0, .int .i64 0, .int .i64 0, .bool false, .slice none 0 0, .slice none 0 0, .slice none 0 0, .int .u8 0, .int .i64 0, .int .i64 0, .int .i64 0, .bool false, .int .i64 0, .int .i64 0] 30) := heap_new _ _
        obtain ⟨X7, hst, hvar, _, hbx, _, _⟩ := brEnd_store (hend.below hbz) hzz rfl hbz (Nat.le_refl _)
        have hbV := HB4.out.trans (hb.mono HB4.out.size)
        have HBX7 := hid (hbV.trans (hbx.mono hbV.size))
        have hb4x := hb.trans (hbx.mono hb.size)
        have HV7 := hid (HV4.out.below hb4x)
        obtain ⟨T7, hT7⟩ : ∃ T, V.heap.size = T := ⟨_, rfl⟩
        rw [hT7] at hvar hst
        have HU7 := hid hvar
        clear hb hend hbz hzz hvar hbx hbV hb4x hld
        go_wp2_with fail
        refine wp_region_cut 8 1 (fun _ => True) (by kernel_rfl) (by kernel_rfl) (by kernel_rfl) ?_
        simp only [List.take_succ_cons, List.take_zero]
        refine wpAnyH_grownD (w0 := X7.drew) (spL _) (relD [3, 5] (KeptT 30) [] KeptE) (aliveD [(3, 1), (5, 3)]) (ancD [(3, 5), (3, 6), (5, 6)]) (spD (n := 8) (m := 8) (l := [fun z _ => z = (.agg bv), fun v w => Owns 2 37 encR w X7.heap.size v ([] : List RecE), fun z _ => z = .slice sa R.length sc, fun v w => Owns 2 37 encR w X7.heap.size v ([] ++ R), fun z _ => z = .slice ta S.length tc, fun v w => Owns 2 37 encR w X7.heap.size v ([] ++ R ++ S), fun z w => BrEnd X7 (applyAll B (R ++ S)) z w, fun z w => NewBr X7 z w]) (apps := [3, 5]) (stab := [0, 2, 4, 7]) (appsE := []) (stabE := []) ⟨stays_eq _, stays_owns 2 _ encR _ _, stays_eq _, stays_owns 2 _ encR _ _, stays_eq _, stays_owns 2 _ encR _ _, stays_brEnd _ _, stays_new _, trivial⟩ ⟨stw_eq _ _, stw_eq _ _, stw_eq _ _, stw_new _, trivial⟩ trivial rfl (by decide) (by decide)) (by kernel_rfl) (by kernel_rfl) (by kernel_rfl) (by kernel_rfl) ?steps8 ?fin8 rfl
        case steps8 =>
          refine ⟨?_, ?_, ?_, ?_, ?_, ?_, ?_, ?_, trivial⟩
          · intro a' w' hB hdep hoth K hK
            have hK := growB hB hK
            rw [if_pos (guard_none rfl)]
            have hbw : Below X7.heap.size X7 w' := (below_drewN (Below.refl _ _) 1).trans hB
            have t3 := hoth 3 (notDst_at (by kernel_rfl))
            simp only [List.getElem?_toArray, List.getElem?_cons_succ, List.getElem?_cons_zero] at t3
            have hld := (HV7.out.below hbw).load
            clear hdep hoth
            go_simp
            exact hK _ _ (Below.refl _ _) rfl
          · intro a' w' hB hdep hoth K hK
            have hK := growB hB hK
            rw [if_pos (guard_none rfl)]
            have hbw : Below X7.heap.size X7 w' := (below_drewN (Below.refl _ _) 1).trans hB
            clear hdep hoth
            go_simp
            exact hK _ _ ((Below.refl _ _).alloc (Nat.le_refl _) _) (own_rec_at (heap_new _ _) hbw.size)
          · intro a' w' hB hdep hoth K hK
            have hK := growB hB hK
            rw [if_pos (guard_none rfl)]
            have hbw : Below X7.heap.size X7 w' := (below_drewN (Below.refl _ _) 1).trans hB
            have t1 := hoth 1 (notDst_at (by kernel_rfl))
            simp only [List.getElem?_toArray, List.getElem?_cons_succ, List.getElem?_cons_zero] at t1
            clear hdep hoth
            go_simp
            exact hK _ _ (Below.refl _ _) rfl
          · intro a' w' hB hdep hoth K hK
            have hbw : Below X7.heap.size X7 w' := (below_drewN (Below.refl _ _) 1).trans hB
            obtain ⟨vO, gO, eO⟩ := hdep ⟨1, .data⟩ (by simp) rfl
            have gO := gO 34 rfl (by simp)
            obtain ⟨vx, gx, ex⟩ := hdep ⟨2, .data⟩ (by simp) rfl
            have gx := gx 35 rfl (by simp)
            obtain rfl : vx = .slice sa R.length sc := ex
            have eO : Owns 2 37 encR w' X7.heap.size vO ([]) := eO
            have hrx := HR.out.below (HBX7.out.trans (hbw.mono HBX7.out.size))
            refine step_append_row rfl _ _ 31 rfl X7.heap.size 37 r0 _ 32 Tryd.underlying31 HI0.out HI1.out HI2.out HI3.out rfl (by decide) (fun _ => rfl) vO ([]) (by simp [Act.eval, gO]) eO (.slice sa R.length sc) R (by simp [Act.eval, gx]) (recs_one hrx) hrx.1 (by unfold maxLen; simp; have := HSUM.out; omega) (by simp; have := HSUM.out; omega) hbw.size ?_
            intro v' w'' hown hbb hgr
            exact hK v' w'' (hB.trans hbb) (KeptT.grown hgr (fun r e => Owns.typed eO r e) (by decide)) hown
          · intro a' w' hB hdep hoth K hK
            have hK := growB hB hK
            rw [if_pos (guard_none rfl)]
            have hbw : Below X7.heap.size X7 w' := (below_drewN (Below.refl _ _) 1).trans hB
            have t2 := hoth 2 (notDst_at (by kernel_rfl))
            simp only [List.getElem?_toArray, List.getElem?_cons_succ, List.getElem?_cons_zero] at t2
            clear hdep hoth
            go_simp
            exact hK _ _ (Below.refl _ _) rfl
          · intro a' w' hB hdep hoth K hK
            have hbw : Below X7.heap.size X7 w' := (below_drewN (Below.refl _ _) 1).trans hB
            obtain ⟨vO, gO, eO⟩ := hdep ⟨3, .data⟩ (by simp) rfl
            have gO := gO 36 rfl (by simp)
            obtain ⟨vx, gx, ex⟩ := hdep ⟨4, .data⟩ (by simp) rfl
            have gx := gx 37 rfl (by simp)
            obtain rfl : vx = .slice ta S.length tc := ex
            have eO : Owns 2 37 encR w' X7.heap.size vO ([] ++ R) := eO
            have hrx := HS.out.below (HBX7.out.trans (hbw.mono HBX7.out.size))
            refine step_append_row rfl _ _ 31 rfl X7.heap.size 37 r0 _ 32 Tryd.underlying31 HI0.out HI1.out HI2.out HI3.out rfl (by decide) (fun _ => rfl) vO ([] ++ R) (by simp [Act.eval, gO]) eO (.slice ta S.length tc) S (by simp [Act.eval, gx]) (recs_one hrx) hrx.1 (by unfold maxLen; simp; have := HSUM.out; omega) (by simp; have := HSUM.out; omega) hbw.size ?_
            intro v' w'' hown hbb hgr
            exact hK v' w'' (hB.trans hbb) (KeptT.grown hgr (fun r e => Owns.typed eO r e) (by decide)) hown
          · intro a' w' hB hdep hoth K hK
            have hK := growB hB hK
            rw [if_pos (guard_none rfl)]
            have hbw : Below X7.heap.size X7 w' := (below_drewN (Below.refl _ _) 1).trans hB
            obtain ⟨v0, g0, e0⟩ := hdep ⟨0, .data⟩ (by simp) rfl
            have g0 := g0 33 rfl (by simp)
            obtain rfl : v0 = .agg bv := e0
            obtain ⟨v1, g1, e1⟩ := hdep ⟨5, .data⟩ (by simp) rfl
            have g1 := g1 38 rfl (by simp)
            have e1 : Owns 2 37 encR w' X7.heap.size v1 ([] ++ R ++ S) := e1
            have hbq := HBX7.out.trans (hbw.mono HBX7.out.size)
            have HA := hid (all_is (R ++ S) 40 (HV7.out.below hbw).is (show RecsR w' (R ++ S) v1 from ⟨e1.row (fun _ => rfl) (by decide), fun r hr => (List.mem_append.1 hr).elim ((HR.out.below hbq).2 r) ((HS.out.below hbq).2 r)⟩) HFI.out (by rw [List.length_append]; have := HSUM.out; omega) (by have := HGB.out.2.2; omega) (fun x hx => (List.mem_append.1 hx).elim (fun h => Nat.le_trans (HR40.out x h) (by omega)) (fun h => Nat.le_trans (HS40.out x h) (by omega))) (HC.out.below hbq) (HL.out.below hbq))
            clear hdep hoth e1
            go_simp
            refine HA.out.mono ?_
            rintro e w'' ⟨v, rfl, he, hb⟩
            exact hK v _ hb (he.base hbw.size)
          · intro a' w' hB hdep hoth K hK
            have hK := growB hB hK
            rw [if_pos (guard_none rfl)]
            have hbw : Below X7.heap.size X7 w' := (below_drewN (Below.refl _ _) 1).trans hB
            clear hdep hoth
            go_simp
            exact hK _ _ ((Below.refl _ _).alloc (Nat.le_refl _) _) ⟨w'.heap.size, rfl, hbw.size, heap_new w' _⟩
        case fin8 =>
          intro vs w' hB hs
          have hbw : Below X7.heap.size X7 w' := (below_drewN (Below.refl _ _) 1).trans hB
          have e6 := hs 6 (by decide) (by decide)
          have e6 : BrEnd X7 _ (vs 6) w' := e6
          obtain ⟨T8, e7, hT, hz⟩ := hs 7 (by decide) (by decide)
          clear hs
          refine cutQ_held (fun _ => True) (fun f => ?_)
          simp only [actOf, dstAt, if_true, List.getElem?_toArray, List.getElem?_cons_succ, List.getElem?_cons_zero, Option.bind_some, Act.put, List.setIfInBounds_toArray, List.set_cons_zero, List.set_cons_succ, List.length_cons, List.length_nil, Nat.reduceAdd]
          rw [e7]
          obtain ⟨u8, hu⟩ : ∃ u, vs 6 = u := ⟨_, rfl⟩
          rw [hu] at e6 ⊢
          obtain ⟨X8, hst, hvar, hbv, hbx, hXo, hXs⟩ := brEnd_store e6 hz rfl hbw hT
          refine wpAnyH_ready (rs := [8]) (by kernel_rfl) (by simp) ?_
          refine AllReadyH.cons rfl (fun K hK => ?_) AllReadyH.nil
          go_simp
          refine hK.out _ _ trivial (fun _ => ?_)
          clear hK K
          refine wpAnyH_done (by kernel_rfl) ?_ _
          have HU8 := hid hvar
          have HBX8 := hid (HBX7.out.trans (hbx.mono HBX7.out.size))
          have HV8 := hid (HV7.out.below hbx)
          have HU7b := hid (HU7.out.below hbx)
          clear hB hbw e6 hu hz hT e7 hvar hbv hbx hXo hXs hst
          have HC8 := hid (HC.out.below HBX8.out)
          have HL8 := hid (HL.out.below HBX8.out)
          have hld := HV8.out.load
          go_wp2_with fail
          refine (all_is R 40 HV8.out.is (HR.out.below HBX8.out) HFI.out (by have := HSUM.out; omega) (by have := HGB.out.2.2; omega) (fun x hx => Nat.le_trans (HR40.out x hx) (by omega)) HC8.out HL8.out).mono ?_
          rintro e Y ⟨uy, rfl, hend, hb⟩
          have HEND := hid hend
          have HBY := hid hb
          have HBXY := hid (HBX8.out.trans (hb.mono HBX8.out.size))
          clear hend hb hld
          go_wp2_with fail
          refine (all_is S 100 HEND.out.is (HS.out.below HBXY.out) (HFI.out.all R (by have := HSUM.out; omega)) (by have := HSUM.out; omega) (by have := applyAll_M (n := 40) (by omega) R HGB.out.2.2; omega) (fun x hx => Nat.le_trans (HS40.out x hx) (by omega)) (HC.out.below HBXY.out) (HL.out.below HBXY.out)).mono ?_
          rintro e V9 ⟨u9, rfl, hend, hb⟩
          have hbz : Below V9.heap.size V9 (V9.alloc (.cells #[.int .i64 0, .int .i64 0, .bool false, .int .i64 0, .int .i64 0, .int .i64 0, .int .i64 0, .int .i64 0, .int .i64 0, .int .i64 0, .int .i64 0, .int .i64 0, .int .i64 0, .int .i64 0, .int .i64 0, .int .i64 0, .bool false, .slice none 0 0, .slice none 0 0, .slice none 0 0, .int .u8 0, .int .i64 0, .int .i64 0, .int .i64 0, .bool false, .int .i64 0, .int .i64 0] 30)) := (Below.refl _ _).alloc (Nat.le_refl _) _
          have hzz : (V9.alloc (.cells #[.int .i64 0, .int .i64 0, .bool false, .int .i64 0, .int .i64 0, .int .i64 0, .int .i64 0, .int .i64 0, .int .i64 0, .int .i64 0, .int .i64 0, .int .i64 0, .int .i64 0, .int .i64 0, .int .i64 0, .int .i64 0, .bool false, .slice none 0 0, .slice none 0 0, .slice none 0 0, .int .u8 0, .int .i64 0, .int .i64 0, .int .i64 0, .bool false, .int .i64 0, .int .i64 0] 30)).heap[V9.heap.size]? = some (.cells #[.int .i64 0, .int .i64 0, .bool false, .int .i64 0, .int .i64 0, .int .i64 0, .int .i64 0, .int .i64 0, .int .i64 0, .int .i64 0, .int .i64 0, .int .i64 0, .int .i64 0, .int .i64 0, .int .i64 0, .int .i64 0, .bool false, .slice none 0 0, .slice none 0 0, .slice none 0 0, .int .u8 0, .int .i64 0, .int .i64 0, .int .i64 0, .bool false, .int .i64 0, .int .i64 0] 30) := heap_new _ _
          obtain ⟨X9, hst, hvar, hbrv, hbx, _, _⟩ := brEnd_store (hend.below hbz) hzz rfl hbz (Nat.le_refl _)
          have hbV := HBXY.out.trans (hb.mono HBXY.out.size)
          have HBX9 := hid (hbV.trans (hbx.mono hbV.size))
          have hb4x := hb.trans (hbx.mono hb.size)
          have HBS9 := hid hb4x
          obtain ⟨T9, hT9⟩ : ∃ T, V9.heap.size = T := ⟨_, rfl⟩
          have hle9 : Y.heap.size ≤ T9 := by rw [← hT9]; exact hb.size
          rw [hT9] at hvar hst hbrv
          have HU9 := hid hvar
          have HBR9 := hid hbrv
          have HLE9 := hid hle9
          clear hb hend hbz hzz hvar hbrv hbx hbV hb4x hle9
          have hb89 := HBY.out.trans (HBS9.out.mono HBY.out.size)
          have HV9 := hid (HV8.out.below hb89)
          have HU79 := hid (HU7b.out.below hb89)
          have HU89 := hid (HU8.out.below hb89)
          clear hb89 HEND
          have hld := HV9.out.load
          go_wp2_with fail
          refine (own_is HV9.out.is (by have := HGB.out.2.2; omega) (by have := HGB.out.1; omega) (by have := HGB.out.2.1; omega)).mono ?_
          rintro e V10 ⟨u10, rfl, hend, hb⟩
          have hbz : Below V10.heap.size V10 (V10.alloc (.cells #[.int .i64 0, .int .i64 0, .bool false, .int .i64 0, .int .i64 0, .int .i64 0, .int .i64 0, .int .i64 0, .int .i64 0, .int .i64 0, .int .i64 0, .int .i64 0, .int .i64 0, .int .i64 0, .int .i64 0, .int .i64 0, .bool false, .slice none 0 0, .slice none 0 0, .slice none 0 0, .int .u8 0, .int .i64 0, .int .i64 0, .int .i64 0, .bool false, .int .i64 0, .int .i64 0] 30)) := (Below.refl _ _).alloc (Nat.le_refl _) _
          have hzz : (V10.alloc (.cells #[.int .i64 0, .int .i64 0, .bool false, .int .i64 0, .int .i64 0, .int .i64 0, .int .i64 0, .int .i64 0, .int .i64 0, .int .i64 0, .int .i64 0, .int .i64 0, .int .i64 0, .int .i64 0, .int .i64 0, .int .i64 0, .bool false, .slice none 0 0, .slice none 0 0, .slice none 0 0, .int .u8 0, .int .i64 0, .int .i64 0, .int .i64 0, .bool false, .int .i64 0, .int .i64 0] 30)).heap[V10.heap.size]? = some (.cells #[.int .i64 0, .int .i64 0, .bool false, .int .i64 0, .int .i64 0, .int .i64 0, .int .i64 0, .int .i64 0, .int .i64 0, .int .i64 0, .int .i64 0, .int .i64 0, .int .i64 0, .int .i64 0, .int .i64 0, .int .i64 0, .bool false, .slice none 0 0, .slice none 0 0, .slice none 0 0, .int .u8 0, .int .i64 0, .int .i64 0, .int .i64 0, .bool false, .int .i64 0, .int .i64 0] 30) := heap_new _ _
          obtain ⟨X10, hst, hvar, hbrv, hbx, _, _⟩ := brEnd_store (hend.below hbz) hzz rfl hbz (Nat.le_refl _)
          have hbV := HBX9.out.trans (hb.mono HBX9.out.size)
          have HBX10 := hid (hbV.trans (hbx.mono hbV.size))
          have hb4x := hb.trans (hbx.mono hb.size)
          have HBS10 := hid hb4x
          have HV10 := hid (HV9.out.below hb4x)
          have HU710 := hid (HU79.out.below hb4x)
          have HU810 := hid (HU89.out.below hb4x)
          have HU910 := hid (HU9.out.below hb4x)
          obtain ⟨T10, hT10⟩ : ∃ T, V10.heap.size = T := ⟨_, rfl⟩
          have hle10 : X9.heap.size ≤ T10 := by rw [← hT10]; exact hb.size
          rw [hT10] at hvar hst hbrv
          have HU10 := hid hvar
          have HBR10 := hid hbrv
          have HLE10 := hid hle10
          clear hb hend hbz hzz hvar hbrv hbx hbV hb4x hld hle10
          go_wp2
          clear hst
          go_loopw [11] (fun i wr => ∃ (k : Nat) (v : Value), k ≤ R.length ∧ i = .int .i64 k ∧ VarIs wr T10 (applyAll B (R.take k)) v ∧ Below X9.heap.size X9 wr) (fun i _ => R.length - (intOf i).toNat)
          case atStart => exact ⟨0, _, Nat.zero_le _, rfl, HU10.out, HBS10.out⟩
          case round =>
            obtain ⟨n, v, hn, rfl, hvr, hBr⟩ := hrel
            have HVR := hid hvr
            have HBr := hid hBr
            have HBW := hid (HBX9.out.trans (hBr.mono HBX9.out.size))
            clear hvr hBr
            by_cases hlt : n < R.length
            · obtain ⟨b1, o1, rfl, hb1, hr1⟩ := HOP.out (by omega)
              obtain ⟨r, hr⟩ := get_lt hlt
              obtain ⟨rs, hrs⟩ : ∃ x, r.s = x := ⟨_, rfl⟩
              have hrec := HR.out.2 r (mem_get hr)
              rw [hrs] at hrec
              obtain ⟨ra, rc, rfl, _⟩ := hrec.open
              obtain ⟨g0, g1⟩ := rowR (hr1.below HBW.out hb1) hr
              rw [hrs] at g1
              have hnL : (n : Int) < (R.length : Int) := by omega
              have hb1w : b1 < wr.heap.size := Nat.lt_of_lt_of_le hb1 HBW.out.size
              have hL40 := HR40.out r (mem_get hr)
              have HREC := hid (RowOf.below hrec HBW.out)
              have G0 := hid g0
              have G1 := hid g1
              have HSN := hid (show applyAll B (R.take (n + 1)) = applyB (applyAll B (R.take n)) r.k r.L by rw [List.take_add_one, hr]; exact applyAll_append B (R.take n) [r])
              obtain ⟨rk, hrk⟩ : ∃ x, r.k = x := ⟨_, rfl⟩
              rw [hrk] at g0 G0 HSN
              obtain ⟨C, hC⟩ : ∃ C, applyAll B (R.take n) = C := ⟨_, rfl⟩
              have HFC := hid (show Fine C 100 by rw [← hC]; exact HFI.out.all (R.take n) (by have := List.length_take_le n R; have := HSUM.out; omega))
              have HMC := hid (show C.M.length ≤ 40 by rw [← hC]; exact applyAll_M (by omega) (R.take n) HGB.out.2.2)
              rw [hC] at HVR HSN
              clear hrec hr1 hr hC
              have hlw := HVR.out.lt
              go_wp2_with fail
              refine wp_region_cut 6 1 (fun _ => True) (by kernel_rfl) (by kernel_rfl) (by kernel_rfl) ?_
              simp only [List.take_succ_cons, List.take_zero]
              refine wpAnyH_grownD (w0 := wr.drew) (spL _) (relD [] (KeptT 30) [] KeptE) (aliveD []) (ancD []) (spD (n := 6) (m := 6) (l := [fun z _ => z = v, fun z _ => z = .slice (some ⟨b1, o1, none⟩) R.length sc, fun z _ => z = .int .i64 (n : Int), fun z _ => z = .pointer (some ⟨b1, o1 + n * 2, none⟩), fun z _ => z = .agg #[.int .u8 rk, .slice ra r.L.length rc], fun z w => BrEnd wr (applyB C rk (r.L)) z w]) (apps := []) (stab := []) (appsE := []) (stabE := []) ⟨stays_eq _, stays_eq _, stays_eq _, stays_eq _, stays_eq _, stays_brEnd _ _, trivial⟩ trivial trivial rfl (by decide) (by decide)) (by kernel_rfl) (by kernel_rfl) (by kernel_rfl) (by kernel_rfl) ?steps0 ?fin0 rfl
              case steps0 =>
                refine ⟨?_, ?_, ?_, ?_, ?_, ?_, trivial⟩
                · intro a' w' hB hdep hoth K hK
                  have hK := growB hB hK
                  rw [if_pos (guard_none rfl)]
                  have hbw : Below wr.heap.size wr w' := (below_drewN (Below.refl _ _) 1).trans hB
                  have t10 := hoth 10 (notDst_at (by kernel_rfl))
                  simp only [List.getElem?_toArray, List.getElem?_cons_succ, List.getElem?_cons_zero] at t10
                  have hld := (HVR.out.below hbw).load
                  clear hdep hoth
                  go_simp
                  exact hK _ _ (Below.refl _ _) rfl
                · intro a' w' hB hdep hoth K hK
                  have hK := growB hB hK
                  rw [if_pos (guard_none rfl)]
                  have hbw : Below wr.heap.size wr w' := (below_drewN (Below.refl _ _) 1).trans hB
                  have t1 := hoth 1 (notDst_at (by kernel_rfl))
                  simp only [List.getElem?_toArray, List.getElem?_cons_succ, List.getElem?_cons_zero] at t1
                  clear hdep hoth
                  go_simp
                  exact hK _ _ (Below.refl _ _) rfl
                · intro a' w' hB hdep hoth K hK
                  have hK := growB hB hK
                  rw [if_pos (guard_none rfl)]
                  have hbw : Below wr.heap.size wr w' := (below_drewN (Below.refl _ _) 1).trans hB
                  have t11 := hoth 11 (notDst_at (by kernel_rfl))
                  simp only [List.getElem?_toArray, List.getElem?_cons_succ, List.getElem?_cons_zero] at t11
                  clear hdep hoth
                  go_simp
                  exact hK _ _ (Below.refl _ _) rfl
                · intro a' w' hB hdep hoth K hK
                  have hK := growB hB hK
                  rw [if_pos (guard_none rfl)]
                  have hbw : Below wr.heap.size wr w' := (below_drewN (Below.refl _ _) 1).trans hB
                  obtain ⟨vx0, gx0, ex0⟩ := hdep ⟨1, .data⟩ (by simp) rfl
                  have gx0 := gx0 54 rfl (by simp)
                  obtain rfl : vx0 = .slice (some ⟨b1, o1, none⟩) R.length sc := ex0
                  obtain ⟨vx1, gx1, ex1⟩ := hdep ⟨2, .data⟩ (by simp) rfl
                  have gx1 := gx1 55 rfl (by simp)
                  obtain rfl : vx1 = .int .i64 (n : Int) := ex1
                  clear hdep hoth
                  go_simp
                  exact hK _ _ (Below.refl _ _) rfl
                · intro a' w' hB hdep hoth K hK
                  have hK := growB hB hK
                  rw [if_pos (guard_none rfl)]
                  have hbw : Below wr.heap.size wr w' := (below_drewN (Below.refl _ _) 1).trans hB
                  obtain ⟨vx0, gx0, ex0⟩ := hdep ⟨3, .data⟩ (by simp) rfl
                  have gx0 := gx0 56 rfl (by simp)
                  obtain rfl : vx0 = .pointer (some ⟨b1, o1 + n * 2, none⟩) := ex0
                  have g0 := cell_below G0.out hbw
                  have g1 := cell_below G1.out hbw
                  have hb1w : b1 < w'.heap.size := Nat.lt_of_lt_of_le hb1w hbw.size
                  clear hdep hoth
                  go_simp
                  exact hK _ _ (Below.refl _ _) rfl
                · intro a' w' hB hdep hoth K hK
                  have hK := growB hB hK
                  rw [if_pos (guard_none rfl)]
                  have hbw : Below wr.heap.size wr w' := (below_drewN (Below.refl _ _) 1).trans hB
                  obtain ⟨v0, g0, e0⟩ := hdep ⟨0, .data⟩ (by simp) rfl
                  have g0 := g0 53 rfl (by simp)
                  obtain rfl : v0 = v := e0
                  obtain ⟨v1, g1, e1⟩ := hdep ⟨4, .data⟩ (by simp) rfl
                  have g1 := g1 57 rfl (by simp)
                  obtain rfl : v1 = .agg #[.int .u8 rk, .slice ra r.L.length rc] := e1
                  have HA := hid (apply_is rk r.L 100 (HVR.out.below hbw).is ⟨_, rfl, HREC.out.below hbw⟩ HFC.out (by omega) (by have := HMC.out; omega) (by omega) (HC.out.below (HBW.out.trans (hbw.mono HBW.out.size))) (HL.out.below (HBW.out.trans (hbw.mono HBW.out.size))))
                  clear hdep hoth
                  go_simp
                  refine HA.out.mono ?_
                  rintro e w'' ⟨v, rfl, he, hb⟩
                  exact hK v _ hb (he.base hbw.size)
              case fin0 =>
                intro vs w' hB hs
                have hbw : Below wr.heap.size wr w' := (below_drewN (Below.refl _ _) 1).trans hB
                have e5 := hs 5 (by decide) (by decide)
                have e5 : BrEnd wr _ (vs 5) w' := e5
                clear hs
                refine cutQ_held (fun _ => True) (fun f => ?_)
                simp only [actOf, dstAt, if_true, List.getElem?_toArray, List.getElem?_cons_succ, List.getElem?_cons_zero, Option.bind_some, Act.put, List.setIfInBounds_toArray, List.set_cons_zero, List.set_cons_succ, List.length_cons, List.length_nil, Nat.reduceAdd]
                obtain ⟨u0, hu⟩ : ∃ u, vs 5 = u := ⟨_, rfl⟩
                rw [hu] at e5 ⊢
                obtain ⟨_, _, _, _, hz, _⟩ := HVR.out.below hbw
                unfold BB at hz
                obtain ⟨X0, hst, hvar, hbv, hbx, hXo, hXs⟩ := brEnd_store e5 hz rfl (HBr.out.trans (hbw.mono HBr.out.size)) HLE10.out
                refine wpAnyH_ready (rs := [6]) (by kernel_rfl) (by simp) ?_
                refine AllReadyH.cons rfl (fun K hK => ?_) AllReadyH.nil
                go_simp
                refine hK.out _ _ trivial (fun _ => ?_)
                clear hK K
                refine wpAnyH_done (by kernel_rfl) ?_ _
                have HVX := hid hvar
                have HBX0 := hid hbx
                clear hB hbw e5 hu hvar hbv hbx hXo hXs hst hz g0 g1
                go_wp2
                go_roundw
                case rel => exact ⟨n + 1, _, by omega, by go_num, by rw [HSN.out]; exact HVX.out, HBX0.out⟩
                case measure => simp [intOf]; omega
            · obtain rfl : n = R.length := by omega
              obtain ⟨Y10, hY10⟩ : ∃ W : World, W = wr := ⟨_, rfl⟩
              subst hY10
              rw [List.take_length] at HVR
              have HV11 := hid (HV9.out.below HBr.out)
              have HU711 := hid (HU79.out.below HBr.out)
              have HU811 := hid (HU89.out.below HBr.out)
              have HU911 := hid (HU9.out.below HBr.out)
              have hld := HV11.out.load
              go_wp2_with fail
              refine (own_is HV11.out.is (by have := HGB.out.2.2; omega) (by have := HGB.out.1; omega) (by have := HGB.out.2.1; omega)).mono ?_
              rintro e V12 ⟨u12, rfl, hend, hb⟩
              have hbz : Below V12.heap.size V12 (V12.alloc (.cells #[.int .i64 0, .int .i64 0, .bool false, .int .i64 0, .int .i64 0, .int .i64 0, .int .i64 0, .int .i64 0, .int .i64 0, .int .i64 0, .int .i64 0, .int .i64 0, .int .i64 0, .int .i64 0, .int .i64 0, .int .i64 0, .bool false, .slice none 0 0, .slice none 0 0, .slice none 0 0, .int .u8 0, .int .i64 0, .int .i64 0, .int .i64 0, .bool false, .int .i64 0, .int .i64 0] 30)) := (Below.refl _ _).alloc (Nat.le_refl _) _
              have hzz : (V12.alloc (.cells #[.int .i64 0, .int .i64 0, .bool false, .int .i64 0, .int .i64 0, .int .i64 0, .int .i64 0, .int .i64 0, .int .i64 0, .int .i64 0, .int .i64 0, .int .i64 0, .int .i64 0, .int .i64 0, .int .i64 0, .int .i64 0, .bool false, .slice none 0 0, .slice none 0 0, .slice none 0 0, .int .u8 0, .int .i64 0, .int .i64 0, .int .i64 0, .bool false, .int .i64 0, .int .i64 0] 30)).heap[V12.heap.size]? = some (.cells #[.int .i64 0, .int .i64 0, .bool false, .int .i64 0, .int .i64 0, .int .i64 0, .int .i64 0, .int .i64 0, .int .i64 0, .int .i64 0, .int .i64 0, .int .i64 0, .int .i64 0, .int .i64 0, .int .i64 0, .int .i64 0, .bool false, .slice none 0 0, .slice none 0 0, .slice none 0 0, .int .u8 0, .int .i64 0, .int .i64 0, .int .i64 0, .bool false, .int .i64 0, .int .i64 0] 30) := heap_new _ _
              obtain ⟨X12, hst, hvar, hbrv, hbx, _, _⟩ := brEnd_store (hend.below hbz) hzz rfl hbz (Nat.le_refl _)
              have hbV := HBW.out.trans (hb.mono HBW.out.size)
              have HBX12 := hid (hbV.trans (hbx.mono hbV.size))
              have hb4x := hb.trans (hbx.mono hb.size)
              have HBS12 := hid hb4x
              obtain ⟨T12, hT12⟩ : ∃ T, V12.heap.size = T := ⟨_, rfl⟩
              have hle12 : Y10.heap.size ≤ T12 := by rw [← hT12]; exact hb.size
              rw [hT12] at hvar hst hbrv
              have HU12 := hid hvar
              have HBR12 := hid hbrv
              have HLE12 := hid hle12
              clear hb hend hbz hzz hvar hbrv hbx hbV hb4x hld hle12
              have hk40 : B.K.length ≤ 40 := HGB.out.2.1
              obtain ⟨mv, iv, kv, q0, _, _, q3⟩ := HBR12.out
              obtain ⟨ya, yc, rfl, hya⟩ := own_cells q3
              have HYA := hid hya
              have HQ0 := hid q0
              clear q0 q3 hya
              go_wp2
              clear hst
              go_loopw [13] (fun i wr => ∃ k : Nat, k ≤ B.K.length ∧ i = .int .i64 k ∧ Below Y10.heap.size Y10 wr ∧ BB wr T12 (brT B.f B.g mv iv (.slice ya B.K.length yc)) ∧ KCells wr ya B.K.length) (fun i _ => B.K.length - (intOf i).toNat)
              case atStart => exact ⟨0, Nat.zero_le _, rfl, HBS12.out, HQ0.out, fun g hg h0 => by obtain ⟨g', cur, e, _, h1, h2⟩ := HYA.out h0; rw [e] at hg; cases hg; exact ⟨cur, h1, h2⟩⟩
              case round =>
                obtain ⟨n, hn, rfl, hBr, hbb, hkc⟩ := hrel
                have HB2 := hid hBr
                have HBB := hid hbb
                have HKC := hid hkc
                have x19 : wr.cell? ⟨T12, 19, none⟩ = some (.slice ya B.K.length yc) := blk_cell hbb 19
                have lt12 := blk_lt hbb
                clear hBr hbb hkc
                by_cases hlt : n < B.K.length
                · obtain ⟨g, cur0, rfl, hg, _, _⟩ := HYA.out (by omega)
                  obtain ⟨cur, h1, h2⟩ := HKC.out g rfl (by omega)
                  obtain ⟨u, hu⟩ : ∃ u, cur[n * 8]? = some u := ⟨_, Array.getElem?_eq_getElem (by omega)⟩
                  have z0 : wr.cell? ⟨g, n * 8, none⟩ = some u := (blk_cell h1 _).trans hu
                  have zf := blk_free h1 (n * 8)
                  have lg := blk_lt h1
                  have hnL : (n : Int) < (B.K.length : Int) := by omega
                  have HG := hid hg
                  have HH1 := hid h1
                  have HH2 := hid h2
                  clear h1 h2 hu hg
                  go_wp2
                  go_roundw
                  case rel => exact ⟨n + 1, by omega, by go_num, HB2.out.setCell (p := ⟨g, n * 8, none⟩) HG.out _, blk_other HBB.out (p := ⟨g, n * 8, none⟩) (fun e => by have h1 := HH1.out; have h2 := HBB.out; unfold BB at h2; dsimp only at e; rw [e, h1] at h2; cases h2) _, fun g' hg' h0 => by cases hg'; exact ⟨_, blk_set HH1.out (n * 8) _, by simp; exact HH2.out⟩⟩
                  case measure => simp [intOf]; omega
                · obtain rfl : n = B.K.length := by omega
                  have HBF := hid (HBW.out.trans (HB2.out.mono HBW.out.size))
                  have HVF := hid (HV11.out.below HB2.out)
                  have HU7F := hid (HU711.out.below HB2.out)
                  have HU8F := hid (HU811.out.below HB2.out)
                  have HU9F := hid (HU911.out.below HB2.out)
                  have HU0F := hid (HVR.out.below HB2.out)
                  go_wp2_with fail
                  clear x19
                  refine wp_region_held_drew (S := fun _ => True) (by kernel_rfl) trivial (fun _ => ?_)
                  refine wpAnyH_grownG (w0 := wr.drew) (spL [fun z _ => z = u8, fun z _ => z = u9, fun z _ => z = .bool true, fun z _ => z = .bool true, fun z _ => z = v, fun z _ => z = (.agg bv), fun z _ => z = .slice sa R.length sc, fun z w => BrEnd wr (applyAll B R) z w, fun z _ => z = .bool true, fun z _ => z = .bool true, fun z _ => z = .bool true, fun z _ => z = (.agg bv), fun z _ => z = u7, fun z _ => z = .bool true, fun z _ => z = .bool true, fun z _ => z = .bool true, fun z _ => z = .bool true, fun z _ => z = .bool true, fun z _ => z = .bool true]) (spL_stays ⟨stays_eq _, stays_eq _, stays_eq _, stays_eq _, stays_eq _, stays_eq _, stays_eq _, stays_brEnd _ _, stays_eq _, stays_eq _, stays_eq _, stays_eq _, stays_eq _, stays_eq _, stays_eq _, stays_eq _, stays_eq _, stays_eq _, stays_eq _, trivial⟩) (by kernel_rfl) (by kernel_rfl) ?steps16 ?fin16 rfl
                  case steps16 =>
                    refine ⟨?_, ?_, ?_, ?_, ?_, ?_, ?_, ?_, ?_, ?_, ?_, ?_, ?_, ?_, ?_, ?_, ?_, ?_, ?_, trivial⟩
                    · intro a' w' hB hdep hoth K hK
                      rw [if_pos (guard_none rfl)]
                      have hbw : Below wr.heap.size wr w' := (below_drewN (Below.refl _ _) 1).trans hB
                      have t8 := hoth 8 (notDst_at (by kernel_rfl))
                      simp only [List.getElem?_toArray, List.getElem?_cons_succ, List.getElem?_cons_zero] at t8
                      have hld := (HU8F.out.below hbw).load
                      clear hdep hoth
                      go_simp
                      exact hK _ _ (Below.refl _ _) rfl
                    · intro a' w' hB hdep hoth K hK
                      rw [if_pos (guard_none rfl)]
                      have hbw : Below wr.heap.size wr w' := (below_drewN (Below.refl _ _) 1).trans hB
                      have t9 := hoth 9 (notDst_at (by kernel_rfl))
                      simp only [List.getElem?_toArray, List.getElem?_cons_succ, List.getElem?_cons_zero] at t9
                      have hld := (HU9F.out.below hbw).load
                      clear hdep hoth
                      go_simp
                      exact hK _ _ (Below.refl _ _) rfl
                    · intro a' w' hB hdep hoth K hK
                      rw [if_pos (guard_none rfl)]
                      have hbw : Below wr.heap.size wr w' := (below_drewN (Below.refl _ _) 1).trans hB
                      obtain ⟨vx0, gx0, ex0⟩ := hdep ⟨0, .data⟩ (by simp) rfl
                      have gx0 := gx0 73 rfl (by simp)
                      obtain rfl : vx0 = u8 := ex0
                      obtain ⟨vx1, gx1, ex1⟩ := hdep ⟨1, .data⟩ (by simp) rfl
                      have gx1 := gx1 74 rfl (by simp)
                      obtain rfl : vx1 = u9 := ex1
                      have HA := hid (rsame_is true (sameB_of (applyAll_append B R S)) (HU8F.out.below hbw).is (HU9F.out.below hbw).is)
                      clear hdep hoth
                      go_simp
                      refine HA.out.mono ?_
                      rintro e w'' ⟨rfl, hb⟩
                      exact hK _ _ hb rfl
                    · intro a' w' hB hdep hoth K hK
                      rw [if_pos (guard_none rfl)]
                      have hbw : Below wr.heap.size wr w' := (below_drewN (Below.refl _ _) 1).trans hB
                      obtain ⟨vx0, gx0, ex0⟩ := hdep ⟨2, .data⟩ (by simp) rfl
                      have gx0 := gx0 75 rfl (by simp)
                      obtain rfl : vx0 = .bool true := ex0
                      clear hdep hoth
                      go_simp
                      exact hK _ _ (Below.refl _ _) rfl
                    · intro a' w' hB hdep hoth K hK
                      obtain ⟨vg, gg, eg⟩ := hdep ⟨3, .guard⟩ (by simp) rfl
                      have gg := gg 76 rfl (by simp)
                      obtain rfl : vg = .bool true := eg
                      rw [guard_is rfl rfl gg]
                      rw [if_pos (by decide)]
                      have hbw : Below wr.heap.size wr w' := (below_drewN (Below.refl _ _) 1).trans hB
                      have t10 := hoth 10 (notDst_at (by kernel_rfl))
                      simp only [List.getElem?_toArray, List.getElem?_cons_succ, List.getElem?_cons_zero] at t10
                      have hld := (HU0F.out.below hbw).load
                      clear hdep hoth
                      go_simp
                      exact hK _ _ (Below.refl _ _) rfl
                    · intro a' w' hB hdep hoth K hK
                      obtain ⟨vg, gg, eg⟩ := hdep ⟨3, .guard⟩ (by simp) rfl
                      have gg := gg 76 rfl (by simp)
                      obtain rfl : vg = .bool true := eg
                      rw [guard_is rfl rfl gg]
                      rw [if_pos (by decide)]
                      have hbw : Below wr.heap.size wr w' := (below_drewN (Below.refl _ _) 1).trans hB
                      have t3 := hoth 3 (notDst_at (by kernel_rfl))
                      simp only [List.getElem?_toArray, List.getElem?_cons_succ, List.getElem?_cons_zero] at t3
                      have hld := (HVF.out.below hbw).load
                      clear hdep hoth
                      go_simp
                      exact hK _ _ (Below.refl _ _) rfl
                    · intro a' w' hB hdep hoth K hK
                      obtain ⟨vg, gg, eg⟩ := hdep ⟨3, .guard⟩ (by simp) rfl
                      have gg := gg 76 rfl (by simp)
                      obtain rfl : vg = .bool true := eg
                      rw [guard_is rfl rfl gg]
                      rw [if_pos (by decide)]
                      have hbw : Below wr.heap.size wr w' := (below_drewN (Below.refl _ _) 1).trans hB
                      have t1 := hoth 1 (notDst_at (by kernel_rfl))
                      simp only [List.getElem?_toArray, List.getElem?_cons_succ, List.getElem?_cons_zero] at t1
                      clear hdep hoth
                      go_simp
                      exact hK _ _ (Below.refl _ _) rfl
                    · intro a' w' hB hdep hoth K hK
                      obtain ⟨vg, gg, eg⟩ := hdep ⟨3, .guard⟩ (by simp) rfl
                      have gg := gg 76 rfl (by simp)
                      obtain rfl : vg = .bool true := eg
                      rw [guard_is rfl rfl gg]
                      rw [if_pos (by decide)]
                      have hbw : Below wr.heap.size wr w' := (below_drewN (Below.refl _ _) 1).trans hB
                      obtain ⟨v0, q0, e0⟩ := hdep ⟨5, .data⟩ (by simp) rfl
                      have q0 := q0 78 rfl (by simp)
                      obtain rfl : v0 = .agg bv := e0
                      obtain ⟨v1, q1, e1⟩ := hdep ⟨6, .data⟩ (by simp) rfl
                      have q1 := q1 79 rfl (by simp)
                      obtain rfl : v1 = .slice sa R.length sc := e1
                      have hbq := HBF.out.trans (hbw.mono HBF.out.size)
                      have HA := hid (all_is R 40 (HVF.out.below hbw).is (HR.out.below hbq) HFI.out (by have := HSUM.out; omega) (by have := HGB.out.2.2; omega) (fun x hx => Nat.le_trans (HR40.out x hx) (by omega)) (HC.out.below hbq) (HL.out.below hbq))
                      clear hdep hoth hbq gg
                      go_simp
                      refine HA.out.mono ?_
                      rintro e w'' ⟨v, rfl, he, hb⟩
                      exact hK v _ hb (he.base hbw.size)
                    · intro a' w' hB hdep hoth K hK
                      obtain ⟨vg, gg, eg⟩ := hdep ⟨3, .guard⟩ (by simp) rfl
                      have gg := gg 76 rfl (by simp)
                      obtain rfl : vg = .bool true := eg
                      rw [guard_is rfl rfl gg]
                      rw [if_pos (by decide)]
                      have hbw : Below wr.heap.size wr w' := (below_drewN (Below.refl _ _) 1).trans hB
                      obtain ⟨v0, q0, e0⟩ := hdep ⟨4, .data⟩ (by simp) rfl
                      have q0 := q0 77 rfl (by simp)
                      obtain rfl : v0 = v := e0
                      obtain ⟨v1, q1, e1⟩ := hdep ⟨7, .data⟩ (by simp) rfl
                      have q1 := q1 80 rfl (by simp)
                      have e1 : BrEnd wr (applyAll B R) v1 w' := e1
                      have HA := hid (rsame_is true (sameB_refl (applyAll B R)) (HU0F.out.below hbw).is e1.is)
                      clear hdep hoth gg e1
                      go_simp
                      refine HA.out.mono ?_
                      rintro e w'' ⟨rfl, hb⟩
                      exact hK _ _ hb rfl
                    · intro a' w' hB hdep hoth K hK
                      rw [if_pos (guard_none rfl)]
                      have hbw : Below wr.heap.size wr w' := (below_drewN (Below.refl _ _) 1).trans hB
                      obtain ⟨vx0, gx0, ex0⟩ := hdep ⟨3, .data⟩ (by simp) rfl
                      have gx0 := gx0 76 rfl (by simp)
                      obtain rfl : vx0 = .bool true := ex0
                      obtain ⟨vx1, gx1, ex1⟩ := hdep ⟨8, .data⟩ (by simp) rfl
                      have gx1 := gx1 81 rfl (by simp)
                      obtain rfl : vx1 = .bool true := ex1
                      clear hdep hoth
                      go_simp
                      exact hK _ _ (Below.refl _ _) rfl
                    · intro a' w' hB hdep hoth K hK
                      rw [if_pos (guard_none rfl)]
                      have hbw : Below wr.heap.size wr w' := (below_drewN (Below.refl _ _) 1).trans hB
                      obtain ⟨vx0, gx0, ex0⟩ := hdep ⟨9, .data⟩ (by simp) rfl
                      have gx0 := gx0 82 rfl (by simp)
                      obtain rfl : vx0 = .bool true := ex0
                      clear hdep hoth
                      go_simp
                      exact hK _ _ (Below.refl _ _) rfl
                    · intro a' w' hB hdep hoth K hK
                      obtain ⟨vg, gg, eg⟩ := hdep ⟨10, .guard⟩ (by simp) rfl
                      have gg := gg 83 rfl (by simp)
                      obtain rfl : vg = .bool true := eg
                      rw [guard_is rfl rfl gg]
                      rw [if_pos (by decide)]
                      have hbw : Below wr.heap.size wr w' := (below_drewN (Below.refl _ _) 1).trans hB
                      have t3 := hoth 3 (notDst_at (by kernel_rfl))
                      simp only [List.getElem?_toArray, List.getElem?_cons_succ, List.getElem?_cons_zero] at t3
                      have hld := (HVF.out.below hbw).load
                      clear hdep hoth
                      go_simp
                      exact hK _ _ (Below.refl _ _) rfl
                    · intro a' w' hB hdep hoth K hK
                      obtain ⟨vg, gg, eg⟩ := hdep ⟨10, .guard⟩ (by simp) rfl
                      have gg := gg 83 rfl (by simp)
                      obtain rfl : vg = .bool true := eg
                      rw [guard_is rfl rfl gg]
                      rw [if_pos (by decide)]
                      have hbw : Below wr.heap.size wr w' := (below_drewN (Below.refl _ _) 1).trans hB
                      have t7 := hoth 7 (notDst_at (by kernel_rfl))
                      simp only [List.getElem?_toArray, List.getElem?_cons_succ, List.getElem?_cons_zero] at t7
                      have hld := (HU7F.out.below hbw).load
                      clear hdep hoth
                      go_simp
                      exact hK _ _ (Below.refl _ _) rfl
                    · intro a' w' hB hdep hoth K hK
                      obtain ⟨vg, gg, eg⟩ := hdep ⟨10, .guard⟩ (by simp) rfl
                      have gg := gg 83 rfl (by simp)
                      obtain rfl : vg = .bool true := eg
                      rw [guard_is rfl rfl gg]
                      rw [if_pos (by decide)]
                      have hbw : Below wr.heap.size wr w' := (below_drewN (Below.refl _ _) 1).trans hB
                      obtain ⟨vx0, gx0, ex0⟩ := hdep ⟨11, .data⟩ (by simp) rfl
                      have gx0 := gx0 84 rfl (by simp)
                      obtain rfl : vx0 = (.agg bv) := ex0
                      obtain ⟨vx1, gx1, ex1⟩ := hdep ⟨12, .data⟩ (by simp) rfl
                      have gx1 := gx1 85 rfl (by simp)
                      obtain rfl : vx1 = u7 := ex1
                      have HA := hid (rsame_is true (sameB_refl B) (HVF.out.below hbw).is (HU7F.out.below hbw).is)
                      clear hdep hoth
                      go_simp
                      refine HA.out.mono ?_
                      rintro e w'' ⟨rfl, hb⟩
                      exact hK _ _ hb rfl
                    · intro a' w' hB hdep hoth K hK
                      rw [if_pos (guard_none rfl)]
                      have hbw : Below wr.heap.size wr w' := (below_drewN (Below.refl _ _) 1).trans hB
                      obtain ⟨vx0, gx0, ex0⟩ := hdep ⟨10, .data⟩ (by simp) rfl
                      have gx0 := gx0 83 rfl (by simp)
                      obtain rfl : vx0 = .bool true := ex0
                      obtain ⟨vx1, gx1, ex1⟩ := hdep ⟨13, .data⟩ (by simp) rfl
                      have gx1 := gx1 86 rfl (by simp)
                      obtain rfl : vx1 = .bool true := ex1
                      clear hdep hoth
                      go_simp
                      exact hK _ _ (Below.refl _ _) rfl
                    · intro a' w' hB hdep hoth K hK
                      rw [if_pos (guard_none rfl)]
                      have hbw : Below wr.heap.size wr w' := (below_drewN (Below.refl _ _) 1).trans hB
                      obtain ⟨vx0, gx0, ex0⟩ := hdep ⟨14, .data⟩ (by simp) rfl
                      have gx0 := gx0 87 rfl (by simp)
                      obtain rfl : vx0 = .bool true := ex0
                      clear hdep hoth
                      go_simp
                      exact hK _ _ (Below.refl _ _) rfl
                    · intro a' w' hB hdep hoth K hK
                      obtain ⟨vg, gg, eg⟩ := hdep ⟨15, .guard⟩ (by simp) rfl
                      have gg := gg 88 rfl (by simp)
                      obtain rfl : vg = .bool true := eg
                      rw [guard_is rfl rfl gg]
                      rw [if_pos (by decide)]
                      have hbw : Below wr.heap.size wr w' := (below_drewN (Below.refl _ _) 1).trans hB
                      have HA := hid (wakes_any w' (HC.out.below (HBF.out.trans (hbw.mono HBF.out.size))) (HL.out.below (HBF.out.trans (hbw.mono HBF.out.size))))
                      clear hdep hoth
                      go_simp
                      refine HA.out.mono ?_
                      rintro e w'' ⟨rfl, hb⟩
                      exact hK _ _ hb rfl
                    · intro a' w' hB hdep hoth K hK
                      rw [if_pos (guard_none rfl)]
                      have hbw : Below wr.heap.size wr w' := (below_drewN (Below.refl _ _) 1).trans hB
                      obtain ⟨vx0, gx0, ex0⟩ := hdep ⟨15, .data⟩ (by simp) rfl
                      have gx0 := gx0 88 rfl (by simp)
                      obtain rfl : vx0 = .bool true := ex0
                      obtain ⟨vx1, gx1, ex1⟩ := hdep ⟨16, .data⟩ (by simp) rfl
                      have gx1 := gx1 89 rfl (by simp)
                      obtain rfl : vx1 = .bool true := ex1
                      clear hdep hoth
                      go_simp
                      exact hK _ _ (Below.refl _ _) rfl
                    · intro a' w' hB hdep hoth K hK
                      rw [if_pos (guard_none rfl)]
                      have hbw : Below wr.heap.size wr w' := (below_drewN (Below.refl _ _) 1).trans hB
                      obtain ⟨vx0, gx0, ex0⟩ := hdep ⟨17, .data⟩ (by simp) rfl
                      have gx0 := gx0 90 rfl (by simp)
                      obtain rfl : vx0 = .bool true := ex0
                      clear hdep hoth
                      go_simp
                      exact hK _ _ (Below.refl _ _) rfl
                  case fin16 =>
                    intro vs w' hB hs
                    have hbw : Below wr.heap.size wr w' := (below_drewN (Below.refl _ _) 1).trans hB
                    have e18 : vs 18 = .bool true := hs 18 (by decide)
                    clear hs
                    simp only [actOf, dstAt, if_true, List.getElem?_toArray, List.getElem?_cons_succ, List.getElem?_cons_zero, Option.bind_some, Act.put, List.setIfInBounds_toArray, List.set_cons_zero, List.set_cons_succ, List.length_cons, List.length_nil, Nat.reduceAdd]
                    rw [e18]
                    clear e18 hB
                    have HBQ := hid (HBF.out.trans (hbw.mono HBF.out.size))
                    clear hbw
                    go_wp2
                    go_ret
                    exact ⟨rfl, HBQ.out⟩
end Go.Proofs.YthnigndpibgibaaDoor
