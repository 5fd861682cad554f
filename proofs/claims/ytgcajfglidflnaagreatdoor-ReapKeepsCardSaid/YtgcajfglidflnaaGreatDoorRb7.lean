import Derived.Test.YtgcajfglidflnaaGreatDoorFti
import Derived.Test.YtgcajfglidflnaaGreatDoorRa6
import Derived.Test.YtgcajfglidflnaaGreatDoorPlk
import Derived.Test.YtgcajfglidflnaaGreatDoorEsm
import Derived.Test.YtgcajfglidflnaaGreatDoorGrr
import Derived.Test.YtgcajfglidflnaaGreatDoorRow13
/- herdref13.All: records are applied. Printed by gn_ra7.py. -/
namespace Go.Proofs.YtgcajfglidflnaaGreatDoor
open Go.RowKit Go.Shelf
attribute [-go_sem] loadVar storeVar Instr.buildSlice
attribute [local go_sem] load_other store_other

section
variable {w : World} {B : BrainV} {v r : Value}
theorem rapply_is (k : Int) (L : List Int) (n : Nat) (h : BrIs w B v) (hr : RecIs w k L r) (hF : Fine B n) (hn : n ≤ 999) (hM : B.M.length ≤ 17592186043904) (hL : L.length ≤ 100000) (hk4 : (k = 4 ∧ L.length = 3) ∨ (k = 6 ∧ L.length = 3) ∨ (k = 7 ∧ L.length = 1) ∨ (k = 8 ∧ L.length = 5)) :
  Calls Tryz.prog 29 #[v, r] w fun e w' => ∃ u, e = .returned u ∧ BrEnd w (applyB B k L) u w' ∧ Below w.heap.size w w' := by
 obtain ⟨s, rfl, hs⟩ := hr
 exact rapply_any B v s k L w h hs hL hM (by have := hF.1; omega) (by have := hF.2.1; omega) hk4 hF.2.2
end
theorem all_end {w U : World} {R : BrainV} {mv iv kv : Value} (h : BO w w.heap.size R mv iv kv U) (hz : U.heap[w.heap.size + 1]? = some (.cells #[.int .i64 0, .int .i64 0, .bool false, .int .i64 0, .int .i64 0, .int .i64 0, .int .i64 0, .int .i64 0, .int .i64 0, .int .i64 0, .int .i64 0, .int .i64 0, .int .i64 0, .int .i64 0, .int .i64 0, .int .i64 0, .bool false, .slice none 0 0, .slice none 0 0, .slice none 0 0, .int .u8 0, .int .i64 0, .int .i64 0, .int .i64 0, .bool false, .int .i64 0, .int .i64 0] 33)) :
  (loadVar 33 ⟨w.heap.size, 0, none⟩).run Tryz.prog U = .ok (.agg (brT R.f R.g mv iv kv)) U ∧ ∃ X m i k, (storeVar 33 ⟨w.heap.size + 1, 0, none⟩ (.agg (brT R.f R.g mv iv kv))).run Tryz.prog U = .ok () X ∧ BB X (w.heap.size + 1) (brT R.f R.g m i k) ∧ ApEnd w R (.returned (.agg (brT R.f R.g m i k))) X := by
 obtain ⟨X, m', i', k', hst, bb, hend, hbx, _⟩ := h.fin hz rfl (Nat.le_add_right _ _)
 exact ⟨h.load, X, m', i', k', hst, bb, _, rfl, hend, hbx⟩
set_option maxRecDepth 100000 in
set_option maxHeartbeats 8000000 in
theorem rall_is {B : BrainV} {v s : Value} (R : List RecE) (n : Nat) {w : World} (h : BrIs w B v) (hr : RecsR w R s) (hF : Fine B n) (hn : n + R.length ≤ 999) (hM : B.M.length ≤ 100000) (hL : ∀ x ∈ R, x.L.length ≤ 100000) (hk4 : ∀ x ∈ R, (x.k = 4 ∧ x.L.length = 3) ∨ (x.k = 6 ∧ x.L.length = 3) ∨ (x.k = 7 ∧ x.L.length = 1) ∨ (x.k = 8 ∧ x.L.length = 5)) :
  Calls Tryz.prog 12 #[v, s] w fun e w' => ∃ u, e = .returned u ∧ BrEnd w (applyAll B R) u w' ∧ Below w.heap.size w w' := by
 obtain ⟨sa, sc, rfl, p1, p2, p3, hop⟩ := hr.1.open
 obtain ⟨ma, mc, ia, ic, ka, kc, rfl, hm, hi, hk⟩ := h.open
 obtain ⟨bv, hbv⟩ : ∃ bv, bv = brT B.f B.g (.slice ma B.M.length mc) (.slice ia B.I.length ic) (.slice ka B.K.length kc) := ⟨_, rfl⟩
 rw [← hbv]
 obtain ⟨W1, hW1⟩ : ∃ W1, W1 = (w.alloc (.cells bv 33)).alloc (.cells #[.int .i64 0, .int .i64 0, .bool false, .int .i64 0, .int .i64 0, .int .i64 0, .int .i64 0, .int .i64 0, .int .i64 0, .int .i64 0, .int .i64 0, .int .i64 0, .int .i64 0, .int .i64 0, .int .i64 0, .int .i64 0, .bool false, .slice none 0 0, .slice none 0 0, .slice none 0 0, .int .u8 0, .int .i64 0, .int .i64 0, .int .i64 0, .bool false, .int .i64 0, .int .i64 0] 33) := ⟨_, rfl⟩
 have hb1 : Below w.heap.size w W1 := by rw [hW1]; exact ((Below.refl w.heap.size w).alloc (Nat.le_refl _) _).alloc (by simp) _
 have n1 : BB W1 w.heap.size bv := by rw [hW1]; exact blk_alloc (heap_new _ _) _
 have z1 : W1.heap[w.heap.size + 1]? = some (.cells #[.int .i64 0, .int .i64 0, .bool false, .int .i64 0, .int .i64 0, .int .i64 0, .int .i64 0, .int .i64 0, .int .i64 0, .int .i64 0, .int .i64 0, .int .i64 0, .int .i64 0, .int .i64 0, .int .i64 0, .int .i64 0, .bool false, .slice none 0 0, .slice none 0 0, .slice none 0 0, .int .u8 0, .int .i64 0, .int .i64 0, .int .i64 0, .bool false, .int .i64 0, .int .i64 0] 33) := by rw [hW1]; exact heap_new2 _ _ _
 have HV1 := hid (show VarIs W1 w.heap.size B (.agg bv) by rw [hbv] at n1 ⊢; exact ⟨_, _, _, rfl, n1, hm.below hb1, hi.below hb1, hk.below hb1⟩)
 have hsz : bv.size = 27 := by rw [hbv]; rfl
 have HSZ := hid hsz
 have HN1 := hid n1
 have HZ1 := hid z1
 have HB1 := hid hb1
 have HR := hid hr
 have HOP := hid hop
 have HFI := hid hF
 have HL := hid hL
 have HK4 := hid hk4
 clear h hm hi hk hop hb1 n1 z1 hbv hsz hr hF hL hk4
 go_enter Tryz.func12, Tryz.ntmps12
 go_upto_region 1 with (fail)
 rw [← hW1]
 clear hW1
 have hld := HV1.out.load
 go_wp2_with fail
 refine (rown13_any B _ W1 HV1.out.is (by omega) (by have := HFI.out.1; omega) (by have := HFI.out.2.1; omega)).mono ?_
 rintro e V ⟨u, rfl, hend, hb⟩
 obtain ⟨X, hst, hvar, hbvr, hbx, hXo, _⟩ := brEnd_store (W := w) hend (blk_below HN1.out hb (blk_lt HN1.out)) HSZ.out (HB1.out.trans (hb.mono HB1.out.size)) (Nat.le_refl _)
 have HZ := hid ((hXo (w.heap.size + 1) (by omega)).trans (blk_below HZ1.out hb (blk_lt HZ1.out)))
 have HVX := hid hvar
 have HBV := hid (show BrVar w X w.heap.size B by obtain ⟨_, _, _, g0, g1, g2, g3⟩ := hbvr; exact ⟨_, _, _, g0, g1, g2.mono HB1.out.size, g3.mono HB1.out.size⟩)
 have HBX := hid hbx
 clear hend hb hvar hbvr hXo hbx hld
 go_wp2
 clear hst
 go_loopw [5] (fun i wr => ∃ (k : Nat) (v : Value), k ≤ R.length ∧ i = .int .i64 k ∧ VarIs wr w.heap.size (applyAll B (R.take k)) v ∧ BrVar w wr w.heap.size (applyAll B (R.take k)) ∧ wr.heap[w.heap.size + 1]? = some (.cells #[.int .i64 0, .int .i64 0, .bool false, .int .i64 0, .int .i64 0, .int .i64 0, .int .i64 0, .int .i64 0, .int .i64 0, .int .i64 0, .int .i64 0, .int .i64 0, .int .i64 0, .int .i64 0, .int .i64 0, .int .i64 0, .bool false, .slice none 0 0, .slice none 0 0, .slice none 0 0, .int .u8 0, .int .i64 0, .int .i64 0, .int .i64 0, .bool false, .int .i64 0, .int .i64 0] 33) ∧ Below w.heap.size w wr) (fun i _ => R.length - (intOf i).toNat)
 case atStart => exact ⟨0, _, Nat.zero_le _, rfl, HVX.out, HBV.out, HZ.out, HBX.out⟩
 case round =>
  obtain ⟨n', v, hn', rfl, hvr, hbv, hz, hBr⟩ := hrel
  have HVR := hid hvr
  have HBVR := hid hbv
  have HZR := hid hz
  have HBr := hid hBr
  clear hvr hbv hz hBr
  by_cases hlt : n' < R.length
  ·obtain ⟨b1, o1, rfl, hb1, hr1⟩ := HOP.out (by omega)
   obtain ⟨r, hr⟩ := get_lt hlt
   obtain ⟨rs, hrs⟩ : ∃ x, r.s = x := ⟨_, rfl⟩
   have hrec := HR.out.2 r (mem_get hr)
   rw [hrs] at hrec
   obtain ⟨ra, rc, rfl, _⟩ := hrec.open
   obtain ⟨g0, g1⟩ := rowR (hr1.below HBr.out hb1) hr
   rw [hrs] at g1
   have hnL : (n' : Int) < (R.length : Int) := by omega
   have hb1w : b1 < wr.heap.size := Nat.lt_of_lt_of_le hb1 HBr.out.size
   have hL40 := HL.out r (mem_get hr)
   have HREC := hid (RowOf.below hrec HBr.out)
   have G0 := hid g0
   have G1 := hid g1
   have HSN := hid (show applyAll B (R.take (n' + 1)) = applyB (applyAll B (R.take n')) r.k r.L by rw [List.take_add_one, hr]; unfold applyAll; rw [List.foldl_append]; rfl)
   have hk4r := HK4.out r (mem_get hr)
   obtain ⟨rk, hrk⟩ : ∃ x, r.k = x := ⟨_, rfl⟩
   rw [hrk] at g0 G0 HSN
   obtain ⟨C, hC⟩ : ∃ C, applyAll B (R.take n') = C := ⟨_, rfl⟩
   have HFC := hid (show Fine C 999 by rw [← hC]; exact HFI.out.all (R.take n') (by have := List.length_take_le n' R; omega))
   rw [hrk] at hk4r
   have H4R := hid hk4r
   clear hk4r
   have HMC := hid (show C.M.length ≤ 100000 by rw [← hC]; exact appM (by omega) (R.take n') hM)
   rw [hC] at HVR HSN HBVR
   clear hrec hr1 hr hC
   have hlw := HVR.out.lt
   go_wp2_with fail
   refine wp_region_cut 6 1 (fun _ => True) (by kernel_rfl) (by kernel_rfl) (by kernel_rfl) ?_
   simp only [List.take_succ_cons, List.take_zero]
   refine wpAnyH_grownD (w0 := wr.drew) (spL _) (relD [] (KeptT 33) [] KeptE) (aliveD []) (ancD []) (spD (n := 6) (m := 6) (l := [fun z _ => z = v, fun z _ => z = .slice (some ⟨b1, o1, none⟩) R.length sc, fun z _ => z = (.int .i64 (n' : Int)), fun z _ => z = (.pointer (some ⟨b1, o1 + n' * 2, none⟩)), fun z _ => z = .agg #[.int .u8 rk, .slice ra r.L.length rc], fun z w => BrEnd wr (applyB C rk (r.L)) z w]) (apps := []) (stab := []) (appsE := []) (stabE := []) ⟨stays_eq _, stays_eq _, stays_eq _, stays_eq _, stays_eq _, stays_brEnd _ _, trivial⟩ trivial trivial rfl (by decide) (by decide)) (by kernel_rfl) (by kernel_rfl) (by kernel_rfl) (by kernel_rfl) ?steps0 ?fin0 rfl
   case steps0 =>
    refine ⟨?_, ?_, ?_, ?_, ?_, ?_, trivial⟩
    ·intro a' w' hB hdep hoth K hK
     have hK := growB hB hK
     rw [if_pos (guard_none rfl)]
     have hbw : Below wr.heap.size wr w' := (below_drewN (Below.refl _ _) 1).trans hB
     have t2 := hoth 2 (notDst_at (by kernel_rfl))
     simp only [List.getElem?_toArray, List.getElem?_cons_succ, List.getElem?_cons_zero] at t2
     have hld := (HVR.out.below hbw).load
     clear hdep hoth
     go_simp
     exact hK _ _ (Below.refl _ _) rfl
    ·intro a' w' hB hdep hoth K hK
     have hK := growB hB hK
     rw [if_pos (guard_none rfl)]
     have hbw : Below wr.heap.size wr w' := (below_drewN (Below.refl _ _) 1).trans hB
     have t1 := hoth 1 (notDst_at (by kernel_rfl))
     simp only [List.getElem?_toArray, List.getElem?_cons_succ, List.getElem?_cons_zero] at t1
     clear hdep hoth
     go_simp
     exact hK _ _ (Below.refl _ _) rfl
    ·intro a' w' hB hdep hoth K hK
     have hK := growB hB hK
     rw [if_pos (guard_none rfl)]
     have hbw : Below wr.heap.size wr w' := (below_drewN (Below.refl _ _) 1).trans hB
     have t5 := hoth 5 (notDst_at (by kernel_rfl))
     simp only [List.getElem?_toArray, List.getElem?_cons_succ, List.getElem?_cons_zero] at t5
     clear hdep hoth
     go_simp
     exact hK _ _ (Below.refl _ _) rfl
    ·intro a' w' hB hdep hoth K hK
     have hK := growB hB hK
     rw [if_pos (guard_none rfl)]
     have hbw : Below wr.heap.size wr w' := (below_drewN (Below.refl _ _) 1).trans hB
     obtain ⟨vx0, gx0, ex0⟩ := hdep ⟨1, .data⟩ (by simp) rfl
     have gx0 := gx0 15 rfl (by simp)
     obtain rfl : vx0 = .slice (some ⟨b1, o1, none⟩) R.length sc := ex0
     obtain ⟨vx1, gx1, ex1⟩ := hdep ⟨2, .data⟩ (by simp) rfl
     have gx1 := gx1 16 rfl (by simp)
     obtain rfl : vx1 = (.int .i64 (n' : Int)) := ex1
     clear hdep hoth
     go_simp
     exact hK _ _ (Below.refl _ _) rfl
    ·intro a' w' hB hdep hoth K hK
     have hK := growB hB hK
     rw [if_pos (guard_none rfl)]
     have hbw : Below wr.heap.size wr w' := (below_drewN (Below.refl _ _) 1).trans hB
     obtain ⟨vx0, gx0, ex0⟩ := hdep ⟨3, .data⟩ (by simp) rfl
     have gx0 := gx0 17 rfl (by simp)
     obtain rfl : vx0 = (.pointer (some ⟨b1, o1 + n' * 2, none⟩)) := ex0
     have g0 := cell_below G0.out hbw
     have g1 := cell_below G1.out hbw
     have hb1w : b1 < w'.heap.size := Nat.lt_of_lt_of_le hb1w hbw.size
     clear hdep hoth
     go_simp
     exact hK _ _ (Below.refl _ _) rfl
    ·intro a' w' hB hdep hoth K hK
     have hK := growB hB hK
     rw [if_pos (guard_none rfl)]
     have hbw : Below wr.heap.size wr w' := (below_drewN (Below.refl _ _) 1).trans hB
     obtain ⟨v0, g0, e0⟩ := hdep ⟨0, .data⟩ (by simp) rfl
     have g0 := g0 14 rfl (by simp)
     obtain rfl : v0 = v := e0
     obtain ⟨v1, g1, e1⟩ := hdep ⟨4, .data⟩ (by simp) rfl
     have g1 := g1 18 rfl (by simp)
     obtain rfl : v1 = .agg #[.int .u8 rk, .slice ra r.L.length rc] := e1
     have HA := hid (rapply_is rk r.L 999 (HVR.out.below hbw).is ⟨_, rfl, HREC.out.below hbw⟩ HFC.out (by omega) (by have := HMC.out; omega) hL40 H4R.out)
     clear hdep hoth
     go_simp
     refine HA.out.mono ?_
     rintro e w'' ⟨v, rfl, he, hb⟩
     exact hK v _ hb (he.base hbw.size)
   case fin0 =>
    intro vs w' hB hs
    have hbw : Below wr.heap.size wr w' := (below_drewN (Below.refl _ _) 1).trans hB
    have e5 := hs 5 (by decide) (by decide)
    have e5 : BrEnd wr _ (vs 5) w' := e5
    clear hs
    refine cutQ_held (fun _ => True) (fun f => ?_)
    simp only [actOf, dstAt, if_true, List.getElem?_toArray, List.getElem?_cons_succ, List.getElem?_cons_zero, Option.bind_some, Act.put, List.setIfInBounds_toArray, List.set_cons_zero, List.set_cons_succ, List.length_cons, List.length_nil, Nat.reduceAdd]
    obtain ⟨u0, hu⟩ : ∃ u, vs 5 = u := ⟨_, rfl⟩
    rw [hu] at e5 ⊢
    obtain ⟨_, _, _, _, hz, _⟩ := HVR.out.below hbw
    unfold BB at hz
    obtain ⟨X0, hst, hvar, hbv, hbx, hXo, hXs⟩ := brEnd_store e5 hz rfl (HBr.out.trans (hbw.mono HBr.out.size)) (Nat.le_refl _)
    refine wpAnyH_ready (rs := [6]) (by kernel_rfl) (by simp) ?_
    refine AllReadyH.cons rfl (fun K hK => ?_) AllReadyH.nil
    go_simp
    refine hK.out _ _ trivial (fun _ => ?_)
    clear hK K
    refine wpAnyH_done (by kernel_rfl) ?_ _
    have HVX := hid hvar
    have HBXv := hid (show BrVar w X0 w.heap.size _ by obtain ⟨_, _, _, g0, g1, g2, g3⟩ := hbv; exact ⟨_, _, _, g0, g1, g2.mono HBr.out.size, g3.mono HBr.out.size⟩)
    have HBX0 := hid hbx
    have HZX := hid ((hXo (w.heap.size + 1) (by omega)).trans (blk_below HZR.out hbw (blk_lt HZR.out)))
    clear hB hbw e5 hu hvar hbv hbx hXo hXs hst hz g0 g1
    go_wp2
    go_roundw
    case rel => exact ⟨n' + 1, _, by omega, by go_num, by rw [HSN.out]; exact HVX.out, by rw [HSN.out]; exact HBXv.out, HZX.out, HBX0.out⟩
    case measure => simp [intOf]; omega
  ·obtain rfl : n' = R.length := by omega
   rw [List.take_length] at HVR HBVR
   obtain ⟨mv, iv, kv, hbo⟩ := HBVR.out.bo (w := w) (Nat.le_refl _) (Nat.le_refl _) HBr.out
   have HO := hid hbo
   clear hbo
   obtain ⟨hld, X0, m, i, k, hkst, hkbb, hkend⟩ := all_end HO.out HZR.out
   have HBB := hid hkbb
   have HEND := hid hkend
   clear hkbb hkend
   go_wp2
   refine bodyPost_ret (results_cell_row rfl _ _ (w.heap.size + 1) 33 _ _ _ rfl HBB.out brain_under rfl (brain_size (brT_bc _ _ _ _ _))) rfl ?_
   exact HEND.out
end Go.Proofs.YtgcajfglidflnaaGreatDoor

/- What BrainTells calls, of brains in hand: brain.Same, Find, Token. -/
namespace Go.Proofs.YtgcajfglidflnaaGreatDoor
open Go.RowKit Go.Shelf

theorem arr_app (cs ds : Array Value) : (cs.toList ++ (ds.toList ++ [])).toArray = cs ++ ds := by simp
/-- Two brains, as a row. -/
theorem BrsR.two {w : World} {B C : BrainV} {u v : Value} {cs ds : Array Value} (h : BrIs w B u) (h' : BrIs w C v) (hu : u = .agg cs) (hv : v = .agg ds) :
  ∃ x y : BrR, x.B = B ∧ y.B = C ∧ BrsR (w.alloc (.cells (cs ++ ds) 33)) [x, y] (.slice (some ⟨w.heap.size, 0, none⟩) 2 2) := by
 obtain ⟨mv, iv, kv, e, h1, h2, h3⟩ := h
 obtain ⟨mv', iv', kv', e', g1, g2, g3⟩ := h'
 rw [hu] at e
 cases e
 rw [hv] at e'
 cases e'
 have hb : Below w.heap.size w (w.alloc (.cells (brT B.f B.g mv iv kv ++ brT C.f C.g mv' iv' kv') 33)) := (Below.refl _ _).alloc (Nat.le_refl _) _
 have hcells : (([(⟨B, mv, iv, kv⟩ : BrR), ⟨C, mv', iv', kv'⟩].flatMap encB).toArray) = brT B.f B.g mv iv kv ++ brT C.f C.g mv' iv' kv' := by
  simp only [List.flatMap_cons, List.flatMap_nil, encB]
  exact arr_app _ _
 refine ⟨⟨B, mv, iv, kv⟩, ⟨C, mv', iv', kv'⟩, rfl, rfl, row_blk (l := [(⟨B, mv, iv, kv⟩ : BrR), ⟨C, mv', iv', kv'⟩]) encB_len (by rw [hcells]; exact heap_new w _) (by simp) (show 2 ≤ maxLen by decide), ?_⟩
 intro x hx
 simp only [List.mem_cons, List.not_mem_nil, or_false] at hx
 rcases hx with rfl | rfl
 ·exact ⟨h1.below hb, h2.below hb, h3.below hb⟩
 ·exact ⟨g1.below hb, g2.below hb, g3.below hb⟩
end Go.Proofs.YtgcajfglidflnaaGreatDoor
