/- herdref13.instances: the records of instances. Printed by gn_ra4.py. -/
import Derived.Test.YtgcajfglidflnaaGreatDoorRbm
import Derived.StillTailTactics
namespace Go.Proofs.YtgcajfglidflnaaGreatDoor
open Go.RowKit Go.Shelf
attribute [-go_sem] loadVar storeVar Instr.buildSlice sliced run_sliceAt_slice
attribute [local go_sem] load_other store_other

/-- What a function that writes in place ends with: brains in variables stay. -/
def RefEnd2 (base : World) (W : World) (R : BrainV) (e : Ending) (W' : World) : Prop := ∃ u, e = .returned u ∧ BrEnd base R u W' ∧ Below base.heap.size base W' ∧ KeptT 33 W W'
theorem RefEnd.two {base W : World} {R : BrainV} {e : Ending} {W' : World} (h : RefEnd base W R e W') (hb : Below base.heap.size base W) : RefEnd2 base W R e W' := by
 obtain ⟨u, h1, h2, h3⟩ := h
 exact ⟨u, h1, h2, hb.trans (h3.mono hb.size), KeptT.below h3⟩
theorem rlegal_b (p t : Int) (q : Bool) (hq : legalB p t = q) (ht : t < 11) (w : World) : Calls Tryz.prog 65 #[.int .u8 p, .int .u8 t] w fun e w' => e = .returned (.bool q) ∧ Below w.heap.size w w' :=
 (rlegal_any p t q hq ht w).mono fun e w' ⟨h1, h2⟩ => ⟨h1, by subst h2; exact Below.refl _ _⟩
section
variable {base : World} {b : Nat} {B : BrainV} {mv iv kv : Value} {W : World}
theorem BO.kfield {g n c : Nat} (h : BO base b B mv iv (.slice (some ⟨g, 0, none⟩) n c) W) {i : Nat} {x : KeptV} (hx : B.K[i]? = some x) : ∃ cur, W.heap[g]? = some (.cells cur 51) ∧ RowAt 8 encKp W g 0 B.K ∧ g < W.heap.size := by
 obtain ⟨cur, h1, _⟩ := Owns.blk h.rk
 refine ⟨cur, h1, ?_, blk_lt h1⟩
 rcases Owns.row h.rk encKp_len (by decide) with ⟨_, _, _, hl, _⟩ | ⟨_, b1, off, c', e, _, _, _, hrow⟩
 ·rw [hl] at hx; simp at hx
 ·simp only [Value.slice.injEq, Option.some.injEq, Addr.mk.injEq, and_true] at e
  obtain ⟨⟨rfl, rfl⟩, _, _⟩ := e
  exact hrow
theorem ref_end2 {mv iv kv : Value} {R : BrainV} {U : World} (h : BO base W.heap.size R mv iv kv U) (hz : U.heap[W.heap.size + 1]? = some (.cells #[.int .i64 0, .int .i64 0, .bool false, .int .i64 0, .int .i64 0, .int .i64 0, .int .i64 0, .int .i64 0, .int .i64 0, .int .i64 0, .int .i64 0, .int .i64 0, .int .i64 0, .int .i64 0, .int .i64 0, .int .i64 0, .bool false, .slice none 0 0, .slice none 0 0, .slice none 0 0, .int .u8 0, .int .i64 0, .int .i64 0, .int .i64 0, .bool false, .int .i64 0, .int .i64 0] 33)) (hk : KeptT 33 W U) (hbW : Below base.heap.size base W) :
  (loadVar 33 ⟨W.heap.size, 0, none⟩).run Tryz.prog U = .ok (.agg (brT R.f R.g mv iv kv)) U ∧ ∃ X m i k, (storeVar 33 ⟨W.heap.size + 1, 0, none⟩ (.agg (brT R.f R.g mv iv kv))).run Tryz.prog U = .ok () X ∧ BB X (W.heap.size + 1) (brT R.f R.g m i k) ∧ RefEnd2 base W R (.returned (.agg (brT R.f R.g m i k))) X := by
 obtain ⟨X, hst, hvar, hbv, hbx, hXo, _⟩ := brEnd_store h.end hz rfl h.bel (Nat.le_trans hbW.size (by omega))
 have he := hbv.end hvar
 obtain ⟨m, i, k, e, bb, _⟩ := hvar
 rw [e] at he
 exact ⟨h.load, X, m, i, k, hst, bb, _, rfl, he, hbx, fun b c hb => (hXo b (by have := blk_lt hb; omega)).trans (hk b c hb)⟩
set_option maxRecDepth 100000 in
set_option maxHeartbeats 8000000 in
theorem rgone_any {v : Value} (s : Value) (L : List Int) (hs : RowOf 1 encI base s L) (hL : L.length = 1) (h : BrEnd base B v W) (hbW : Below base.heap.size base W) (hlK : B.K.length ≤ 1000) :
  Calls Tryz.prog 52 #[v, .int .u8 7, s] W (RefEnd base W (keptB B (fun i _ => goneAt B i) (L.getD 0 0))) := by
 obtain ⟨k0, hk0, hk1, hk2, hk3⟩ := info_parts infoKp
 have HI0 := hid hk0
 have HI1 := hid hk1
 have HI2 := hid hk2
 have HI3 := hid hk3
 clear hk0 hk1 hk2 hk3
 obtain ⟨mv, iv, kv, W1, rfl, hW1, ho, hz, hb1⟩ := ref_begin h hbW
 obtain ⟨sa, sc, rfl, hs1, hs2, hs3, hop⟩ := hs.open
 obtain ⟨b1, o1, rfl, hb1x, hr1⟩ := hop (by omega)
 have hLI : (L.length : Int) = 1 := by omega
 have hbb1 := hbW.trans (hb1.mono hbW.size)
 have lb1 : b1 < W1.heap.size := Nat.lt_of_lt_of_le hb1x hbb1.size
 have lb0 : b1 < W.heap.size := Nat.lt_of_lt_of_le hb1x hbW.size
 obtain ⟨x0, hx0⟩ := get_lt (l := L) (k := 0) (by omega)
 have r0 := rowN1 (hr1.below hbb1 hb1x) hx0
 have e0 : L.getD 0 0 = x0 := by rw [List.getD_eq_getElem?_getD, hx0]; rfl
 simp only [Nat.add_zero] at r0
 obtain ⟨RR, hRR⟩ : ∃ RR, keptB B (fun i _ => goneAt B i) (L.getD 0 0) = RR := ⟨_, rfl⟩
 rw [hRR]
 unfold keptB at hRR
 rw [e0] at hRR
 obtain ⟨zi, hzK⟩ : ∃ zi, idxL B.K (fun x => x.id == x0) = zi := ⟨_, rfl⟩
 rw [hzK] at hRR
 have HRR := hid hRR
 have HZK := hid hzK
 have HO1 := hid ho
 have HZ1 := hid hz
 have HB1 := hid hb1
 have HBW := hid hbW
 have HVAR := hid ho.var
 have LB := hid lb1
 have LBB := hid hb1x
 have R0 := hid r0
 have hbn := bs_kpN
 have HL3 := hid hL
 clear hL hs hop hr1 hb1x hbb1 hx0 e0 r0 hRR hzK ho hz hb1 h hbW lb1
 go_enter Tryz.func52, Tryz.ntmps52
 go_upto_region 1 with (fail)
 rw [← hW1]
 clear hW1
 refine wp_region_held_drew (S := fun _ => True) (by kernel_rfl) trivial (fun _ => ?_)
 refine wpAnyH_grownG (w0 := W1.drew) (spL [fun z _ => z = (.agg (brT B.f B.g mv iv kv)), fun z _ => z = .slice (some ⟨b1, o1, none⟩) L.length sc, fun z _ => z = .pointer (some ⟨b1, o1, none⟩), fun z _ => z = .int .i64 x0, fun z _ => z = .int .i64 zi, fun z _ => z = .int .i64 zi]) (spL_stays ⟨stays_eq _, stays_eq _, stays_eq _, stays_eq _, stays_eq _, stays_eq _, trivial⟩) (by kernel_rfl) (by kernel_rfl) ?steps1 ?fin1 rfl
 case steps1 =>
  refine ⟨?_, ?_, ?_, ?_, ?_, ?_, trivial⟩
  ·intro a' w' hB hdep hoth K hK
   rw [if_pos (guard_none rfl)]
   have hbw : Below W1.heap.size W1 w' := (below_drewN (Below.refl _ _) 1).trans hB
   have t3 := hoth 3 (notDst_at (by kernel_rfl))
   simp only [List.getElem?_toArray, List.getElem?_cons_succ, List.getElem?_cons_zero] at t3
   have hld := (HVAR.out.below hbw).load
   clear hdep hoth
   go_simp
   exact hK _ _ (Below.refl _ _) rfl
  ·intro a' w' hB hdep hoth K hK
   rw [if_pos (guard_none rfl)]
   have hbw : Below W1.heap.size W1 w' := (below_drewN (Below.refl _ _) 1).trans hB
   have t2 := hoth 2 (notDst_at (by kernel_rfl))
   simp only [List.getElem?_toArray, List.getElem?_cons_succ, List.getElem?_cons_zero] at t2
   clear hdep hoth
   go_simp
   exact hK _ _ (Below.refl _ _) rfl
  ·intro a' w' hB hdep hoth K hK
   rw [if_pos (guard_none rfl)]
   have hbw : Below W1.heap.size W1 w' := (below_drewN (Below.refl _ _) 1).trans hB
   obtain ⟨vx0, gx0, ex0⟩ := hdep ⟨1, .data⟩ (by simp) rfl
   have gx0 := gx0 9 rfl (by simp)
   obtain rfl : vx0 = .slice (some ⟨b1, o1, none⟩) L.length sc := ex0
   clear hdep hoth
   go_simp
   exact hK _ _ (Below.refl _ _) rfl
  ·intro a' w' hB hdep hoth K hK
   rw [if_pos (guard_none rfl)]
   have hbw : Below W1.heap.size W1 w' := (below_drewN (Below.refl _ _) 1).trans hB
   obtain ⟨vx0, gx0, ex0⟩ := hdep ⟨2, .data⟩ (by simp) rfl
   have gx0 := gx0 10 rfl (by simp)
   obtain rfl : vx0 = .pointer (some ⟨b1, o1, none⟩) := ex0
   have r0 := cell_below R0.out hbw
   have lb1 : b1 < w'.heap.size := Nat.lt_of_lt_of_le LB.out hbw.size
   clear hdep hoth
   go_simp
   exact hK _ _ (Below.refl _ _) rfl
  ·intro a' w' hB hdep hoth K hK
   rw [if_pos (guard_none rfl)]
   have hbw : Below W1.heap.size W1 w' := (below_drewN (Below.refl _ _) 1).trans hB
   obtain ⟨vx0, gx0, ex0⟩ := hdep ⟨0, .data⟩ (by simp) rfl
   have gx0 := gx0 8 rfl (by simp)
   obtain rfl : vx0 = (.agg (brT B.f B.g mv iv kv)) := ex0
   obtain ⟨vx1, gx1, ex1⟩ := hdep ⟨3, .data⟩ (by simp) rfl
   have gx1 := gx1 11 rfl (by simp)
   obtain rfl : vx1 = .int .i64 x0 := ex1
   have HA := hid (rfind13_at B _ x0 zi HZK.out _ (HVAR.out.below hbw).is)
   clear hdep hoth
   go_simp
   refine HA.out.mono ?_
   rintro e w'' ⟨rfl, hb⟩
   exact hK _ _ hb rfl
  ·intro a' w' hB hdep hoth K hK
   rw [if_pos (guard_none rfl)]
   have hbw : Below W1.heap.size W1 w' := (below_drewN (Below.refl _ _) 1).trans hB
   obtain ⟨vx0, gx0, ex0⟩ := hdep ⟨4, .data⟩ (by simp) rfl
   have gx0 := gx0 12 rfl (by simp)
   obtain rfl : vx0 = .int .i64 zi := ex0
   clear hdep hoth
   go_simp
   exact hK _ _ (Below.refl _ _) rfl
 case fin1 =>
  intro vs V1 hB hs
  have hbw : Below W1.heap.size W1 V1 := (below_drewN (Below.refl _ _) 1).trans hB
  have ev5 : vs 5 = .int .i64 zi := hs 5 (by decide)
  clear hs
  simp only [actOf, dstAt, if_true, List.getElem?_toArray, List.getElem?_cons_succ, List.getElem?_cons_zero, Option.bind_some, Act.put, List.setIfInBounds_toArray, List.set_cons_zero, List.set_cons_succ, List.length_cons, List.length_nil, Nat.reduceAdd]
  rw [ev5]
  clear hB ev5
  have HO2 := hid (HO1.out.below hbw)
  have HZ2 := hid (blk_below HZ1.out hbw (blk_lt HZ1.out))
  have HB2 := hid (HB1.out.trans (hbw.mono HB1.out.size))
  have LB2 := hid (Nat.lt_of_lt_of_le LB.out hbw.size)
  have S0 := hid (cell_below R0.out hbw)
  clear hbw
  clear LB HVAR R0
  rcases idxL_cases B.K (fun x => x.id == x0) with ⟨h1, _⟩ | ⟨i, x, h1, hx, _⟩
  ·obtain rfl : zi = -1 := by rw [← HZK.out]; exact h1
   clear h1
   obtain rfl : B = RR := by rw [← HRR.out, if_pos (by omega)]
   go_upto_region 19 with (fail)
   obtain ⟨hld, X, m', i', k', hst, bb, hend⟩ := ref_end (HO2.out) (HZ2.out) (HB2.out) HBW.out
   have HBB := hid bb
   have HEND := hid hend
   clear bb hend
   go_wp2
   refine bodyPost_ret (results_cell_row rfl _ _ (W.heap.size + 1) 33 _ _ _ rfl HBB.out brain_under rfl (brain_size (brT_bc _ _ _ _ _))) rfl ?_
   exact HEND.out
  ·obtain rfl : zi = (i : Int) := by rw [← HZK.out]; exact h1
   have hil : i < B.K.length := lt_get hx
   have HX := hid hx
   clear h1 hx
   have HRX := hid (show RR = goneAt B i by rw [← HRR.out, if_neg (by omega)]; simp only [Int.toNat_natCast]; rw [HX.out])
   obtain ⟨ka, kc, rfl, hrow⟩ := HO2.out.kv_shape
   obtain ⟨_, _, ee, p1, p2, p3, _⟩ := hrow.open
   simp only [Value.slice.injEq, true_and] at ee
   obtain ⟨rfl, rfl⟩ := ee
   have HRK := hid hrow
   clear hrow
   have d0 : decide ((i : Int) < 0) = false := decide_eq_false (by omega)
   go_wp2_with fail
   refine wp_region_cut 12 2 (fun _ => True) (by kernel_rfl) (by kernel_rfl) (by kernel_rfl) ?_
   simp only [List.take_succ_cons, List.take_zero]
   refine wpAnyH_grownD (w0 := V1.drew) (spL _) (relD [5, 11] (KeptT 33) [] KeptE) (aliveD [(5, 0), (11, 5)]) (ancD [(5, 11)]) (spD (n := 12) (m := 12) (l := [NewRow 51 V1.heap.size, fun z _ => z = .pointer (some ⟨W.heap.size, 19, none⟩), fun z _ => z = .slice ka B.K.length kc, fun z _ => z = .int .i64 (i : Int), fun z _ => z = sliced ka 0 i kc 8, fun v w => OwnK w V1.heap.size v ([] ++ B.K.take i), fun z _ => z = .pointer (some ⟨W.heap.size, 19, none⟩), fun z _ => z = .slice ka B.K.length kc, fun z _ => z = .int .i64 (i : Int), fun z _ => z = .int .i64 ((i + 1 : Nat) : Int), fun z _ => z = sliced ka (i + 1) B.K.length kc 8, fun v w => OwnK w V1.heap.size v ([] ++ B.K.take i ++ B.K.drop (i + 1))]) (apps := [5, 11]) (stab := [1, 2, 3, 4, 6, 7, 8, 9, 10]) (appsE := []) (stabE := []) ⟨stays_newRow _ _, stays_eq _, stays_eq _, stays_eq _, stays_eq _, stays_owns 8 _ encKp _ _, stays_eq _, stays_eq _, stays_eq _, stays_eq _, stays_eq _, stays_owns 8 _ encKp _ _, trivial⟩ ⟨stw_eq _ _, stw_eq _ _, stw_eq _ _, stw_eq _ _, stw_eq _ _, stw_eq _ _, stw_eq _ _, stw_eq _ _, stw_eq _ _, trivial⟩ trivial rfl (by decide) (by decide)) (by kernel_rfl) (by kernel_rfl) (by kernel_rfl) (by kernel_rfl) ?steps12 ?fin12 rfl
   case steps12 =>
    refine ⟨?_, ?_, ?_, ?_, ?_, ?_, ?_, ?_, ?_, ?_, ?_, ?_, trivial⟩
    ·intro a' w' hB hdep hoth K hK
     have hK := growB hB hK
     rw [if_pos (guard_none rfl)]
     have hbw : Below V1.heap.size V1 w' := (below_drewN (Below.refl _ _) 1).trans hB
     clear hdep hoth
     go_simp
     exact hK _ _ ((Below.refl _ _).alloc (Nat.le_refl _) _) ⟨_, rfl, hbw.size, heap_new _ _⟩
    ·intro a' w' hB hdep hoth K hK
     have hK := growB hB hK
     rw [if_pos (guard_none rfl)]
     have hbw : Below V1.heap.size V1 w' := (below_drewN (Below.refl _ _) 1).trans hB
     have t3 := hoth 3 (notDst_at (by kernel_rfl))
     simp only [List.getElem?_toArray, List.getElem?_cons_succ, List.getElem?_cons_zero] at t3
     clear hdep hoth
     go_simp
     exact hK _ _ (Below.refl _ _) rfl
    ·intro a' w' hB hdep hoth K hK
     have hK := growB hB hK
     rw [if_pos (guard_none rfl)]
     have hbw : Below V1.heap.size V1 w' := (below_drewN (Below.refl _ _) 1).trans hB
     obtain ⟨vx0, gx0, ex0⟩ := hdep ⟨1, .data⟩ (by simp) rfl
     have gx0 := gx0 91 rfl (by simp)
     obtain rfl : vx0 = .pointer (some ⟨W.heap.size, 19, none⟩) := ex0
     have cc : w'.cell? ⟨W.heap.size, 19, none⟩ = some (.slice ka B.K.length kc) := (HO2.out.below hbw).cell 19 _ rfl
     have lb := (HO2.out.below hbw).lt
     clear hdep hoth
     go_simp
     exact hK _ _ (Below.refl _ _) rfl
    ·intro a' w' hB hdep hoth K hK
     have hK := growB hB hK
     rw [if_pos (guard_none rfl)]
     have hbw : Below V1.heap.size V1 w' := (below_drewN (Below.refl _ _) 1).trans hB
     have t7 := hoth 7 (notDst_at (by kernel_rfl))
     simp only [List.getElem?_toArray, List.getElem?_cons_succ, List.getElem?_cons_zero] at t7
     clear hdep hoth
     go_simp
     exact hK _ _ (Below.refl _ _) rfl
    ·intro a' w' hB hdep hoth K hK
     have hK := growB hB hK
     rw [if_pos (guard_none rfl)]
     have hbw : Below V1.heap.size V1 w' := (below_drewN (Below.refl _ _) 1).trans hB
     obtain ⟨vx0, gx0, ex0⟩ := hdep ⟨2, .data⟩ (by simp) rfl
     have gx0 := gx0 92 rfl (by simp)
     obtain rfl : vx0 = .slice ka B.K.length kc := ex0
     obtain ⟨vx1, gx1, ex1⟩ := hdep ⟨3, .data⟩ (by simp) rfl
     have gx1 := gx1 93 rfl (by simp)
     obtain rfl : vx1 = .int .i64 (i : Int) := ex1
     have hsl := upto_kp (ka) B.K.length kc i (by omega)
     clear hdep hoth
     go_simp
     exact hK _ _ (Below.refl _ _) rfl
    ·intro a' w' hB hdep hoth K hK
     have hbw : Below V1.heap.size V1 w' := (below_drewN (Below.refl _ _) 1).trans hB
     obtain ⟨vO, gO, eO⟩ := hdep ⟨0, .data⟩ (by simp) rfl
     have gO := gO 90 rfl (by simp)
     obtain ⟨vx, gx, ex⟩ := hdep ⟨4, .data⟩ (by simp) rfl
     have gx := gx 94 rfl (by simp)
     obtain rfl : vx = sliced ka 0 i kc 8 := ex
     obtain ⟨g, rfl, hg1, hg0⟩ := eO
     have eO : OwnK w' V1.heap.size (.slice (some ⟨g, 0, none⟩) 0 0) [] := newRow_owns hg1 hg0
     refine step_append_row rfl _ _ 29 rfl V1.heap.size 51 k0 _ 56 Tryz.underlying29 HI0.out HI1.out HI2.out HI3.out rfl (by decide) encKp_len _ ([]) (by simp [Act.eval, gO]) eO (sliced ka 0 i kc 8) (B.K.take i) (by simp [Act.eval, gx]) (one_of encKp_one _) (row_upto (HRK.out.below hbw) (by omega)) (by unfold maxLen; simp; omega) (by simp; omega) hbw.size ?_
     intro v' w'' hown hbb hgr
     exact hK v' w'' (hB.trans hbb) (KeptT.grown hgr (fun r e => Owns.typed eO r e) (by decide)) hown
    ·intro a' w' hB hdep hoth K hK
     have hK := growB hB hK
     rw [if_pos (guard_none rfl)]
     have hbw : Below V1.heap.size V1 w' := (below_drewN (Below.refl _ _) 1).trans hB
     have t3 := hoth 3 (notDst_at (by kernel_rfl))
     simp only [List.getElem?_toArray, List.getElem?_cons_succ, List.getElem?_cons_zero] at t3
     clear hdep hoth
     go_simp
     exact hK _ _ (Below.refl _ _) rfl
    ·intro a' w' hB hdep hoth K hK
     have hK := growB hB hK
     rw [if_pos (guard_none rfl)]
     have hbw : Below V1.heap.size V1 w' := (below_drewN (Below.refl _ _) 1).trans hB
     obtain ⟨vx0, gx0, ex0⟩ := hdep ⟨6, .data⟩ (by simp) rfl
     have gx0 := gx0 96 rfl (by simp)
     obtain rfl : vx0 = .pointer (some ⟨W.heap.size, 19, none⟩) := ex0
     have cc : w'.cell? ⟨W.heap.size, 19, none⟩ = some (.slice ka B.K.length kc) := (HO2.out.below hbw).cell 19 _ rfl
     have lb := (HO2.out.below hbw).lt
     clear hdep hoth
     go_simp
     exact hK _ _ (Below.refl _ _) rfl
    ·intro a' w' hB hdep hoth K hK
     have hK := growB hB hK
     rw [if_pos (guard_none rfl)]
     have hbw : Below V1.heap.size V1 w' := (below_drewN (Below.refl _ _) 1).trans hB
     have t7 := hoth 7 (notDst_at (by kernel_rfl))
     simp only [List.getElem?_toArray, List.getElem?_cons_succ, List.getElem?_cons_zero] at t7
     clear hdep hoth
     go_simp
     exact hK _ _ (Below.refl _ _) rfl
    ·intro a' w' hB hdep hoth K hK
     have hK := growB hB hK
     rw [if_pos (guard_none rfl)]
     have hbw : Below V1.heap.size V1 w' := (below_drewN (Below.refl _ _) 1).trans hB
     obtain ⟨vx0, gx0, ex0⟩ := hdep ⟨8, .data⟩ (by simp) rfl
     have gx0 := gx0 98 rfl (by simp)
     obtain rfl : vx0 = .int .i64 (i : Int) := ex0
     have hsum : IntKind.i64.wrap ((i : Int) + 1) = ((i + 1 : Nat) : Int) := by rw [IntKind.wrap_i64]; omega
     clear hdep hoth
     go_simp
     exact hK _ _ (Below.refl _ _) rfl
    ·intro a' w' hB hdep hoth K hK
     have hK := growB hB hK
     rw [if_pos (guard_none rfl)]
     have hbw : Below V1.heap.size V1 w' := (below_drewN (Below.refl _ _) 1).trans hB
     obtain ⟨vx0, gx0, ex0⟩ := hdep ⟨7, .data⟩ (by simp) rfl
     have gx0 := gx0 97 rfl (by simp)
     obtain rfl : vx0 = .slice ka B.K.length kc := ex0
     obtain ⟨vx1, gx1, ex1⟩ := hdep ⟨9, .data⟩ (by simp) rfl
     have gx1 := gx1 99 rfl (by simp)
     obtain rfl : vx1 = .int .i64 ((i + 1 : Nat) : Int) := ex1
     have hsl := from_kp (ka) B.K.length kc (i + 1) (by omega)
     simp only [show ((i + 1 : Nat) : Int) = (i : Int) + 1 from by omega] at hsl
     clear hdep hoth
     go_simp
     exact hK _ _ (Below.refl _ _) rfl
    ·intro a' w' hB hdep hoth K hK
     have hbw : Below V1.heap.size V1 w' := (below_drewN (Below.refl _ _) 1).trans hB
     obtain ⟨vO, gO, eO⟩ := hdep ⟨5, .data⟩ (by simp) rfl
     have gO := gO 95 rfl (by simp)
     obtain ⟨vx, gx, ex⟩ := hdep ⟨10, .data⟩ (by simp) rfl
     have gx := gx 100 rfl (by simp)
     obtain rfl : vx = sliced ka (i + 1) B.K.length kc 8 := ex
     have eO : OwnK w' V1.heap.size vO ([] ++ B.K.take i) := eO
     refine step_append_row rfl _ _ 29 rfl V1.heap.size 51 k0 _ 56 Tryz.underlying29 HI0.out HI1.out HI2.out HI3.out rfl (by decide) encKp_len _ ([] ++ B.K.take i) (by simp [Act.eval, gO]) eO (sliced ka (i + 1) B.K.length kc 8) (B.K.drop (i + 1)) (by simp [Act.eval, gx]) (one_of encKp_one _) (row_from (HRK.out.below hbw) (by omega)) (by unfold maxLen; simp; omega) (by simp; omega) hbw.size ?_
     intro v' w'' hown hbb hgr
     exact hK v' w'' (hB.trans hbb) (KeptT.grown hgr (fun r e => Owns.typed eO r e) (by decide)) hown
   case fin12 =>
    intro vs w' hB hs
    have hbw : Below V1.heap.size V1 w' := (below_drewN (Below.refl _ _) 1).trans hB
    have e11 := hs 11 (by decide) (by decide)
    have e11 : OwnK w' V1.heap.size (vs 11) ([] ++ B.K.take i ++ B.K.drop (i + 1)) := e11
    clear hs
    refine cutQ_held (fun _ => True) (fun f => ?_)
    simp only [actOf, dstAt, if_true, List.getElem?_toArray, List.getElem?_cons_succ, List.getElem?_cons_zero, Option.bind_some, Act.put, List.setIfInBounds_toArray, List.set_cons_zero, List.set_cons_succ, List.length_cons, List.length_nil, Nat.reduceAdd]
    obtain ⟨u, hu⟩ : ∃ u, vs 11 = u := ⟨_, rfl⟩
    rw [hu] at e11
    rw [hu]
    obtain ⟨ua, un, uc, rfl⟩ := e11.shape
    have HOW := hid (HO2.out.below hbw)
    have c19 : w'.cell? ⟨W.heap.size, 19, none⟩ = some (.slice ka B.K.length kc) := HOW.out.cell 19 _ rfl
    have cf := HOW.out.free 19
    have lb := HOW.out.lt
    have HU := hid (BO.setKept HOW.out (W' := w') ⟨rfl, rfl, rfl, Nat.le_refl _, fun _ _ _ => rfl⟩ (e11.mono HO2.out.bel.size))
    rw [erase_td, show ({ B with K := B.K.eraseIdx i } : BrainV) = RR from HRX.out.symm] at HU
    have HBU := hid ((HB2.out.trans (hbw.mono HB2.out.size)).setCell (p := ⟨W.heap.size, 19, none⟩) (Nat.le_refl _) (.slice ua un uc))
    have HZU := hid (blk_other (blk_below HZ2.out hbw (blk_lt HZ2.out)) (p := ⟨W.heap.size, 19, none⟩) (by simp) (.slice ua un uc))
    clear hB hbw e11 hu
    refine wpAnyH_take (i := 12) (v := ?_) rfl (by kernel_rfl) (by kernel_rfl) (by kernel_rfl) (fun _ _ _ h => h) (Or.inl ⟨by rfl, ?_⟩) trivial ?_
    rotate_left
    ·(intro w hSw; (try dsimp only at hSw); go_simp; try with_reducible rfl)
    try simp only [Act.put, List.setIfInBounds_toArray]
    refine wpAnyH_ready (rs := [13]) (by kernel_rfl) (by simp) ?_
    refine AllReadyH.cons rfl (fun K hK => ?_) AllReadyH.nil
    go_simp
    refine hK.out _ _ trivial (fun _ => ?_)
    clear hK K
    refine wpAnyH_done (by kernel_rfl) ?_ _
    go_upto_region 19 with (fail)
    obtain ⟨hld, X, m', i', k', hst, bb, hend⟩ := ref_end (HU.out) (HZU.out) (HBU.out) HBW.out
    have HBB := hid bb
    have HEND := hid hend
    clear bb hend c19 cf lb
    go_wp2
    refine bodyPost_ret (results_cell_row rfl _ _ (W.heap.size + 1) 33 _ _ _ rfl HBB.out brain_under rfl (brain_size (brT_bc _ _ _ _ _))) rfl ?_
    exact HEND.out
set_option maxRecDepth 100000 in
set_option maxHeartbeats 8000000 in
theorem rtake_any {v : Value} (s : Value) (L : List Int) (hs : RowOf 1 encI base s L) (hL : L.length = 5) (h : BrEnd base B v W) (hbW : Below base.heap.size base W) (hlK : B.K.length ≤ 1000) :
  Calls Tryz.prog 52 #[v, .int .u8 8, s] W (RefEnd base W (takeB B L)) := by
 obtain ⟨k0, hk0, hk1, hk2, hk3⟩ := info_parts infoKp
 have HI0 := hid hk0
 have HI1 := hid hk1
 have HI2 := hid hk2
 have HI3 := hid hk3
 clear hk0 hk1 hk2 hk3
 obtain ⟨mv, iv, kv, W1, rfl, hW1, ho, hz, hb1⟩ := ref_begin h hbW
 obtain ⟨sa, sc, rfl, hs1, hs2, hs3, hop⟩ := hs.open
 obtain ⟨b1, o1, rfl, hb1x, hr1⟩ := hop (by omega)
 have hLI : (L.length : Int) = 5 := by omega
 have hbb1 := hbW.trans (hb1.mono hbW.size)
 have lb1 : b1 < W1.heap.size := Nat.lt_of_lt_of_le hb1x hbb1.size
 have lb0 : b1 < W.heap.size := Nat.lt_of_lt_of_le hb1x hbW.size
 obtain ⟨x0, hx0⟩ := get_lt (l := L) (k := 0) (by omega)
 have r0 := rowN1 (hr1.below hbb1 hb1x) hx0
 have e0 : L.getD 0 0 = x0 := by rw [List.getD_eq_getElem?_getD, hx0]; rfl
 obtain ⟨x1, hx1⟩ := get_lt (l := L) (k := 1) (by omega)
 have r1 := rowN1 (hr1.below hbb1 hb1x) hx1
 have e1 : L.getD 1 0 = x1 := by rw [List.getD_eq_getElem?_getD, hx1]; rfl
 obtain ⟨x2, hx2⟩ := get_lt (l := L) (k := 2) (by omega)
 have r2 := rowN1 (hr1.below hbb1 hb1x) hx2
 have e2 : L.getD 2 0 = x2 := by rw [List.getD_eq_getElem?_getD, hx2]; rfl
 obtain ⟨x3, hx3⟩ := get_lt (l := L) (k := 3) (by omega)
 have r3 := rowN1 (hr1.below hbb1 hb1x) hx3
 have e3 : L.getD 3 0 = x3 := by rw [List.getD_eq_getElem?_getD, hx3]; rfl
 obtain ⟨x4, hx4⟩ := get_lt (l := L) (k := 4) (by omega)
 have r4 := rowN1 (hr1.below hbb1 hb1x) hx4
 have e4 : L.getD 4 0 = x4 := by rw [List.getD_eq_getElem?_getD, hx4]; rfl
 simp only [Nat.add_zero] at r0
 obtain ⟨RR, hRR⟩ : ∃ RR, takeB B L = RR := ⟨_, rfl⟩
 rw [hRR]
 unfold takeB at hRR
 rw [e0, e1, e2, e3, e4] at hRR
 obtain ⟨zi, hzK⟩ : ∃ zi, idxL B.K (fun x => x.id == x0) = zi := ⟨_, rfl⟩
 rw [hzK] at hRR
 have HRR := hid hRR
 have HZK := hid hzK
 have HO1 := hid ho
 have HZ1 := hid hz
 have HB1 := hid hb1
 have HBW := hid hbW
 have HVAR := hid ho.var
 have LB := hid lb1
 have LBB := hid hb1x
 have R0 := hid r0
 have R1 := hid r1
 have R2 := hid r2
 have R3 := hid r3
 have R4 := hid r4
 have hbn := bs_kpN
 have HL3 := hid hL
 clear hL hs hop hr1 hb1x hbb1 hx0 e0 r0 hx1 e1 r1 hx2 e2 r2 hx3 e3 r3 hx4 e4 r4 hRR hzK ho hz hb1 h hbW lb1
 go_enter Tryz.func52, Tryz.ntmps52
 go_upto_region 1 with (fail)
 rw [← hW1]
 clear hW1
 refine wp_region_held_drew (S := fun _ => True) (by kernel_rfl) trivial (fun _ => ?_)
 refine wpAnyH_grownG (w0 := W1.drew) (spL [fun z _ => z = (.agg (brT B.f B.g mv iv kv)), fun z _ => z = .slice (some ⟨b1, o1, none⟩) L.length sc, fun z _ => z = .pointer (some ⟨b1, o1, none⟩), fun z _ => z = .int .i64 x0, fun z _ => z = .int .i64 zi, fun z _ => z = .int .i64 zi]) (spL_stays ⟨stays_eq _, stays_eq _, stays_eq _, stays_eq _, stays_eq _, stays_eq _, trivial⟩) (by kernel_rfl) (by kernel_rfl) ?steps1 ?fin1 rfl
 case steps1 =>
  refine ⟨?_, ?_, ?_, ?_, ?_, ?_, trivial⟩
  ·intro a' w' hB hdep hoth K hK
   rw [if_pos (guard_none rfl)]
   have hbw : Below W1.heap.size W1 w' := (below_drewN (Below.refl _ _) 1).trans hB
   have t3 := hoth 3 (notDst_at (by kernel_rfl))
   simp only [List.getElem?_toArray, List.getElem?_cons_succ, List.getElem?_cons_zero] at t3
   have hld := (HVAR.out.below hbw).load
   clear hdep hoth
   go_simp
   exact hK _ _ (Below.refl _ _) rfl
  ·intro a' w' hB hdep hoth K hK
   rw [if_pos (guard_none rfl)]
   have hbw : Below W1.heap.size W1 w' := (below_drewN (Below.refl _ _) 1).trans hB
   have t2 := hoth 2 (notDst_at (by kernel_rfl))
   simp only [List.getElem?_toArray, List.getElem?_cons_succ, List.getElem?_cons_zero] at t2
   clear hdep hoth
   go_simp
   exact hK _ _ (Below.refl _ _) rfl
  ·intro a' w' hB hdep hoth K hK
   rw [if_pos (guard_none rfl)]
   have hbw : Below W1.heap.size W1 w' := (below_drewN (Below.refl _ _) 1).trans hB
   obtain ⟨vx0, gx0, ex0⟩ := hdep ⟨1, .data⟩ (by simp) rfl
   have gx0 := gx0 9 rfl (by simp)
   obtain rfl : vx0 = .slice (some ⟨b1, o1, none⟩) L.length sc := ex0
   clear hdep hoth
   go_simp
   exact hK _ _ (Below.refl _ _) rfl
  ·intro a' w' hB hdep hoth K hK
   rw [if_pos (guard_none rfl)]
   have hbw : Below W1.heap.size W1 w' := (below_drewN (Below.refl _ _) 1).trans hB
   obtain ⟨vx0, gx0, ex0⟩ := hdep ⟨2, .data⟩ (by simp) rfl
   have gx0 := gx0 10 rfl (by simp)
   obtain rfl : vx0 = .pointer (some ⟨b1, o1, none⟩) := ex0
   have r0 := cell_below R0.out hbw
   have lb1 : b1 < w'.heap.size := Nat.lt_of_lt_of_le LB.out hbw.size
   clear hdep hoth
   go_simp
   exact hK _ _ (Below.refl _ _) rfl
  ·intro a' w' hB hdep hoth K hK
   rw [if_pos (guard_none rfl)]
   have hbw : Below W1.heap.size W1 w' := (below_drewN (Below.refl _ _) 1).trans hB
   obtain ⟨vx0, gx0, ex0⟩ := hdep ⟨0, .data⟩ (by simp) rfl
   have gx0 := gx0 8 rfl (by simp)
   obtain rfl : vx0 = (.agg (brT B.f B.g mv iv kv)) := ex0
   obtain ⟨vx1, gx1, ex1⟩ := hdep ⟨3, .data⟩ (by simp) rfl
   have gx1 := gx1 11 rfl (by simp)
   obtain rfl : vx1 = .int .i64 x0 := ex1
   have HA := hid (rfind13_at B _ x0 zi HZK.out _ (HVAR.out.below hbw).is)
   clear hdep hoth
   go_simp
   refine HA.out.mono ?_
   rintro e w'' ⟨rfl, hb⟩
   exact hK _ _ hb rfl
  ·intro a' w' hB hdep hoth K hK
   rw [if_pos (guard_none rfl)]
   have hbw : Below W1.heap.size W1 w' := (below_drewN (Below.refl _ _) 1).trans hB
   obtain ⟨vx0, gx0, ex0⟩ := hdep ⟨4, .data⟩ (by simp) rfl
   have gx0 := gx0 12 rfl (by simp)
   obtain rfl : vx0 = .int .i64 zi := ex0
   clear hdep hoth
   go_simp
   exact hK _ _ (Below.refl _ _) rfl
 case fin1 =>
  intro vs V1 hB hs
  have hbw : Below W1.heap.size W1 V1 := (below_drewN (Below.refl _ _) 1).trans hB
  have ev5 : vs 5 = .int .i64 zi := hs 5 (by decide)
  clear hs
  simp only [actOf, dstAt, if_true, List.getElem?_toArray, List.getElem?_cons_succ, List.getElem?_cons_zero, Option.bind_some, Act.put, List.setIfInBounds_toArray, List.set_cons_zero, List.set_cons_succ, List.length_cons, List.length_nil, Nat.reduceAdd]
  rw [ev5]
  clear hB ev5
  have HO2 := hid (HO1.out.below hbw)
  have HZ2 := hid (blk_below HZ1.out hbw (blk_lt HZ1.out))
  have HB2 := hid (HB1.out.trans (hbw.mono HB1.out.size))
  have LB2 := hid (Nat.lt_of_lt_of_le LB.out hbw.size)
  have S0 := hid (cell_below R0.out hbw)
  have S1 := hid (cell_below R1.out hbw)
  have S2 := hid (cell_below R2.out hbw)
  have S3 := hid (cell_below R3.out hbw)
  have S4 := hid (cell_below R4.out hbw)
  clear hbw
  clear LB HVAR R0 R1 R2 R3 R4
  rcases idxL_cases B.K (fun x => x.id == x0) with ⟨h1, _⟩ | ⟨i, x, h1, hx, _⟩
  ·obtain rfl : zi = -1 := by rw [← HZK.out]; exact h1
   clear h1
   by_cases h1 : 1 ≤ x0
   ·have HRX := hid (show RR = keepB B ⟨x0, x1, x2, x3, 8, x4, false, false⟩ by rw [← HRR.out, if_pos ⟨h1, by omega⟩])
    have d1 : decide (1 ≤ x0) = true := decide_eq_true h1
    have HVAR2 := hid HO2.out.var
    have r0 := S0.out
    have lb1 := LB2.out
    clear h1
    go_upto_region 4 with (fail)
    clear r0 lb1 d1
    refine wp_region_cut 18 1 (fun _ => True) (by kernel_rfl) (by kernel_rfl) (by kernel_rfl) ?_
    simp only [List.take_succ_cons, List.take_zero]
    refine wpAnyH_grownD (w0 := V1.drew) (spL _) (relD [] (KeptT 33) [] KeptE) (aliveD []) (ancD []) (spD (n := 18) (m := 18) (l := [fun z _ => z = (.agg (brT B.f B.g mv iv kv)), fun z _ => z = .slice (some ⟨b1, o1, none⟩) L.length sc, fun z _ => z = .pointer (some ⟨b1, o1, none⟩), fun z _ => z = .int .i64 x0, fun z _ => z = .slice (some ⟨b1, o1, none⟩) L.length sc, fun z _ => z = .pointer (some ⟨b1, o1 + 1, none⟩), fun z _ => z = .int .i64 x1, fun z _ => z = .slice (some ⟨b1, o1, none⟩) L.length sc, fun z _ => z = .pointer (some ⟨b1, o1 + 2, none⟩), fun z _ => z = .int .i64 x2, fun z _ => z = .slice (some ⟨b1, o1, none⟩) L.length sc, fun z _ => z = .pointer (some ⟨b1, o1 + 3, none⟩), fun z _ => z = .int .i64 x3, fun z _ => z = .slice (some ⟨b1, o1, none⟩) L.length sc, fun z _ => z = .pointer (some ⟨b1, o1 + 4, none⟩), fun z _ => z = .int .i64 x4, fun z _ => z = .agg #[.int .i64 x0, .int .i64 x1, .int .i64 x2, .int .i64 x3, .int .u8 8, .int .i64 x4, .bool false, .bool false], fun z w => BrEnd base RR z w]) (apps := []) (stab := []) (appsE := []) (stabE := []) ⟨stays_eq _, stays_eq _, stays_eq _, stays_eq _, stays_eq _, stays_eq _, stays_eq _, stays_eq _, stays_eq _, stays_eq _, stays_eq _, stays_eq _, stays_eq _, stays_eq _, stays_eq _, stays_eq _, stays_eq _, stays_brEnd _ _, trivial⟩ trivial trivial rfl (by decide) (by decide)) (by kernel_rfl) (by kernel_rfl) (by kernel_rfl) (by kernel_rfl) ?steps4 ?fin4 rfl
    case steps4 =>
     refine ⟨?_, ?_, ?_, ?_, ?_, ?_, ?_, ?_, ?_, ?_, ?_, ?_, ?_, ?_, ?_, ?_, ?_, ?_, trivial⟩
     ·intro a' w' hB hdep hoth K hK
      have hK := growB hB hK
      rw [if_pos (guard_none rfl)]
      have hbw : Below V1.heap.size V1 w' := (below_drewN (Below.refl _ _) 1).trans hB
      have t3 := hoth 3 (notDst_at (by kernel_rfl))
      simp only [List.getElem?_toArray, List.getElem?_cons_succ, List.getElem?_cons_zero] at t3
      have hld := (HVAR2.out.below hbw).load
      clear hdep hoth
      go_simp
      exact hK _ _ (Below.refl _ _) rfl
     ·intro a' w' hB hdep hoth K hK
      have hK := growB hB hK
      rw [if_pos (guard_none rfl)]
      have hbw : Below V1.heap.size V1 w' := (below_drewN (Below.refl _ _) 1).trans hB
      have t2 := hoth 2 (notDst_at (by kernel_rfl))
      simp only [List.getElem?_toArray, List.getElem?_cons_succ, List.getElem?_cons_zero] at t2
      clear hdep hoth
      go_simp
      exact hK _ _ (Below.refl _ _) rfl
     ·intro a' w' hB hdep hoth K hK
      have hK := growB hB hK
      rw [if_pos (guard_none rfl)]
      have hbw : Below V1.heap.size V1 w' := (below_drewN (Below.refl _ _) 1).trans hB
      obtain ⟨vx0, gx0, ex0⟩ := hdep ⟨1, .data⟩ (by simp) rfl
      have gx0 := gx0 25 rfl (by simp)
      obtain rfl : vx0 = .slice (some ⟨b1, o1, none⟩) L.length sc := ex0
      clear hdep hoth
      go_simp
      exact hK _ _ (Below.refl _ _) rfl
     ·intro a' w' hB hdep hoth K hK
      have hK := growB hB hK
      rw [if_pos (guard_none rfl)]
      have hbw : Below V1.heap.size V1 w' := (below_drewN (Below.refl _ _) 1).trans hB
      obtain ⟨vx0, gx0, ex0⟩ := hdep ⟨2, .data⟩ (by simp) rfl
      have gx0 := gx0 26 rfl (by simp)
      obtain rfl : vx0 = .pointer (some ⟨b1, o1, none⟩) := ex0
      have r0 := cell_below S0.out hbw
      have lb1 : b1 < w'.heap.size := Nat.lt_of_lt_of_le LB2.out hbw.size
      clear hdep hoth
      go_simp
      exact hK _ _ (Below.refl _ _) rfl
     ·intro a' w' hB hdep hoth K hK
      have hK := growB hB hK
      rw [if_pos (guard_none rfl)]
      have hbw : Below V1.heap.size V1 w' := (below_drewN (Below.refl _ _) 1).trans hB
      have t2 := hoth 2 (notDst_at (by kernel_rfl))
      simp only [List.getElem?_toArray, List.getElem?_cons_succ, List.getElem?_cons_zero] at t2
      clear hdep hoth
      go_simp
      exact hK _ _ (Below.refl _ _) rfl
     ·intro a' w' hB hdep hoth K hK
      have hK := growB hB hK
      rw [if_pos (guard_none rfl)]
      have hbw : Below V1.heap.size V1 w' := (below_drewN (Below.refl _ _) 1).trans hB
      obtain ⟨vx0, gx0, ex0⟩ := hdep ⟨4, .data⟩ (by simp) rfl
      have gx0 := gx0 28 rfl (by simp)
      obtain rfl : vx0 = .slice (some ⟨b1, o1, none⟩) L.length sc := ex0
      clear hdep hoth
      go_simp
      exact hK _ _ (Below.refl _ _) rfl
     ·intro a' w' hB hdep hoth K hK
      have hK := growB hB hK
      rw [if_pos (guard_none rfl)]
      have hbw : Below V1.heap.size V1 w' := (below_drewN (Below.refl _ _) 1).trans hB
      obtain ⟨vx0, gx0, ex0⟩ := hdep ⟨5, .data⟩ (by simp) rfl
      have gx0 := gx0 29 rfl (by simp)
      obtain rfl : vx0 = .pointer (some ⟨b1, o1 + 1, none⟩) := ex0
      have r1 := cell_below S1.out hbw
      have lb1 : b1 < w'.heap.size := Nat.lt_of_lt_of_le LB2.out hbw.size
      clear hdep hoth
      go_simp
      exact hK _ _ (Below.refl _ _) rfl
     ·intro a' w' hB hdep hoth K hK
      have hK := growB hB hK
      rw [if_pos (guard_none rfl)]
      have hbw : Below V1.heap.size V1 w' := (below_drewN (Below.refl _ _) 1).trans hB
      have t2 := hoth 2 (notDst_at (by kernel_rfl))
      simp only [List.getElem?_toArray, List.getElem?_cons_succ, List.getElem?_cons_zero] at t2
      clear hdep hoth
      go_simp
      exact hK _ _ (Below.refl _ _) rfl
     ·intro a' w' hB hdep hoth K hK
      have hK := growB hB hK
      rw [if_pos (guard_none rfl)]
      have hbw : Below V1.heap.size V1 w' := (below_drewN (Below.refl _ _) 1).trans hB
      obtain ⟨vx0, gx0, ex0⟩ := hdep ⟨7, .data⟩ (by simp) rfl
      have gx0 := gx0 31 rfl (by simp)
      obtain rfl : vx0 = .slice (some ⟨b1, o1, none⟩) L.length sc := ex0
      clear hdep hoth
      go_simp
      exact hK _ _ (Below.refl _ _) rfl
     ·intro a' w' hB hdep hoth K hK
      have hK := growB hB hK
      rw [if_pos (guard_none rfl)]
      have hbw : Below V1.heap.size V1 w' := (below_drewN (Below.refl _ _) 1).trans hB
      obtain ⟨vx0, gx0, ex0⟩ := hdep ⟨8, .data⟩ (by simp) rfl
      have gx0 := gx0 32 rfl (by simp)
      obtain rfl : vx0 = .pointer (some ⟨b1, o1 + 2, none⟩) := ex0
      have r2 := cell_below S2.out hbw
      have lb1 : b1 < w'.heap.size := Nat.lt_of_lt_of_le LB2.out hbw.size
      clear hdep hoth
      go_simp
      exact hK _ _ (Below.refl _ _) rfl
     ·intro a' w' hB hdep hoth K hK
      have hK := growB hB hK
      rw [if_pos (guard_none rfl)]
      have hbw : Below V1.heap.size V1 w' := (below_drewN (Below.refl _ _) 1).trans hB
      have t2 := hoth 2 (notDst_at (by kernel_rfl))
      simp only [List.getElem?_toArray, List.getElem?_cons_succ, List.getElem?_cons_zero] at t2
      clear hdep hoth
      go_simp
      exact hK _ _ (Below.refl _ _) rfl
     ·intro a' w' hB hdep hoth K hK
      have hK := growB hB hK
      rw [if_pos (guard_none rfl)]
      have hbw : Below V1.heap.size V1 w' := (below_drewN (Below.refl _ _) 1).trans hB
      obtain ⟨vx0, gx0, ex0⟩ := hdep ⟨10, .data⟩ (by simp) rfl
      have gx0 := gx0 34 rfl (by simp)
      obtain rfl : vx0 = .slice (some ⟨b1, o1, none⟩) L.length sc := ex0
      clear hdep hoth
      go_simp
      exact hK _ _ (Below.refl _ _) rfl
     ·intro a' w' hB hdep hoth K hK
      have hK := growB hB hK
      rw [if_pos (guard_none rfl)]
      have hbw : Below V1.heap.size V1 w' := (below_drewN (Below.refl _ _) 1).trans hB
      obtain ⟨vx0, gx0, ex0⟩ := hdep ⟨11, .data⟩ (by simp) rfl
      have gx0 := gx0 35 rfl (by simp)
      obtain rfl : vx0 = .pointer (some ⟨b1, o1 + 3, none⟩) := ex0
      have r3 := cell_below S3.out hbw
      have lb1 : b1 < w'.heap.size := Nat.lt_of_lt_of_le LB2.out hbw.size
      clear hdep hoth
      go_simp
      exact hK _ _ (Below.refl _ _) rfl
     ·intro a' w' hB hdep hoth K hK
      have hK := growB hB hK
      rw [if_pos (guard_none rfl)]
      have hbw : Below V1.heap.size V1 w' := (below_drewN (Below.refl _ _) 1).trans hB
      have t2 := hoth 2 (notDst_at (by kernel_rfl))
      simp only [List.getElem?_toArray, List.getElem?_cons_succ, List.getElem?_cons_zero] at t2
      clear hdep hoth
      go_simp
      exact hK _ _ (Below.refl _ _) rfl
     ·intro a' w' hB hdep hoth K hK
      have hK := growB hB hK
      rw [if_pos (guard_none rfl)]
      have hbw : Below V1.heap.size V1 w' := (below_drewN (Below.refl _ _) 1).trans hB
      obtain ⟨vx0, gx0, ex0⟩ := hdep ⟨13, .data⟩ (by simp) rfl
      have gx0 := gx0 37 rfl (by simp)
      obtain rfl : vx0 = .slice (some ⟨b1, o1, none⟩) L.length sc := ex0
      clear hdep hoth
      go_simp
      exact hK _ _ (Below.refl _ _) rfl
     ·intro a' w' hB hdep hoth K hK
      have hK := growB hB hK
      rw [if_pos (guard_none rfl)]
      have hbw : Below V1.heap.size V1 w' := (below_drewN (Below.refl _ _) 1).trans hB
      obtain ⟨vx0, gx0, ex0⟩ := hdep ⟨14, .data⟩ (by simp) rfl
      have gx0 := gx0 38 rfl (by simp)
      obtain rfl : vx0 = .pointer (some ⟨b1, o1 + 4, none⟩) := ex0
      have r4 := cell_below S4.out hbw
      have lb1 : b1 < w'.heap.size := Nat.lt_of_lt_of_le LB2.out hbw.size
      clear hdep hoth
      go_simp
      exact hK _ _ (Below.refl _ _) rfl
     ·intro a' w' hB hdep hoth K hK
      have hK := growB hB hK
      rw [if_pos (guard_none rfl)]
      have hbw : Below V1.heap.size V1 w' := (below_drewN (Below.refl _ _) 1).trans hB
      obtain ⟨vx0, gx0, ex0⟩ := hdep ⟨3, .data⟩ (by simp) rfl
      have gx0 := gx0 27 rfl (by simp)
      obtain rfl : vx0 = .int .i64 x0 := ex0
      obtain ⟨vx1, gx1, ex1⟩ := hdep ⟨6, .data⟩ (by simp) rfl
      have gx1 := gx1 30 rfl (by simp)
      obtain rfl : vx1 = .int .i64 x1 := ex1
      obtain ⟨vx2, gx2, ex2⟩ := hdep ⟨9, .data⟩ (by simp) rfl
      have gx2 := gx2 33 rfl (by simp)
      obtain rfl : vx2 = .int .i64 x2 := ex2
      obtain ⟨vx3, gx3, ex3⟩ := hdep ⟨12, .data⟩ (by simp) rfl
      have gx3 := gx3 36 rfl (by simp)
      obtain rfl : vx3 = .int .i64 x3 := ex3
      obtain ⟨vx4, gx4, ex4⟩ := hdep ⟨15, .data⟩ (by simp) rfl
      have gx4 := gx4 39 rfl (by simp)
      obtain rfl : vx4 = .int .i64 x4 := ex4
      clear hdep hoth
      go_simp
      exact hK _ _ (Below.refl _ _) rfl
     ·intro a' w' hB hdep hoth K hK
      have hK := growB hB hK
      rw [if_pos (guard_none rfl)]
      have hbw : Below V1.heap.size V1 w' := (below_drewN (Below.refl _ _) 1).trans hB
      obtain ⟨v0, q0, e0⟩ := hdep ⟨0, .data⟩ (by simp) rfl
      have q0 := q0 24 rfl (by simp)
      obtain rfl : v0 = (.agg (brT B.f B.g mv iv kv)) := e0
      obtain ⟨v1, q1, e1⟩ := hdep ⟨16, .data⟩ (by simp) rfl
      have q1 := q1 40 rfl (by simp)
      obtain rfl : v1 = .agg #[.int .i64 x0, .int .i64 x1, .int .i64 x2, .int .i64 x3, .int .u8 8, .int .i64 x4, .bool false, .bool false] := e1
      have HA := hid (rkeep_any ⟨x0, x1, x2, x3, 8, x4, false, false⟩ (HO2.out.below hbw).end (HO2.out.below hbw).bel (by omega))
      rw [show keepB B ⟨x0, x1, x2, x3, 8, x4, false, false⟩ = RR from HRX.out.symm] at HA
      unfold encKv at HA
      clear hdep hoth
      go_simp
      refine HA.out.mono ?_
      rintro e w'' ⟨v, rfl, he, hb⟩
      exact hK v _ hb he
    case fin4 =>
     intro vs w' hB hs
     have hbw : Below V1.heap.size V1 w' := (below_drewN (Below.refl _ _) 1).trans hB
     have e17 := hs 17 (by decide) (by decide)
     have e17 : BrEnd base RR (vs 17) w' := e17
     clear hs
     refine cutQ_held (fun _ => True) (fun f => ?_)
     simp only [actOf, dstAt, if_true, List.getElem?_toArray, List.getElem?_cons_succ, List.getElem?_cons_zero, Option.bind_some, Act.put, List.setIfInBounds_toArray, List.set_cons_zero, List.set_cons_succ, List.length_cons, List.length_nil, Nat.reduceAdd]
     obtain ⟨u4, hu⟩ : ∃ u, vs 17 = u := ⟨_, rfl⟩
     rw [hu] at e17 ⊢
     obtain ⟨X4, hst, hvar, hbv, hbx, hXo, hXs⟩ := brEnd_store e17 (blk_below HZ2.out hbw (blk_lt HZ2.out)) rfl (HB2.out.trans (hbw.mono HB2.out.size)) (Nat.le_succ _)
     refine wpAnyH_ready (rs := [18]) (by kernel_rfl) (by simp) ?_
     refine AllReadyH.cons rfl (fun K hK => ?_) AllReadyH.nil
     go_simp
     refine hK.out _ _ trivial (fun _ => ?_)
     clear hK K
     refine wpAnyH_done (by kernel_rfl) ?_ _
     have HBX := hid hbx
     have HEND := hid (hbv.end hvar)
     have HVX := hid hvar
     clear hB hbw e17 hu hvar hbv hbx hXo hXs hst
     go_wp2
     obtain ⟨m', i', k', e, bb, _⟩ := HVX.out
     refine bodyPost_ret (results_cell_row rfl _ _ (W.heap.size + 1) 33 _ _ _ rfl bb brain_under rfl (brain_size (brT_bc _ _ _ _ _))) rfl ?_
     rw [← e]
     exact ⟨_, rfl, HEND.out, HBX.out⟩
   ·have d1 : decide (1 ≤ x0) = false := decide_eq_false h1
    have r0 := S0.out
    have lb1 := LB2.out
    obtain rfl : B = RR := by rw [← HRR.out, if_neg (fun h => h1 h.1)]
    clear h1
    go_upto_region 19 with (fail)
    obtain ⟨hld, X, m', i', k', hst, bb, hend⟩ := ref_end (HO2.out) (HZ2.out) (HB2.out) HBW.out
    have HBB := hid bb
    have HEND := hid hend
    clear bb hend r0 lb1 d1
    go_wp2
    refine bodyPost_ret (results_cell_row rfl _ _ (W.heap.size + 1) 33 _ _ _ rfl HBB.out brain_under rfl (brain_size (brT_bc _ _ _ _ _))) rfl ?_
    exact HEND.out
  ·obtain rfl : zi = (i : Int) := by rw [← HZK.out]; exact h1
   have hil : i < B.K.length := lt_get hx
   have HX := hid hx
   clear h1 hx
   have d0 : decide ((i : Int) < 0) = false := decide_eq_false (by omega)
   obtain rfl : B = RR := by rw [← HRR.out, if_neg (fun h => by have := h.2; omega)]
   go_upto_region 19 with (fail)
   obtain ⟨hld, X, m', i', k', hst, bb, hend⟩ := ref_end (HO2.out) (HZ2.out) (HB2.out) HBW.out
   have HBB := hid bb
   have HEND := hid hend
   clear bb hend d0
   go_wp2
   refine bodyPost_ret (results_cell_row rfl _ _ (W.heap.size + 1) 33 _ _ _ rfl HBB.out brain_under rfl (brain_size (brT_bc _ _ _ _ _))) rfl ?_
   exact HEND.out
set_option maxRecDepth 100000 in
set_option maxHeartbeats 8000000 in
theorem rphase_any {v : Value} (s : Value) (L : List Int) (hs : RowOf 1 encI base s L) (hL : L.length = 3) (hn : ∀ y ∈ L, badN y = false) (hph : ∀ x ∈ B.K, in8 x.phase) (h : BrEnd base B v W) (hbW : Below base.heap.size base W) (_hlK : B.K.length ≤ 1000) :
  Calls Tryz.prog 52 #[v, .int .u8 6, s] W (RefEnd2 base W (keptB B (fun i x => phaseB B i x (L.getD 1 0) (L.getD 2 0)) (L.getD 0 0))) := by
 obtain ⟨k0, hk0, hk1, hk2, hk3⟩ := info_parts infoKp
 have HI0 := hid hk0
 have HI1 := hid hk1
 have HI2 := hid hk2
 have HI3 := hid hk3
 clear hk0 hk1 hk2 hk3
 obtain ⟨mv, iv, kv, W1, rfl, hW1, ho, hz, hb1⟩ := ref_begin h hbW
 obtain ⟨sa, sc, rfl, hs1, hs2, hs3, hop⟩ := hs.open
 obtain ⟨b1, o1, rfl, hb1x, hr1⟩ := hop (by omega)
 have hLI : (L.length : Int) = 3 := by omega
 have hbb1 := hbW.trans (hb1.mono hbW.size)
 have lb1 : b1 < W1.heap.size := Nat.lt_of_lt_of_le hb1x hbb1.size
 have lb0 : b1 < W.heap.size := Nat.lt_of_lt_of_le hb1x hbW.size
 obtain ⟨x0, hx0⟩ := get_lt (l := L) (k := 0) (by omega)
 have r0 := rowN1 (hr1.below hbb1 hb1x) hx0
 have e0 : L.getD 0 0 = x0 := by rw [List.getD_eq_getElem?_getD, hx0]; rfl
 obtain ⟨x1, hx1⟩ := get_lt (l := L) (k := 1) (by omega)
 have r1 := rowN1 (hr1.below hbb1 hb1x) hx1
 have e1 : L.getD 1 0 = x1 := by rw [List.getD_eq_getElem?_getD, hx1]; rfl
 obtain ⟨x2, hx2⟩ := get_lt (l := L) (k := 2) (by omega)
 have r2 := rowN1 (hr1.below hbb1 hb1x) hx2
 have e2 : L.getD 2 0 = x2 := by rw [List.getD_eq_getElem?_getD, hx2]; rfl
 simp only [Nat.add_zero] at r0
 have hx10 : 0 ≤ x1 := by have := hn x1 (mem_get hx1); unfold badN at this; simp at this; omega
 clear hn
 have HPH := hid hph
 clear hph
 obtain ⟨RR, hRR⟩ : ∃ RR, keptB B (fun i x => phaseB B i x (L.getD 1 0) (L.getD 2 0)) (L.getD 0 0) = RR := ⟨_, rfl⟩
 rw [hRR]
 unfold keptB at hRR
 rw [e0, e1, e2] at hRR
 obtain ⟨zi, hzK⟩ : ∃ zi, idxL B.K (fun x => x.id == x0) = zi := ⟨_, rfl⟩
 rw [hzK] at hRR
 have HRR := hid hRR
 have HZK := hid hzK
 have HO1 := hid ho
 have HZ1 := hid hz
 have HB1 := hid hb1
 have HBW := hid hbW
 have HVAR := hid ho.var
 have LB := hid lb1
 have LBB := hid hb1x
 have R0 := hid r0
 have R1 := hid r1
 have R2 := hid r2
 have hbn := bs_kpN
 have HL3 := hid hL
 clear hL hs hop hr1 hb1x hbb1 hx0 e0 r0 hx1 e1 r1 hx2 e2 r2 hRR hzK ho hz hb1 h hbW lb1
 go_enter Tryz.func52, Tryz.ntmps52
 go_upto_region 1 with (fail)
 rw [← hW1]
 clear hW1
 refine wp_region_held_drew (S := fun _ => True) (by kernel_rfl) trivial (fun _ => ?_)
 refine wpAnyH_grownG (w0 := W1.drew) (spL [fun z _ => z = (.agg (brT B.f B.g mv iv kv)), fun z _ => z = .slice (some ⟨b1, o1, none⟩) L.length sc, fun z _ => z = .pointer (some ⟨b1, o1, none⟩), fun z _ => z = .int .i64 x0, fun z _ => z = .int .i64 zi, fun z _ => z = .int .i64 zi]) (spL_stays ⟨stays_eq _, stays_eq _, stays_eq _, stays_eq _, stays_eq _, stays_eq _, trivial⟩) (by kernel_rfl) (by kernel_rfl) ?steps1 ?fin1 rfl
 case steps1 =>
  refine ⟨?_, ?_, ?_, ?_, ?_, ?_, trivial⟩
  ·intro a' w' hB hdep hoth K hK
   rw [if_pos (guard_none rfl)]
   have hbw : Below W1.heap.size W1 w' := (below_drewN (Below.refl _ _) 1).trans hB
   have t3 := hoth 3 (notDst_at (by kernel_rfl))
   simp only [List.getElem?_toArray, List.getElem?_cons_succ, List.getElem?_cons_zero] at t3
   have hld := (HVAR.out.below hbw).load
   clear hdep hoth
   go_simp
   exact hK _ _ (Below.refl _ _) rfl
  ·intro a' w' hB hdep hoth K hK
   rw [if_pos (guard_none rfl)]
   have hbw : Below W1.heap.size W1 w' := (below_drewN (Below.refl _ _) 1).trans hB
   have t2 := hoth 2 (notDst_at (by kernel_rfl))
   simp only [List.getElem?_toArray, List.getElem?_cons_succ, List.getElem?_cons_zero] at t2
   clear hdep hoth
   go_simp
   exact hK _ _ (Below.refl _ _) rfl
  ·intro a' w' hB hdep hoth K hK
   rw [if_pos (guard_none rfl)]
   have hbw : Below W1.heap.size W1 w' := (below_drewN (Below.refl _ _) 1).trans hB
   obtain ⟨vx0, gx0, ex0⟩ := hdep ⟨1, .data⟩ (by simp) rfl
   have gx0 := gx0 9 rfl (by simp)
   obtain rfl : vx0 = .slice (some ⟨b1, o1, none⟩) L.length sc := ex0
   clear hdep hoth
   go_simp
   exact hK _ _ (Below.refl _ _) rfl
  ·intro a' w' hB hdep hoth K hK
   rw [if_pos (guard_none rfl)]
   have hbw : Below W1.heap.size W1 w' := (below_drewN (Below.refl _ _) 1).trans hB
   obtain ⟨vx0, gx0, ex0⟩ := hdep ⟨2, .data⟩ (by simp) rfl
   have gx0 := gx0 10 rfl (by simp)
   obtain rfl : vx0 = .pointer (some ⟨b1, o1, none⟩) := ex0
   have r0 := cell_below R0.out hbw
   have lb1 : b1 < w'.heap.size := Nat.lt_of_lt_of_le LB.out hbw.size
   clear hdep hoth
   go_simp
   exact hK _ _ (Below.refl _ _) rfl
  ·intro a' w' hB hdep hoth K hK
   rw [if_pos (guard_none rfl)]
   have hbw : Below W1.heap.size W1 w' := (below_drewN (Below.refl _ _) 1).trans hB
   obtain ⟨vx0, gx0, ex0⟩ := hdep ⟨0, .data⟩ (by simp) rfl
   have gx0 := gx0 8 rfl (by simp)
   obtain rfl : vx0 = (.agg (brT B.f B.g mv iv kv)) := ex0
   obtain ⟨vx1, gx1, ex1⟩ := hdep ⟨3, .data⟩ (by simp) rfl
   have gx1 := gx1 11 rfl (by simp)
   obtain rfl : vx1 = .int .i64 x0 := ex1
   have HA := hid (rfind13_at B _ x0 zi HZK.out _ (HVAR.out.below hbw).is)
   clear hdep hoth
   go_simp
   refine HA.out.mono ?_
   rintro e w'' ⟨rfl, hb⟩
   exact hK _ _ hb rfl
  ·intro a' w' hB hdep hoth K hK
   rw [if_pos (guard_none rfl)]
   have hbw : Below W1.heap.size W1 w' := (below_drewN (Below.refl _ _) 1).trans hB
   obtain ⟨vx0, gx0, ex0⟩ := hdep ⟨4, .data⟩ (by simp) rfl
   have gx0 := gx0 12 rfl (by simp)
   obtain rfl : vx0 = .int .i64 zi := ex0
   clear hdep hoth
   go_simp
   exact hK _ _ (Below.refl _ _) rfl
 case fin1 =>
  intro vs V1 hB hs
  have hbw : Below W1.heap.size W1 V1 := (below_drewN (Below.refl _ _) 1).trans hB
  have ev5 : vs 5 = .int .i64 zi := hs 5 (by decide)
  clear hs
  simp only [actOf, dstAt, if_true, List.getElem?_toArray, List.getElem?_cons_succ, List.getElem?_cons_zero, Option.bind_some, Act.put, List.setIfInBounds_toArray, List.set_cons_zero, List.set_cons_succ, List.length_cons, List.length_nil, Nat.reduceAdd]
  rw [ev5]
  clear hB ev5
  have HO2 := hid (HO1.out.below hbw)
  have HZ2 := hid (blk_below HZ1.out hbw (blk_lt HZ1.out))
  have HB2 := hid (HB1.out.trans (hbw.mono HB1.out.size))
  have LB2 := hid (Nat.lt_of_lt_of_le LB.out hbw.size)
  have S0 := hid (cell_below R0.out hbw)
  have S1 := hid (cell_below R1.out hbw)
  have S2 := hid (cell_below R2.out hbw)
  clear hbw
  clear LB HVAR R0 R1 R2
  rcases idxL_cases B.K (fun x => x.id == x0) with ⟨h1, _⟩ | ⟨i, x, h1, hx, _⟩
  ·obtain rfl : zi = -1 := by rw [← HZK.out]; exact h1
   clear h1
   obtain rfl : B = RR := by rw [← HRR.out, if_pos (by omega)]
   go_upto_region 19 with (fail)
   obtain ⟨hld, X, m', i', k', hst, bb, hend⟩ := ref_end2 (HO2.out) (HZ2.out) ((KeptT.below HB2.out)) HBW.out
   have HBB := hid bb
   have HEND := hid hend
   clear bb hend
   go_wp2
   refine bodyPost_ret (results_cell_row rfl _ _ (W.heap.size + 1) 33 _ _ _ rfl HBB.out brain_under rfl (brain_size (brT_bc _ _ _ _ _))) rfl ?_
   exact HEND.out
  ·obtain rfl : zi = (i : Int) := by rw [← HZK.out]; exact h1
   have hil : i < B.K.length := lt_get hx
   have HX := hid hx
   clear h1 hx
   have HRX := hid (show RR = phaseB B i x x1 x2 by rw [← HRR.out, if_neg (by omega)]; simp only [Int.toNat_natCast]; rw [HX.out])
   obtain ⟨g, kc, rfl, hg, hrow, hfz, hlen, cur, hcur⟩ := HO2.out.kopen HX.out
   have d0 : decide ((i : Int) < 0) = false := decide_eq_false (by omega)
   have HROW := hid hrow
   have HFZ := hid hfz
   have HCUR := hid hcur
   have HG := hid hg
   have HVAR2 := hid HO2.out.var
   clear hrow hfz hcur hg
   have r1 := S1.out
   have r2 := S2.out
   have lb1 := LB2.out
   have HK2 := hid (show KeptT 33 W V1 from KeptT.below HB2.out)
   obtain ⟨q, hq⟩ : ∃ q, legalB x.phase x1 = q := ⟨_, rfl⟩
   have HLG := hid hq
   clear hq
   by_cases hx11 : x1 < 11
   ·have d1 : decide (x1 < 11) = true := decide_eq_true hx11
    cases q with
    | false =>
     obtain rfl : B = RR := by rw [HRX.out]; unfold phaseB; rw [HLG.out]; rfl
     go_upto_region 7 with (fail)
     clear r1 r2 lb1 d0
     refine wp_region_held_drew (S := fun _ => True) (by kernel_rfl) trivial (fun _ => ?_)
     refine wpAnyH_grownG (w0 := V1.drew) (spL [fun z _ => z = .slice (some ⟨b1, o1, none⟩) L.length sc, fun z _ => z = .pointer (some ⟨b1, o1 + 1, none⟩), fun z _ => z = .int .i64 x1, fun z _ => z = .bool true, fun z _ => z = .bool true, fun z _ => z = .pointer (some ⟨W.heap.size, 19, none⟩), fun z _ => z = .slice (some ⟨g, 0, none⟩) B.K.length kc, fun z _ => z = .int .i64 (i : Int), fun z _ => z = .pointer (some ⟨g, i * 8, none⟩), fun z _ => z = .pointer (some ⟨g, i * 8 + 4, none⟩), fun z _ => z = .int .u8 x.phase, fun z _ => z = .slice (some ⟨b1, o1, none⟩) L.length sc, fun z _ => z = .pointer (some ⟨b1, o1 + 1, none⟩), fun z _ => z = .int .i64 x1, fun z _ => z = .int .u8 x1, fun z _ => z = .bool false, fun z _ => z = .bool false]) (spL_stays ⟨stays_eq _, stays_eq _, stays_eq _, stays_eq _, stays_eq _, stays_eq _, stays_eq _, stays_eq _, stays_eq _, stays_eq _, stays_eq _, stays_eq _, stays_eq _, stays_eq _, stays_eq _, stays_eq _, stays_eq _, trivial⟩) (by kernel_rfl) (by kernel_rfl) ?steps7 ?fin7 rfl
     case steps7 =>
      refine ⟨?_, ?_, ?_, ?_, ?_, ?_, ?_, ?_, ?_, ?_, ?_, ?_, ?_, ?_, ?_, ?_, ?_, trivial⟩
      ·intro a' w' hB hdep hoth K hK
       rw [if_pos (guard_none rfl)]
       have hbw : Below V1.heap.size V1 w' := (below_drewN (Below.refl _ _) 1).trans hB
       have t2 := hoth 2 (notDst_at (by kernel_rfl))
       simp only [List.getElem?_toArray, List.getElem?_cons_succ, List.getElem?_cons_zero] at t2
       clear hdep hoth
       go_simp
       exact hK _ _ (Below.refl _ _) rfl
      ·intro a' w' hB hdep hoth K hK
       rw [if_pos (guard_none rfl)]
       have hbw : Below V1.heap.size V1 w' := (below_drewN (Below.refl _ _) 1).trans hB
       obtain ⟨vx0, gx0, ex0⟩ := hdep ⟨0, .data⟩ (by simp) rfl
       have gx0 := gx0 48 rfl (by simp)
       obtain rfl : vx0 = .slice (some ⟨b1, o1, none⟩) L.length sc := ex0
       clear hdep hoth
       go_simp
       exact hK _ _ (Below.refl _ _) rfl
      ·intro a' w' hB hdep hoth K hK
       rw [if_pos (guard_none rfl)]
       have hbw : Below V1.heap.size V1 w' := (below_drewN (Below.refl _ _) 1).trans hB
       obtain ⟨vx0, gx0, ex0⟩ := hdep ⟨1, .data⟩ (by simp) rfl
       have gx0 := gx0 49 rfl (by simp)
       obtain rfl : vx0 = .pointer (some ⟨b1, o1 + 1, none⟩) := ex0
       have r1 := cell_below S1.out hbw
       have lb1 : b1 < w'.heap.size := Nat.lt_of_lt_of_le LB2.out hbw.size
       clear hdep hoth
       go_simp
       exact hK _ _ (Below.refl _ _) rfl
      ·intro a' w' hB hdep hoth K hK
       rw [if_pos (guard_none rfl)]
       have hbw : Below V1.heap.size V1 w' := (below_drewN (Below.refl _ _) 1).trans hB
       obtain ⟨vx0, gx0, ex0⟩ := hdep ⟨2, .data⟩ (by simp) rfl
       have gx0 := gx0 50 rfl (by simp)
       obtain rfl : vx0 = .int .i64 x1 := ex0
       clear hdep hoth
       go_simp
       exact hK _ _ (Below.refl _ _) rfl
      ·intro a' w' hB hdep hoth K hK
       rw [if_pos (guard_none rfl)]
       have hbw : Below V1.heap.size V1 w' := (below_drewN (Below.refl _ _) 1).trans hB
       obtain ⟨vx0, gx0, ex0⟩ := hdep ⟨3, .data⟩ (by simp) rfl
       have gx0 := gx0 51 rfl (by simp)
       obtain rfl : vx0 = .bool true := ex0
       clear hdep hoth
       go_simp
       exact hK _ _ (Below.refl _ _) rfl
      ·intro a' w' hB hdep hoth K hK
       obtain ⟨vg, gg, eg⟩ := hdep ⟨4, .guard⟩ (by simp) rfl
       have gg := gg 52 rfl (by simp)
       obtain rfl : vg = .bool true := eg
       rw [guard_is rfl rfl gg]
       rw [if_pos (by decide)]
       have hbw : Below V1.heap.size V1 w' := (below_drewN (Below.refl _ _) 1).trans hB
       have t3 := hoth 3 (notDst_at (by kernel_rfl))
       simp only [List.getElem?_toArray, List.getElem?_cons_succ, List.getElem?_cons_zero] at t3
       clear hdep hoth
       go_simp
       exact hK _ _ (Below.refl _ _) rfl
      ·intro a' w' hB hdep hoth K hK
       obtain ⟨vg, gg, eg⟩ := hdep ⟨4, .guard⟩ (by simp) rfl
       have gg := gg 52 rfl (by simp)
       obtain rfl : vg = .bool true := eg
       rw [guard_is rfl rfl gg]
       rw [if_pos (by decide)]
       have hbw : Below V1.heap.size V1 w' := (below_drewN (Below.refl _ _) 1).trans hB
       obtain ⟨vx0, gx0, ex0⟩ := hdep ⟨5, .data⟩ (by simp) rfl
       have gx0 := gx0 53 rfl (by simp)
       obtain rfl : vx0 = .pointer (some ⟨W.heap.size, 19, none⟩) := ex0
       have cc : w'.cell? ⟨W.heap.size, 19, none⟩ = some (.slice (some ⟨g, 0, none⟩) B.K.length kc) := (HO2.out.below hbw).cell 19 _ rfl
       have lb := (HO2.out.below hbw).lt
       clear hdep hoth
       go_simp
       exact hK _ _ (Below.refl _ _) rfl
      ·intro a' w' hB hdep hoth K hK
       obtain ⟨vg, gg, eg⟩ := hdep ⟨4, .guard⟩ (by simp) rfl
       have gg := gg 52 rfl (by simp)
       obtain rfl : vg = .bool true := eg
       rw [guard_is rfl rfl gg]
       rw [if_pos (by decide)]
       have hbw : Below V1.heap.size V1 w' := (below_drewN (Below.refl _ _) 1).trans hB
       have t7 := hoth 7 (notDst_at (by kernel_rfl))
       simp only [List.getElem?_toArray, List.getElem?_cons_succ, List.getElem?_cons_zero] at t7
       clear hdep hoth
       go_simp
       exact hK _ _ (Below.refl _ _) rfl
      ·intro a' w' hB hdep hoth K hK
       obtain ⟨vg, gg, eg⟩ := hdep ⟨4, .guard⟩ (by simp) rfl
       have gg := gg 52 rfl (by simp)
       obtain rfl : vg = .bool true := eg
       rw [guard_is rfl rfl gg]
       rw [if_pos (by decide)]
       have hbw : Below V1.heap.size V1 w' := (below_drewN (Below.refl _ _) 1).trans hB
       obtain ⟨vx0, gx0, ex0⟩ := hdep ⟨6, .data⟩ (by simp) rfl
       have gx0 := gx0 54 rfl (by simp)
       obtain rfl : vx0 = .slice (some ⟨g, 0, none⟩) B.K.length kc := ex0
       obtain ⟨vx1, gx1, ex1⟩ := hdep ⟨7, .data⟩ (by simp) rfl
       have gx1 := gx1 55 rfl (by simp)
       obtain rfl : vx1 = .int .i64 (i : Int) := ex1
       clear hdep hoth
       go_simp
       exact hK _ _ (Below.refl _ _) rfl
      ·intro a' w' hB hdep hoth K hK
       obtain ⟨vg, gg, eg⟩ := hdep ⟨4, .guard⟩ (by simp) rfl
       have gg := gg 52 rfl (by simp)
       obtain rfl : vg = .bool true := eg
       rw [guard_is rfl rfl gg]
       rw [if_pos (by decide)]
       have hbw : Below V1.heap.size V1 w' := (below_drewN (Below.refl _ _) 1).trans hB
       obtain ⟨vx0, gx0, ex0⟩ := hdep ⟨8, .data⟩ (by simp) rfl
       have gx0 := gx0 56 rfl (by simp)
       obtain rfl : vx0 = .pointer (some ⟨g, i * 8, none⟩) := ex0
       clear hdep hoth
       go_simp
       exact hK _ _ (Below.refl _ _) rfl
      ·intro a' w' hB hdep hoth K hK
       obtain ⟨vg, gg, eg⟩ := hdep ⟨4, .guard⟩ (by simp) rfl
       have gg := gg 52 rfl (by simp)
       obtain rfl : vg = .bool true := eg
       rw [guard_is rfl rfl gg]
       rw [if_pos (by decide)]
       have hbw : Below V1.heap.size V1 w' := (below_drewN (Below.refl _ _) 1).trans hB
       obtain ⟨vx0, gx0, ex0⟩ := hdep ⟨9, .data⟩ (by simp) rfl
       have gx0 := gx0 57 rfl (by simp)
       obtain rfl : vx0 = .pointer (some ⟨g, i * 8 + 4, none⟩) := ex0
       obtain ⟨_, _, _, _, k4, _, _, _⟩ := rowK (HROW.out.below hbw HG.out) HX.out
       simp only [Nat.zero_add] at k4
       have lg : g < w'.heap.size := Nat.lt_of_lt_of_le HG.out hbw.size
       clear hdep hoth
       go_simp
       exact hK _ _ (Below.refl _ _) rfl
      ·intro a' w' hB hdep hoth K hK
       obtain ⟨vg, gg, eg⟩ := hdep ⟨4, .guard⟩ (by simp) rfl
       have gg := gg 52 rfl (by simp)
       obtain rfl : vg = .bool true := eg
       rw [guard_is rfl rfl gg]
       rw [if_pos (by decide)]
       have hbw : Below V1.heap.size V1 w' := (below_drewN (Below.refl _ _) 1).trans hB
       have t2 := hoth 2 (notDst_at (by kernel_rfl))
       simp only [List.getElem?_toArray, List.getElem?_cons_succ, List.getElem?_cons_zero] at t2
       clear hdep hoth
       go_simp
       exact hK _ _ (Below.refl _ _) rfl
      ·intro a' w' hB hdep hoth K hK
       obtain ⟨vg, gg, eg⟩ := hdep ⟨4, .guard⟩ (by simp) rfl
       have gg := gg 52 rfl (by simp)
       obtain rfl : vg = .bool true := eg
       rw [guard_is rfl rfl gg]
       rw [if_pos (by decide)]
       have hbw : Below V1.heap.size V1 w' := (below_drewN (Below.refl _ _) 1).trans hB
       obtain ⟨vx0, gx0, ex0⟩ := hdep ⟨11, .data⟩ (by simp) rfl
       have gx0 := gx0 59 rfl (by simp)
       obtain rfl : vx0 = .slice (some ⟨b1, o1, none⟩) L.length sc := ex0
       clear hdep hoth
       go_simp
       exact hK _ _ (Below.refl _ _) rfl
      ·intro a' w' hB hdep hoth K hK
       obtain ⟨vg, gg, eg⟩ := hdep ⟨4, .guard⟩ (by simp) rfl
       have gg := gg 52 rfl (by simp)
       obtain rfl : vg = .bool true := eg
       rw [guard_is rfl rfl gg]
       rw [if_pos (by decide)]
       have hbw : Below V1.heap.size V1 w' := (below_drewN (Below.refl _ _) 1).trans hB
       obtain ⟨vx0, gx0, ex0⟩ := hdep ⟨12, .data⟩ (by simp) rfl
       have gx0 := gx0 60 rfl (by simp)
       obtain rfl : vx0 = .pointer (some ⟨b1, o1 + 1, none⟩) := ex0
       have r1 := cell_below S1.out hbw
       have lb1 : b1 < w'.heap.size := Nat.lt_of_lt_of_le LB2.out hbw.size
       clear hdep hoth
       go_simp
       exact hK _ _ (Below.refl _ _) rfl
      ·intro a' w' hB hdep hoth K hK
       obtain ⟨vg, gg, eg⟩ := hdep ⟨4, .guard⟩ (by simp) rfl
       have gg := gg 52 rfl (by simp)
       obtain rfl : vg = .bool true := eg
       rw [guard_is rfl rfl gg]
       rw [if_pos (by decide)]
       have hbw : Below V1.heap.size V1 w' := (below_drewN (Below.refl _ _) 1).trans hB
       obtain ⟨vx0, gx0, ex0⟩ := hdep ⟨13, .data⟩ (by simp) rfl
       have gx0 := gx0 61 rfl (by simp)
       obtain rfl : vx0 = .int .i64 x1 := ex0
       have hu8 : IntKind.u8.wrap x1 = x1 := by rw [IntKind.wrap_u8]; omega
       clear hdep hoth
       go_simp
       exact hK _ _ (Below.refl _ _) rfl
      ·intro a' w' hB hdep hoth K hK
       obtain ⟨vg, gg, eg⟩ := hdep ⟨4, .guard⟩ (by simp) rfl
       have gg := gg 52 rfl (by simp)
       obtain rfl : vg = .bool true := eg
       rw [guard_is rfl rfl gg]
       rw [if_pos (by decide)]
       have hbw : Below V1.heap.size V1 w' := (below_drewN (Below.refl _ _) 1).trans hB
       obtain ⟨vx0, gx0, ex0⟩ := hdep ⟨10, .data⟩ (by simp) rfl
       have gx0 := gx0 58 rfl (by simp)
       obtain rfl : vx0 = .int .u8 x.phase := ex0
       obtain ⟨vx1, gx1, ex1⟩ := hdep ⟨14, .data⟩ (by simp) rfl
       have gx1 := gx1 62 rfl (by simp)
       obtain rfl : vx1 = .int .u8 x1 := ex1
       have HA := hid (rlegal_b x.phase x1 false HLG.out (by omega) w')
       clear hdep hoth
       go_simp
       refine HA.out.mono ?_
       rintro e w'' ⟨rfl, hb⟩
       exact hK _ _ hb rfl
      ·intro a' w' hB hdep hoth K hK
       rw [if_pos (guard_none rfl)]
       have hbw : Below V1.heap.size V1 w' := (below_drewN (Below.refl _ _) 1).trans hB
       obtain ⟨vx0, gx0, ex0⟩ := hdep ⟨4, .data⟩ (by simp) rfl
       have gx0 := gx0 52 rfl (by simp)
       obtain rfl : vx0 = .bool true := ex0
       obtain ⟨vx1, gx1, ex1⟩ := hdep ⟨15, .data⟩ (by simp) rfl
       have gx1 := gx1 63 rfl (by simp)
       obtain rfl : vx1 = .bool false := ex1
       clear hdep hoth
       go_simp
       exact hK _ _ (Below.refl _ _) rfl
     case fin7 =>
      intro vs V2 hB hs
      have hbw : Below V1.heap.size V1 V2 := (below_drewN (Below.refl _ _) 1).trans hB
      have ev16 : vs 16 = .bool false := hs 16 (by decide)
      clear hs
      simp only [actOf, dstAt, if_true, List.getElem?_toArray, List.getElem?_cons_succ, List.getElem?_cons_zero, Option.bind_some, Act.put, List.setIfInBounds_toArray, List.set_cons_zero, List.set_cons_succ, List.length_cons, List.length_nil, Nat.reduceAdd]
      rw [ev16]
      clear hB ev16
      have HO3 := hid (HO2.out.below hbw)
      have HZ3 := hid (blk_below HZ2.out hbw (blk_lt HZ2.out))
      have HK3 := hid (KeptT.trans HK2.out (KeptT.below hbw))
      have P1 := hid (cell_below S1.out hbw)
      have P2 := hid (cell_below S2.out hbw)
      have LB3 := hid (Nat.lt_of_lt_of_le LB2.out hbw.size)
      clear hbw
      go_upto_region 19 with (fail)
      obtain ⟨hld, X, m', i', k', hst, bb, hend⟩ := ref_end2 (HO3.out) (HZ3.out) (HK3.out) HBW.out
      have HBB := hid bb
      have HEND := hid hend
      clear bb hend
      go_wp2
      refine bodyPost_ret (results_cell_row rfl _ _ (W.heap.size + 1) 33 _ _ _ rfl HBB.out brain_under rfl (brain_size (brT_bc _ _ _ _ _))) rfl ?_
      exact HEND.out
    | true =>
     have LG0 := hid (show b1 ≠ g by have h1 := HO2.out.rk; have h2 := (Owns.block h1 g rfl).1; have h3 := LBB.out; omega)
     go_upto_region 7 with (fail)
     clear r1 r2 lb1 d0
     refine wp_region_held_drew (S := fun _ => True) (by kernel_rfl) trivial (fun _ => ?_)
     refine wpAnyH_grownG (w0 := V1.drew) (spL [fun z _ => z = .slice (some ⟨b1, o1, none⟩) L.length sc, fun z _ => z = .pointer (some ⟨b1, o1 + 1, none⟩), fun z _ => z = .int .i64 x1, fun z _ => z = .bool true, fun z _ => z = .bool true, fun z _ => z = .pointer (some ⟨W.heap.size, 19, none⟩), fun z _ => z = .slice (some ⟨g, 0, none⟩) B.K.length kc, fun z _ => z = .int .i64 (i : Int), fun z _ => z = .pointer (some ⟨g, i * 8, none⟩), fun z _ => z = .pointer (some ⟨g, i * 8 + 4, none⟩), fun z _ => z = .int .u8 x.phase, fun z _ => z = .slice (some ⟨b1, o1, none⟩) L.length sc, fun z _ => z = .pointer (some ⟨b1, o1 + 1, none⟩), fun z _ => z = .int .i64 x1, fun z _ => z = .int .u8 x1, fun z _ => z = .bool true, fun z _ => z = .bool true]) (spL_stays ⟨stays_eq _, stays_eq _, stays_eq _, stays_eq _, stays_eq _, stays_eq _, stays_eq _, stays_eq _, stays_eq _, stays_eq _, stays_eq _, stays_eq _, stays_eq _, stays_eq _, stays_eq _, stays_eq _, stays_eq _, trivial⟩) (by kernel_rfl) (by kernel_rfl) ?steps7 ?fin7 rfl
     case steps7 =>
      refine ⟨?_, ?_, ?_, ?_, ?_, ?_, ?_, ?_, ?_, ?_, ?_, ?_, ?_, ?_, ?_, ?_, ?_, trivial⟩
      ·intro a' w' hB hdep hoth K hK
       rw [if_pos (guard_none rfl)]
       have hbw : Below V1.heap.size V1 w' := (below_drewN (Below.refl _ _) 1).trans hB
       have t2 := hoth 2 (notDst_at (by kernel_rfl))
       simp only [List.getElem?_toArray, List.getElem?_cons_succ, List.getElem?_cons_zero] at t2
       clear hdep hoth
       go_simp
       exact hK _ _ (Below.refl _ _) rfl
      ·intro a' w' hB hdep hoth K hK
       rw [if_pos (guard_none rfl)]
       have hbw : Below V1.heap.size V1 w' := (below_drewN (Below.refl _ _) 1).trans hB
       obtain ⟨vx0, gx0, ex0⟩ := hdep ⟨0, .data⟩ (by simp) rfl
       have gx0 := gx0 48 rfl (by simp)
       obtain rfl : vx0 = .slice (some ⟨b1, o1, none⟩) L.length sc := ex0
       clear hdep hoth
       go_simp
       exact hK _ _ (Below.refl _ _) rfl
      ·intro a' w' hB hdep hoth K hK
       rw [if_pos (guard_none rfl)]
       have hbw : Below V1.heap.size V1 w' := (below_drewN (Below.refl _ _) 1).trans hB
       obtain ⟨vx0, gx0, ex0⟩ := hdep ⟨1, .data⟩ (by simp) rfl
       have gx0 := gx0 49 rfl (by simp)
       obtain rfl : vx0 = .pointer (some ⟨b1, o1 + 1, none⟩) := ex0
       have r1 := cell_below S1.out hbw
       have lb1 : b1 < w'.heap.size := Nat.lt_of_lt_of_le LB2.out hbw.size
       clear hdep hoth
       go_simp
       exact hK _ _ (Below.refl _ _) rfl
      ·intro a' w' hB hdep hoth K hK
       rw [if_pos (guard_none rfl)]
       have hbw : Below V1.heap.size V1 w' := (below_drewN (Below.refl _ _) 1).trans hB
       obtain ⟨vx0, gx0, ex0⟩ := hdep ⟨2, .data⟩ (by simp) rfl
       have gx0 := gx0 50 rfl (by simp)
       obtain rfl : vx0 = .int .i64 x1 := ex0
       clear hdep hoth
       go_simp
       exact hK _ _ (Below.refl _ _) rfl
      ·intro a' w' hB hdep hoth K hK
       rw [if_pos (guard_none rfl)]
       have hbw : Below V1.heap.size V1 w' := (below_drewN (Below.refl _ _) 1).trans hB
       obtain ⟨vx0, gx0, ex0⟩ := hdep ⟨3, .data⟩ (by simp) rfl
       have gx0 := gx0 51 rfl (by simp)
       obtain rfl : vx0 = .bool true := ex0
       clear hdep hoth
       go_simp
       exact hK _ _ (Below.refl _ _) rfl
      ·intro a' w' hB hdep hoth K hK
       obtain ⟨vg, gg, eg⟩ := hdep ⟨4, .guard⟩ (by simp) rfl
       have gg := gg 52 rfl (by simp)
       obtain rfl : vg = .bool true := eg
       rw [guard_is rfl rfl gg]
       rw [if_pos (by decide)]
       have hbw : Below V1.heap.size V1 w' := (below_drewN (Below.refl _ _) 1).trans hB
       have t3 := hoth 3 (notDst_at (by kernel_rfl))
       simp only [List.getElem?_toArray, List.getElem?_cons_succ, List.getElem?_cons_zero] at t3
       clear hdep hoth
       go_simp
       exact hK _ _ (Below.refl _ _) rfl
      ·intro a' w' hB hdep hoth K hK
       obtain ⟨vg, gg, eg⟩ := hdep ⟨4, .guard⟩ (by simp) rfl
       have gg := gg 52 rfl (by simp)
       obtain rfl : vg = .bool true := eg
       rw [guard_is rfl rfl gg]
       rw [if_pos (by decide)]
       have hbw : Below V1.heap.size V1 w' := (below_drewN (Below.refl _ _) 1).trans hB
       obtain ⟨vx0, gx0, ex0⟩ := hdep ⟨5, .data⟩ (by simp) rfl
       have gx0 := gx0 53 rfl (by simp)
       obtain rfl : vx0 = .pointer (some ⟨W.heap.size, 19, none⟩) := ex0
       have cc : w'.cell? ⟨W.heap.size, 19, none⟩ = some (.slice (some ⟨g, 0, none⟩) B.K.length kc) := (HO2.out.below hbw).cell 19 _ rfl
       have lb := (HO2.out.below hbw).lt
       clear hdep hoth
       go_simp
       exact hK _ _ (Below.refl _ _) rfl
      ·intro a' w' hB hdep hoth K hK
       obtain ⟨vg, gg, eg⟩ := hdep ⟨4, .guard⟩ (by simp) rfl
       have gg := gg 52 rfl (by simp)
       obtain rfl : vg = .bool true := eg
       rw [guard_is rfl rfl gg]
       rw [if_pos (by decide)]
       have hbw : Below V1.heap.size V1 w' := (below_drewN (Below.refl _ _) 1).trans hB
       have t7 := hoth 7 (notDst_at (by kernel_rfl))
       simp only [List.getElem?_toArray, List.getElem?_cons_succ, List.getElem?_cons_zero] at t7
       clear hdep hoth
       go_simp
       exact hK _ _ (Below.refl _ _) rfl
      ·intro a' w' hB hdep hoth K hK
       obtain ⟨vg, gg, eg⟩ := hdep ⟨4, .guard⟩ (by simp) rfl
       have gg := gg 52 rfl (by simp)
       obtain rfl : vg = .bool true := eg
       rw [guard_is rfl rfl gg]
       rw [if_pos (by decide)]
       have hbw : Below V1.heap.size V1 w' := (below_drewN (Below.refl _ _) 1).trans hB
       obtain ⟨vx0, gx0, ex0⟩ := hdep ⟨6, .data⟩ (by simp) rfl
       have gx0 := gx0 54 rfl (by simp)
       obtain rfl : vx0 = .slice (some ⟨g, 0, none⟩) B.K.length kc := ex0
       obtain ⟨vx1, gx1, ex1⟩ := hdep ⟨7, .data⟩ (by simp) rfl
       have gx1 := gx1 55 rfl (by simp)
       obtain rfl : vx1 = .int .i64 (i : Int) := ex1
       clear hdep hoth
       go_simp
       exact hK _ _ (Below.refl _ _) rfl
      ·intro a' w' hB hdep hoth K hK
       obtain ⟨vg, gg, eg⟩ := hdep ⟨4, .guard⟩ (by simp) rfl
       have gg := gg 52 rfl (by simp)
       obtain rfl : vg = .bool true := eg
       rw [guard_is rfl rfl gg]
       rw [if_pos (by decide)]
       have hbw : Below V1.heap.size V1 w' := (below_drewN (Below.refl _ _) 1).trans hB
       obtain ⟨vx0, gx0, ex0⟩ := hdep ⟨8, .data⟩ (by simp) rfl
       have gx0 := gx0 56 rfl (by simp)
       obtain rfl : vx0 = .pointer (some ⟨g, i * 8, none⟩) := ex0
       clear hdep hoth
       go_simp
       exact hK _ _ (Below.refl _ _) rfl
      ·intro a' w' hB hdep hoth K hK
       obtain ⟨vg, gg, eg⟩ := hdep ⟨4, .guard⟩ (by simp) rfl
       have gg := gg 52 rfl (by simp)
       obtain rfl : vg = .bool true := eg
       rw [guard_is rfl rfl gg]
       rw [if_pos (by decide)]
       have hbw : Below V1.heap.size V1 w' := (below_drewN (Below.refl _ _) 1).trans hB
       obtain ⟨vx0, gx0, ex0⟩ := hdep ⟨9, .data⟩ (by simp) rfl
       have gx0 := gx0 57 rfl (by simp)
       obtain rfl : vx0 = .pointer (some ⟨g, i * 8 + 4, none⟩) := ex0
       obtain ⟨_, _, _, _, k4, _, _, _⟩ := rowK (HROW.out.below hbw HG.out) HX.out
       simp only [Nat.zero_add] at k4
       have lg : g < w'.heap.size := Nat.lt_of_lt_of_le HG.out hbw.size
       clear hdep hoth
       go_simp
       exact hK _ _ (Below.refl _ _) rfl
      ·intro a' w' hB hdep hoth K hK
       obtain ⟨vg, gg, eg⟩ := hdep ⟨4, .guard⟩ (by simp) rfl
       have gg := gg 52 rfl (by simp)
       obtain rfl : vg = .bool true := eg
       rw [guard_is rfl rfl gg]
       rw [if_pos (by decide)]
       have hbw : Below V1.heap.size V1 w' := (below_drewN (Below.refl _ _) 1).trans hB
       have t2 := hoth 2 (notDst_at (by kernel_rfl))
       simp only [List.getElem?_toArray, List.getElem?_cons_succ, List.getElem?_cons_zero] at t2
       clear hdep hoth
       go_simp
       exact hK _ _ (Below.refl _ _) rfl
      ·intro a' w' hB hdep hoth K hK
       obtain ⟨vg, gg, eg⟩ := hdep ⟨4, .guard⟩ (by simp) rfl
       have gg := gg 52 rfl (by simp)
       obtain rfl : vg = .bool true := eg
       rw [guard_is rfl rfl gg]
       rw [if_pos (by decide)]
       have hbw : Below V1.heap.size V1 w' := (below_drewN (Below.refl _ _) 1).trans hB
       obtain ⟨vx0, gx0, ex0⟩ := hdep ⟨11, .data⟩ (by simp) rfl
       have gx0 := gx0 59 rfl (by simp)
       obtain rfl : vx0 = .slice (some ⟨b1, o1, none⟩) L.length sc := ex0
       clear hdep hoth
       go_simp
       exact hK _ _ (Below.refl _ _) rfl
      ·intro a' w' hB hdep hoth K hK
       obtain ⟨vg, gg, eg⟩ := hdep ⟨4, .guard⟩ (by simp) rfl
       have gg := gg 52 rfl (by simp)
       obtain rfl : vg = .bool true := eg
       rw [guard_is rfl rfl gg]
       rw [if_pos (by decide)]
       have hbw : Below V1.heap.size V1 w' := (below_drewN (Below.refl _ _) 1).trans hB
       obtain ⟨vx0, gx0, ex0⟩ := hdep ⟨12, .data⟩ (by simp) rfl
       have gx0 := gx0 60 rfl (by simp)
       obtain rfl : vx0 = .pointer (some ⟨b1, o1 + 1, none⟩) := ex0
       have r1 := cell_below S1.out hbw
       have lb1 : b1 < w'.heap.size := Nat.lt_of_lt_of_le LB2.out hbw.size
       clear hdep hoth
       go_simp
       exact hK _ _ (Below.refl _ _) rfl
      ·intro a' w' hB hdep hoth K hK
       obtain ⟨vg, gg, eg⟩ := hdep ⟨4, .guard⟩ (by simp) rfl
       have gg := gg 52 rfl (by simp)
       obtain rfl : vg = .bool true := eg
       rw [guard_is rfl rfl gg]
       rw [if_pos (by decide)]
       have hbw : Below V1.heap.size V1 w' := (below_drewN (Below.refl _ _) 1).trans hB
       obtain ⟨vx0, gx0, ex0⟩ := hdep ⟨13, .data⟩ (by simp) rfl
       have gx0 := gx0 61 rfl (by simp)
       obtain rfl : vx0 = .int .i64 x1 := ex0
       have hu8 : IntKind.u8.wrap x1 = x1 := by rw [IntKind.wrap_u8]; omega
       clear hdep hoth
       go_simp
       exact hK _ _ (Below.refl _ _) rfl
      ·intro a' w' hB hdep hoth K hK
       obtain ⟨vg, gg, eg⟩ := hdep ⟨4, .guard⟩ (by simp) rfl
       have gg := gg 52 rfl (by simp)
       obtain rfl : vg = .bool true := eg
       rw [guard_is rfl rfl gg]
       rw [if_pos (by decide)]
       have hbw : Below V1.heap.size V1 w' := (below_drewN (Below.refl _ _) 1).trans hB
       obtain ⟨vx0, gx0, ex0⟩ := hdep ⟨10, .data⟩ (by simp) rfl
       have gx0 := gx0 58 rfl (by simp)
       obtain rfl : vx0 = .int .u8 x.phase := ex0
       obtain ⟨vx1, gx1, ex1⟩ := hdep ⟨14, .data⟩ (by simp) rfl
       have gx1 := gx1 62 rfl (by simp)
       obtain rfl : vx1 = .int .u8 x1 := ex1
       have HA := hid (rlegal_b x.phase x1 true HLG.out (by omega) w')
       clear hdep hoth
       go_simp
       refine HA.out.mono ?_
       rintro e w'' ⟨rfl, hb⟩
       exact hK _ _ hb rfl
      ·intro a' w' hB hdep hoth K hK
       rw [if_pos (guard_none rfl)]
       have hbw : Below V1.heap.size V1 w' := (below_drewN (Below.refl _ _) 1).trans hB
       obtain ⟨vx0, gx0, ex0⟩ := hdep ⟨4, .data⟩ (by simp) rfl
       have gx0 := gx0 52 rfl (by simp)
       obtain rfl : vx0 = .bool true := ex0
       obtain ⟨vx1, gx1, ex1⟩ := hdep ⟨15, .data⟩ (by simp) rfl
       have gx1 := gx1 63 rfl (by simp)
       obtain rfl : vx1 = .bool true := ex1
       clear hdep hoth
       go_simp
       exact hK _ _ (Below.refl _ _) rfl
     case fin7 =>
      intro vs V2 hB hs
      have hbw : Below V1.heap.size V1 V2 := (below_drewN (Below.refl _ _) 1).trans hB
      have ev16 : vs 16 = .bool true := hs 16 (by decide)
      clear hs
      simp only [actOf, dstAt, if_true, List.getElem?_toArray, List.getElem?_cons_succ, List.getElem?_cons_zero, Option.bind_some, Act.put, List.setIfInBounds_toArray, List.set_cons_zero, List.set_cons_succ, List.length_cons, List.length_nil, Nat.reduceAdd]
      rw [ev16]
      clear hB ev16
      have HO3 := hid (HO2.out.below hbw)
      have HZ3 := hid (blk_below HZ2.out hbw (blk_lt HZ2.out))
      have HK3 := hid (KeptT.trans HK2.out (KeptT.below hbw))
      have P1 := hid (cell_below S1.out hbw)
      have P2 := hid (cell_below S2.out hbw)
      have LB3 := hid (Nat.lt_of_lt_of_le LB2.out hbw.size)
      clear hbw
      go_wp2_with fail
      refine wp_region_cut 7 3 (fun _ => True) (by kernel_rfl) (by kernel_rfl) (by kernel_rfl) ?_
      simp only [List.take_succ_cons, List.take_zero]
      refine wpAnyH_grownD (w0 := V2.drew) (spL _) (relD [] (KeptT 33) [] KeptE) (aliveD []) (ancD []) (spD (n := 7) (m := 7) (l := [fun z _ => z = .pointer (some ⟨W.heap.size, 19, none⟩), fun z _ => z = .slice (some ⟨g, 0, none⟩) B.K.length kc, fun z _ => z = .int .i64 (i : Int), fun z _ => z = .slice (some ⟨b1, o1, none⟩) L.length sc, fun z _ => z = .pointer (some ⟨b1, o1 + 1, none⟩), fun z _ => z = .int .i64 x1, fun z _ => z = .int .u8 x1]) (apps := []) (stab := []) (appsE := []) (stabE := []) ⟨stays_eq _, stays_eq _, stays_eq _, stays_eq _, stays_eq _, stays_eq _, stays_eq _, trivial⟩ trivial trivial rfl (by decide) (by decide)) (by kernel_rfl) (by kernel_rfl) (by kernel_rfl) (by kernel_rfl) ?steps8 ?fin8 rfl
      case steps8 =>
       refine ⟨?_, ?_, ?_, ?_, ?_, ?_, ?_, trivial⟩
       ·intro a' w' hB hdep hoth K hK
        have hK := growB hB hK
        rw [if_pos (guard_none rfl)]
        have hbw : Below V2.heap.size V2 w' := (below_drewN (Below.refl _ _) 1).trans hB
        have t3 := hoth 3 (notDst_at (by kernel_rfl))
        simp only [List.getElem?_toArray, List.getElem?_cons_succ, List.getElem?_cons_zero] at t3
        clear hdep hoth
        go_simp
        exact hK _ _ (Below.refl _ _) rfl
       ·intro a' w' hB hdep hoth K hK
        have hK := growB hB hK
        rw [if_pos (guard_none rfl)]
        have hbw : Below V2.heap.size V2 w' := (below_drewN (Below.refl _ _) 1).trans hB
        obtain ⟨vx0, gx0, ex0⟩ := hdep ⟨0, .data⟩ (by simp) rfl
        have gx0 := gx0 65 rfl (by simp)
        obtain rfl : vx0 = .pointer (some ⟨W.heap.size, 19, none⟩) := ex0
        have cc : w'.cell? ⟨W.heap.size, 19, none⟩ = some (.slice (some ⟨g, 0, none⟩) B.K.length kc) := (HO3.out.below hbw).cell 19 _ rfl
        have lb := (HO3.out.below hbw).lt
        clear hdep hoth
        go_simp
        exact hK _ _ (Below.refl _ _) rfl
       ·intro a' w' hB hdep hoth K hK
        have hK := growB hB hK
        rw [if_pos (guard_none rfl)]
        have hbw : Below V2.heap.size V2 w' := (below_drewN (Below.refl _ _) 1).trans hB
        have t7 := hoth 7 (notDst_at (by kernel_rfl))
        simp only [List.getElem?_toArray, List.getElem?_cons_succ, List.getElem?_cons_zero] at t7
        clear hdep hoth
        go_simp
        exact hK _ _ (Below.refl _ _) rfl
       ·intro a' w' hB hdep hoth K hK
        have hK := growB hB hK
        rw [if_pos (guard_none rfl)]
        have hbw : Below V2.heap.size V2 w' := (below_drewN (Below.refl _ _) 1).trans hB
        have t2 := hoth 2 (notDst_at (by kernel_rfl))
        simp only [List.getElem?_toArray, List.getElem?_cons_succ, List.getElem?_cons_zero] at t2
        clear hdep hoth
        go_simp
        exact hK _ _ (Below.refl _ _) rfl
       ·intro a' w' hB hdep hoth K hK
        have hK := growB hB hK
        rw [if_pos (guard_none rfl)]
        have hbw : Below V2.heap.size V2 w' := (below_drewN (Below.refl _ _) 1).trans hB
        obtain ⟨vx0, gx0, ex0⟩ := hdep ⟨3, .data⟩ (by simp) rfl
        have gx0 := gx0 68 rfl (by simp)
        obtain rfl : vx0 = .slice (some ⟨b1, o1, none⟩) L.length sc := ex0
        clear hdep hoth
        go_simp
        exact hK _ _ (Below.refl _ _) rfl
       ·intro a' w' hB hdep hoth K hK
        have hK := growB hB hK
        rw [if_pos (guard_none rfl)]
        have hbw : Below V2.heap.size V2 w' := (below_drewN (Below.refl _ _) 1).trans hB
        obtain ⟨vx0, gx0, ex0⟩ := hdep ⟨4, .data⟩ (by simp) rfl
        have gx0 := gx0 69 rfl (by simp)
        obtain rfl : vx0 = .pointer (some ⟨b1, o1 + 1, none⟩) := ex0
        have r1 := cell_below P1.out hbw
        have lb1 : b1 < w'.heap.size := Nat.lt_of_lt_of_le LB3.out hbw.size
        clear hdep hoth
        go_simp
        exact hK _ _ (Below.refl _ _) rfl
       ·intro a' w' hB hdep hoth K hK
        have hK := growB hB hK
        rw [if_pos (guard_none rfl)]
        have hbw : Below V2.heap.size V2 w' := (below_drewN (Below.refl _ _) 1).trans hB
        obtain ⟨vx0, gx0, ex0⟩ := hdep ⟨5, .data⟩ (by simp) rfl
        have gx0 := gx0 70 rfl (by simp)
        obtain rfl : vx0 = .int .i64 x1 := ex0
        have hu8 : IntKind.u8.wrap x1 = x1 := by rw [IntKind.wrap_u8]; omega
        clear hdep hoth
        go_simp
        exact hK _ _ (Below.refl _ _) rfl
      case fin8 =>
       intro vs w' hB hs
       have hbw : Below V2.heap.size V2 w' := (below_drewN (Below.refl _ _) 1).trans hB
       have ea : vs 6 = .int .u8 x1 := hs 6 (by decide) (by decide)
       have eb : vs 1 = .slice (some ⟨g, 0, none⟩) B.K.length kc := hs 1 (by decide) (by decide)
       have ec : vs 2 = .int .i64 (i : Int) := hs 2 (by decide) (by decide)
       clear hs
       refine cutQ_held (fun _ => True) (fun f => ?_)
       simp only [actOf, dstAt, if_true, List.getElem?_toArray, List.getElem?_cons_succ, List.getElem?_cons_zero, Option.bind_some, Act.put, List.setIfInBounds_toArray, List.set_cons_zero, List.set_cons_succ, List.length_cons, List.length_nil, Nat.reduceAdd]
       rw [ea, eb, ec]
       have HOw := hid (HO3.out.below hbw)
       obtain ⟨cur2, hcur2, hrow2, hg2⟩ := HOw.out.kfield (HX.out)
       obtain ⟨z0, z1, z2, z3, z4, z5, z6, z7⟩ := rowK hrow2 (HX.out)
       simp only [Nat.zero_add] at z4
       have zf := blk_free hcur2 (i * 8 + 4)
       have HCw := hid hcur2
       clear hrow2 hcur2 z0 z1 z2 z3 z5 z6 z7
       refine wpAnyH_take (i := 7) (v := ?_) rfl (by kernel_rfl) (by kernel_rfl) (by kernel_rfl) (fun _ _ _ h => h) (Or.inl ⟨by rfl, ?_⟩) trivial ?_
       rotate_left
       ·(intro w hSw; (try dsimp only at hSw); go_simp; try with_reducible rfl)
       try simp only [Act.put, List.setIfInBounds_toArray]
       refine wpAnyH_take (i := 8) (v := ?_) rfl (by kernel_rfl) (by kernel_rfl) (by kernel_rfl) (fun _ _ _ h => h) (Or.inl ⟨by rfl, ?_⟩) trivial ?_
       rotate_left
       ·(intro w hSw; (try dsimp only at hSw); go_simp; try with_reducible rfl)
       try simp only [Act.put]
       refine wpAnyH_ready (rs := [9]) (by kernel_rfl) (by simp) ?_
       refine AllReadyH.cons rfl (fun K hK => ?_) AllReadyH.nil
       go_simp
       refine hK.out _ _ trivial (fun _ => ?_)
       clear hK K
       refine wpAnyH_done (by kernel_rfl) ?_ _
       refine wp_namedQ (fun V3 hV => ?_)
       have G2 := hid (show V3.cell? ⟨b1, o1 + 2, none⟩ = some (.int .i64 x2) by rw [hV, World.cell?_setCell_far _ _ _ _ (by dsimp only; have := LG0.out; omega)]; exact cell_below P2.out hbw)
       have LB4 := hid (show b1 < V3.heap.size by rw [hV]; simpa [World.setCell] using Nat.lt_of_lt_of_le LB3.out hbw.size)
       have hkc := HOw.out.kcell (x' := { x with phase := x1 }) (HX.out) 4 (by decide) (.int .u8 x1) rfl
       rw [← hV] at hkc
       have HO4 := hid hkc.1
       have HX4 := hid hkc.2
       have HZ4 := hid (show V3.heap[W.heap.size + 1]? = some (.cells #[.int .i64 0, .int .i64 0, .bool false, .int .i64 0, .int .i64 0, .int .i64 0, .int .i64 0, .int .i64 0, .int .i64 0, .int .i64 0, .int .i64 0, .int .i64 0, .int .i64 0, .int .i64 0, .int .i64 0, .int .i64 0, .bool false, .slice none 0 0, .slice none 0 0, .slice none 0 0, .int .u8 0, .int .i64 0, .int .i64 0, .int .i64 0, .bool false, .int .i64 0, .int .i64 0] 33) by rw [hV]; exact blk_other (blk_below HZ3.out hbw (blk_lt HZ3.out)) (p := ⟨g, i * 8 + 4, none⟩) (by intro e; have h1 := blk_below HZ3.out hbw (blk_lt HZ3.out); have h2 := HCw.out; dsimp only at e; rw [e, h2] at h1; cases h1) _)
       have HK4 := hid (show KeptT 33 W V3 by rw [hV]; exact KeptT.trans (KeptT.trans HK3.out (KeptT.below hbw)) (KeptT.set (p := ⟨g, i * 8 + 4, none⟩) HCw.out (by decide) _))
       clear hkc hV z4 zf hg2 hB hbw ea eb ec
       go_wp2_with fail
       refine wp_region_cut 6 3 (fun _ => True) (by kernel_rfl) (by kernel_rfl) (by kernel_rfl) ?_
       simp only [List.take_succ_cons, List.take_zero]
       refine wpAnyH_grownD (w0 := V3.drew) (spL _) (relD [] (KeptT 33) [] KeptE) (aliveD []) (ancD []) (spD (n := 6) (m := 6) (l := [fun z _ => z = .pointer (some ⟨W.heap.size, 19, none⟩), fun z _ => z = .slice (some ⟨g, 0, none⟩) B.K.length kc, fun z _ => z = .int .i64 (i : Int), fun z _ => z = .slice (some ⟨b1, o1, none⟩) L.length sc, fun z _ => z = .pointer (some ⟨b1, o1 + 2, none⟩), fun z _ => z = .int .i64 x2]) (apps := []) (stab := []) (appsE := []) (stabE := []) ⟨stays_eq _, stays_eq _, stays_eq _, stays_eq _, stays_eq _, stays_eq _, trivial⟩ trivial trivial rfl (by decide) (by decide)) (by kernel_rfl) (by kernel_rfl) (by kernel_rfl) (by kernel_rfl) ?steps9 ?fin9 rfl
       case steps9 =>
        refine ⟨?_, ?_, ?_, ?_, ?_, ?_, trivial⟩
        ·intro a' w' hB hdep hoth K hK
         have hK := growB hB hK
         rw [if_pos (guard_none rfl)]
         have hbw : Below V3.heap.size V3 w' := (below_drewN (Below.refl _ _) 1).trans hB
         have t3 := hoth 3 (notDst_at (by kernel_rfl))
         simp only [List.getElem?_toArray, List.getElem?_cons_succ, List.getElem?_cons_zero] at t3
         clear hdep hoth
         go_simp
         exact hK _ _ (Below.refl _ _) rfl
        ·intro a' w' hB hdep hoth K hK
         have hK := growB hB hK
         rw [if_pos (guard_none rfl)]
         have hbw : Below V3.heap.size V3 w' := (below_drewN (Below.refl _ _) 1).trans hB
         obtain ⟨vx0, gx0, ex0⟩ := hdep ⟨0, .data⟩ (by simp) rfl
         have gx0 := gx0 74 rfl (by simp)
         obtain rfl : vx0 = .pointer (some ⟨W.heap.size, 19, none⟩) := ex0
         have cc : w'.cell? ⟨W.heap.size, 19, none⟩ = some (.slice (some ⟨g, 0, none⟩) B.K.length kc) := (HO4.out.below hbw).cell 19 _ rfl
         have lb := (HO4.out.below hbw).lt
         clear hdep hoth
         go_simp
         exact hK _ _ (Below.refl _ _) rfl
        ·intro a' w' hB hdep hoth K hK
         have hK := growB hB hK
         rw [if_pos (guard_none rfl)]
         have hbw : Below V3.heap.size V3 w' := (below_drewN (Below.refl _ _) 1).trans hB
         have t7 := hoth 7 (notDst_at (by kernel_rfl))
         simp only [List.getElem?_toArray, List.getElem?_cons_succ, List.getElem?_cons_zero] at t7
         clear hdep hoth
         go_simp
         exact hK _ _ (Below.refl _ _) rfl
        ·intro a' w' hB hdep hoth K hK
         have hK := growB hB hK
         rw [if_pos (guard_none rfl)]
         have hbw : Below V3.heap.size V3 w' := (below_drewN (Below.refl _ _) 1).trans hB
         have t2 := hoth 2 (notDst_at (by kernel_rfl))
         simp only [List.getElem?_toArray, List.getElem?_cons_succ, List.getElem?_cons_zero] at t2
         clear hdep hoth
         go_simp
         exact hK _ _ (Below.refl _ _) rfl
        ·intro a' w' hB hdep hoth K hK
         have hK := growB hB hK
         rw [if_pos (guard_none rfl)]
         have hbw : Below V3.heap.size V3 w' := (below_drewN (Below.refl _ _) 1).trans hB
         obtain ⟨vx0, gx0, ex0⟩ := hdep ⟨3, .data⟩ (by simp) rfl
         have gx0 := gx0 77 rfl (by simp)
         obtain rfl : vx0 = .slice (some ⟨b1, o1, none⟩) L.length sc := ex0
         clear hdep hoth
         go_simp
         exact hK _ _ (Below.refl _ _) rfl
        ·intro a' w' hB hdep hoth K hK
         have hK := growB hB hK
         rw [if_pos (guard_none rfl)]
         have hbw : Below V3.heap.size V3 w' := (below_drewN (Below.refl _ _) 1).trans hB
         obtain ⟨vx0, gx0, ex0⟩ := hdep ⟨4, .data⟩ (by simp) rfl
         have gx0 := gx0 78 rfl (by simp)
         obtain rfl : vx0 = .pointer (some ⟨b1, o1 + 2, none⟩) := ex0
         have r2 := cell_below G2.out hbw
         have lb1 : b1 < w'.heap.size := Nat.lt_of_lt_of_le LB4.out hbw.size
         clear hdep hoth
         go_simp
         exact hK _ _ (Below.refl _ _) rfl
       case fin9 =>
        intro vs w' hB hs
        have hbw : Below V3.heap.size V3 w' := (below_drewN (Below.refl _ _) 1).trans hB
        have ea : vs 5 = .int .i64 x2 := hs 5 (by decide) (by decide)
        have eb : vs 1 = .slice (some ⟨g, 0, none⟩) B.K.length kc := hs 1 (by decide) (by decide)
        have ec : vs 2 = .int .i64 (i : Int) := hs 2 (by decide) (by decide)
        clear hs
        refine cutQ_held (fun _ => True) (fun f => ?_)
        simp only [actOf, dstAt, if_true, List.getElem?_toArray, List.getElem?_cons_succ, List.getElem?_cons_zero, Option.bind_some, Act.put, List.setIfInBounds_toArray, List.set_cons_zero, List.set_cons_succ, List.length_cons, List.length_nil, Nat.reduceAdd]
        rw [ea, eb, ec]
        have HOw := hid (HO4.out.below hbw)
        obtain ⟨cur2, hcur2, hrow2, hg2⟩ := HOw.out.kfield (HX4.out)
        obtain ⟨z0, z1, z2, z3, z4, z5, z6, z7⟩ := rowK hrow2 (HX4.out)
        simp only [Nat.zero_add] at z5
        have zf := blk_free hcur2 (i * 8 + 5)
        have HCw := hid hcur2
        clear hrow2 hcur2 z0 z1 z2 z3 z4 z6 z7
        refine wpAnyH_take (i := 6) (v := ?_) rfl (by kernel_rfl) (by kernel_rfl) (by kernel_rfl) (fun _ _ _ h => h) (Or.inl ⟨by rfl, ?_⟩) trivial ?_
        rotate_left
        ·(intro w hSw; (try dsimp only at hSw); go_simp; try with_reducible rfl)
        try simp only [Act.put, List.setIfInBounds_toArray]
        refine wpAnyH_take (i := 7) (v := ?_) rfl (by kernel_rfl) (by kernel_rfl) (by kernel_rfl) (fun _ _ _ h => h) (Or.inl ⟨by rfl, ?_⟩) trivial ?_
        rotate_left
        ·(intro w hSw; (try dsimp only at hSw); go_simp; try with_reducible rfl)
        try simp only [Act.put]
        refine wpAnyH_ready (rs := [8]) (by kernel_rfl) (by simp) ?_
        refine AllReadyH.cons rfl (fun K hK => ?_) AllReadyH.nil
        go_simp
        refine hK.out _ _ trivial (fun _ => ?_)
        clear hK K
        refine wpAnyH_done (by kernel_rfl) ?_ _
        refine wp_namedQ (fun V4 hV => ?_)
        have hkc := HOw.out.kcell (x' := { x with phase := x1, since := x2 }) (HX4.out) 5 (by decide) (.int .i64 x2) rfl
        rw [← hV] at hkc
        have HO5 := hid hkc.1
        have HX5 := hid hkc.2
        have HZ5 := hid (show V4.heap[W.heap.size + 1]? = some (.cells #[.int .i64 0, .int .i64 0, .bool false, .int .i64 0, .int .i64 0, .int .i64 0, .int .i64 0, .int .i64 0, .int .i64 0, .int .i64 0, .int .i64 0, .int .i64 0, .int .i64 0, .int .i64 0, .int .i64 0, .int .i64 0, .bool false, .slice none 0 0, .slice none 0 0, .slice none 0 0, .int .u8 0, .int .i64 0, .int .i64 0, .int .i64 0, .bool false, .int .i64 0, .int .i64 0] 33) by rw [hV]; exact blk_other (blk_below HZ4.out hbw (blk_lt HZ4.out)) (p := ⟨g, i * 8 + 5, none⟩) (by intro e; have h1 := blk_below HZ4.out hbw (blk_lt HZ4.out); have h2 := HCw.out; dsimp only at e; rw [e, h2] at h1; cases h1) _)
        have HK5 := hid (show KeptT 33 W V4 by rw [hV]; exact KeptT.trans (KeptT.trans HK4.out (KeptT.below hbw)) (KeptT.set (p := ⟨g, i * 8 + 5, none⟩) HCw.out (by decide) _))
        clear hkc hV z5 zf hg2 hB hbw ea eb ec
        have HP2 := hid (show V4.heap[W.heap.size]? = some _ from HO5.out.box)
        have cc : V4.cell? ⟨W.heap.size, 19, none⟩ = some (.slice (some ⟨g, 0, none⟩) B.K.length kc) := HO5.out.cell 19 _ rfl
        have lb := HO5.out.lt
        have hiL : (i : Int) < (B.K.length : Int) := by omega
        have HOw := hid (HO5.out)
        obtain ⟨cur2, hcur2, hrow2, hg2⟩ := HOw.out.kfield (HX5.out)
        obtain ⟨z0, z1, z2, z3, z4, z5, z6, z7⟩ := rowK hrow2 (HX5.out)
        simp only [Nat.zero_add] at z7
        have zf := blk_free hcur2 (i * 8 + 7)
        have HCw := hid hcur2
        clear hrow2 hcur2 z0 z1 z2 z3 z4 z5 z6
        go_upto_region 19 with (fail)
        refine wp_named (fun V5 hV => ?_)
        clear HP2 cc lb
        have hkc := HOw.out.kcell (x' := { x with phase := x1, since := x2, complete := false }) (HX5.out) 7 (by decide) (.bool false) rfl
        rw [← hV] at hkc
        have HO6 := hid hkc.1
        have HX6 := hid hkc.2
        have HZ6 := hid (show V5.heap[W.heap.size + 1]? = some (.cells #[.int .i64 0, .int .i64 0, .bool false, .int .i64 0, .int .i64 0, .int .i64 0, .int .i64 0, .int .i64 0, .int .i64 0, .int .i64 0, .int .i64 0, .int .i64 0, .int .i64 0, .int .i64 0, .int .i64 0, .int .i64 0, .bool false, .slice none 0 0, .slice none 0 0, .slice none 0 0, .int .u8 0, .int .i64 0, .int .i64 0, .int .i64 0, .bool false, .int .i64 0, .int .i64 0] 33) by rw [hV]; exact blk_other (HZ5.out) (p := ⟨g, i * 8 + 7, none⟩) (by intro e; have h1 := HZ5.out; have h2 := HCw.out; dsimp only at e; rw [e, h2] at h1; cases h1) _)
        have HK6 := hid (show KeptT 33 W V5 by rw [hV]; exact KeptT.trans (HK5.out) (KeptT.set (p := ⟨g, i * 8 + 7, none⟩) HCw.out (by decide) _))
        clear hkc hV z7 zf hg2
        have HRF := hid (show setK (setK (setK B i { x with phase := x1 }) i { x with phase := x1, since := x2 }) i { x with phase := x1, since := x2, complete := false } = RR by rw [setK_twice, setK_twice, HRX.out]; unfold phaseB; rw [if_pos HLG.out])
        rw [HRF.out] at HO6
        go_upto_region 19 with (fail)
        obtain ⟨hld, X, m', i', k', hst, bb, hend⟩ := ref_end2 (HO6.out) (HZ6.out) (HK6.out) HBW.out
        have HBB := hid bb
        have HEND := hid hend
        clear bb hend
        go_wp2
        refine bodyPost_ret (results_cell_row rfl _ _ (W.heap.size + 1) 33 _ _ _ rfl HBB.out brain_under rfl (brain_size (brT_bc _ _ _ _ _))) rfl ?_
        exact HEND.out
   ·have d1 : decide (x1 < 11) = false := decide_eq_false hx11
    obtain rfl : q = false := by rw [← HLG.out]; unfold legalB; rw [d1]; simp
    obtain rfl : B = RR := by rw [HRX.out]; unfold phaseB; rw [HLG.out]; rfl
    go_upto_region 7 with (fail)
    clear r1 r2 lb1 d0
    refine wp_region_held_drew (S := fun _ => True) (by kernel_rfl) trivial (fun _ => ?_)
    refine wpAnyH_grownG (w0 := V1.drew) (spL [fun z _ => z = .slice (some ⟨b1, o1, none⟩) L.length sc, fun z _ => z = .pointer (some ⟨b1, o1 + 1, none⟩), fun z _ => z = .int .i64 x1, fun z _ => z = .bool false, fun z _ => z = .bool false, fun z _ => z = undef, fun z _ => z = undef, fun z _ => z = undef, fun z _ => z = undef, fun z _ => z = undef, fun z _ => z = undef, fun z _ => z = undef, fun z _ => z = undef, fun z _ => z = undef, fun z _ => z = undef, fun z _ => z = undef, fun z _ => z = .bool false]) (spL_stays ⟨stays_eq _, stays_eq _, stays_eq _, stays_eq _, stays_eq _, stays_eq _, stays_eq _, stays_eq _, stays_eq _, stays_eq _, stays_eq _, stays_eq _, stays_eq _, stays_eq _, stays_eq _, stays_eq _, stays_eq _, trivial⟩) (by kernel_rfl) (by kernel_rfl) ?steps7 ?fin7 rfl
    case steps7 =>
     refine ⟨?_, ?_, ?_, ?_, ?_, ?_, ?_, ?_, ?_, ?_, ?_, ?_, ?_, ?_, ?_, ?_, ?_, trivial⟩
     ·intro a' w' hB hdep hoth K hK
      rw [if_pos (guard_none rfl)]
      have hbw : Below V1.heap.size V1 w' := (below_drewN (Below.refl _ _) 1).trans hB
      have t2 := hoth 2 (notDst_at (by kernel_rfl))
      simp only [List.getElem?_toArray, List.getElem?_cons_succ, List.getElem?_cons_zero] at t2
      clear hdep hoth
      go_simp
      exact hK _ _ (Below.refl _ _) rfl
     ·intro a' w' hB hdep hoth K hK
      rw [if_pos (guard_none rfl)]
      have hbw : Below V1.heap.size V1 w' := (below_drewN (Below.refl _ _) 1).trans hB
      obtain ⟨vx0, gx0, ex0⟩ := hdep ⟨0, .data⟩ (by simp) rfl
      have gx0 := gx0 48 rfl (by simp)
      obtain rfl : vx0 = .slice (some ⟨b1, o1, none⟩) L.length sc := ex0
      clear hdep hoth
      go_simp
      exact hK _ _ (Below.refl _ _) rfl
     ·intro a' w' hB hdep hoth K hK
      rw [if_pos (guard_none rfl)]
      have hbw : Below V1.heap.size V1 w' := (below_drewN (Below.refl _ _) 1).trans hB
      obtain ⟨vx0, gx0, ex0⟩ := hdep ⟨1, .data⟩ (by simp) rfl
      have gx0 := gx0 49 rfl (by simp)
      obtain rfl : vx0 = .pointer (some ⟨b1, o1 + 1, none⟩) := ex0
      have r1 := cell_below S1.out hbw
      have lb1 : b1 < w'.heap.size := Nat.lt_of_lt_of_le LB2.out hbw.size
      clear hdep hoth
      go_simp
      exact hK _ _ (Below.refl _ _) rfl
     ·intro a' w' hB hdep hoth K hK
      rw [if_pos (guard_none rfl)]
      have hbw : Below V1.heap.size V1 w' := (below_drewN (Below.refl _ _) 1).trans hB
      obtain ⟨vx0, gx0, ex0⟩ := hdep ⟨2, .data⟩ (by simp) rfl
      have gx0 := gx0 50 rfl (by simp)
      obtain rfl : vx0 = .int .i64 x1 := ex0
      clear hdep hoth
      go_simp
      exact hK _ _ (Below.refl _ _) rfl
     ·intro a' w' hB hdep hoth K hK
      rw [if_pos (guard_none rfl)]
      have hbw : Below V1.heap.size V1 w' := (below_drewN (Below.refl _ _) 1).trans hB
      obtain ⟨vx0, gx0, ex0⟩ := hdep ⟨3, .data⟩ (by simp) rfl
      have gx0 := gx0 51 rfl (by simp)
      obtain rfl : vx0 = .bool false := ex0
      clear hdep hoth
      go_simp
      exact hK _ _ (Below.refl _ _) rfl
     ·intro a' w' hB hdep hoth K hK
      obtain ⟨vg, gg, eg⟩ := hdep ⟨4, .guard⟩ (by simp) rfl
      have gg := gg 52 rfl (by simp)
      obtain rfl : vg = .bool false := eg
      rw [guard_is rfl rfl gg]
      rw [if_neg (by decide)]
      exact hK _ _ (Below.refl _ _) rfl
     ·intro a' w' hB hdep hoth K hK
      obtain ⟨vg, gg, eg⟩ := hdep ⟨4, .guard⟩ (by simp) rfl
      have gg := gg 52 rfl (by simp)
      obtain rfl : vg = .bool false := eg
      rw [guard_is rfl rfl gg]
      rw [if_neg (by decide)]
      exact hK _ _ (Below.refl _ _) rfl
     ·intro a' w' hB hdep hoth K hK
      obtain ⟨vg, gg, eg⟩ := hdep ⟨4, .guard⟩ (by simp) rfl
      have gg := gg 52 rfl (by simp)
      obtain rfl : vg = .bool false := eg
      rw [guard_is rfl rfl gg]
      rw [if_neg (by decide)]
      exact hK _ _ (Below.refl _ _) rfl
     ·intro a' w' hB hdep hoth K hK
      obtain ⟨vg, gg, eg⟩ := hdep ⟨4, .guard⟩ (by simp) rfl
      have gg := gg 52 rfl (by simp)
      obtain rfl : vg = .bool false := eg
      rw [guard_is rfl rfl gg]
      rw [if_neg (by decide)]
      exact hK _ _ (Below.refl _ _) rfl
     ·intro a' w' hB hdep hoth K hK
      obtain ⟨vg, gg, eg⟩ := hdep ⟨4, .guard⟩ (by simp) rfl
      have gg := gg 52 rfl (by simp)
      obtain rfl : vg = .bool false := eg
      rw [guard_is rfl rfl gg]
      rw [if_neg (by decide)]
      exact hK _ _ (Below.refl _ _) rfl
     ·intro a' w' hB hdep hoth K hK
      obtain ⟨vg, gg, eg⟩ := hdep ⟨4, .guard⟩ (by simp) rfl
      have gg := gg 52 rfl (by simp)
      obtain rfl : vg = .bool false := eg
      rw [guard_is rfl rfl gg]
      rw [if_neg (by decide)]
      exact hK _ _ (Below.refl _ _) rfl
     ·intro a' w' hB hdep hoth K hK
      obtain ⟨vg, gg, eg⟩ := hdep ⟨4, .guard⟩ (by simp) rfl
      have gg := gg 52 rfl (by simp)
      obtain rfl : vg = .bool false := eg
      rw [guard_is rfl rfl gg]
      rw [if_neg (by decide)]
      exact hK _ _ (Below.refl _ _) rfl
     ·intro a' w' hB hdep hoth K hK
      obtain ⟨vg, gg, eg⟩ := hdep ⟨4, .guard⟩ (by simp) rfl
      have gg := gg 52 rfl (by simp)
      obtain rfl : vg = .bool false := eg
      rw [guard_is rfl rfl gg]
      rw [if_neg (by decide)]
      exact hK _ _ (Below.refl _ _) rfl
     ·intro a' w' hB hdep hoth K hK
      obtain ⟨vg, gg, eg⟩ := hdep ⟨4, .guard⟩ (by simp) rfl
      have gg := gg 52 rfl (by simp)
      obtain rfl : vg = .bool false := eg
      rw [guard_is rfl rfl gg]
      rw [if_neg (by decide)]
      exact hK _ _ (Below.refl _ _) rfl
     ·intro a' w' hB hdep hoth K hK
      obtain ⟨vg, gg, eg⟩ := hdep ⟨4, .guard⟩ (by simp) rfl
      have gg := gg 52 rfl (by simp)
      obtain rfl : vg = .bool false := eg
      rw [guard_is rfl rfl gg]
      rw [if_neg (by decide)]
      exact hK _ _ (Below.refl _ _) rfl
     ·intro a' w' hB hdep hoth K hK
      obtain ⟨vg, gg, eg⟩ := hdep ⟨4, .guard⟩ (by simp) rfl
      have gg := gg 52 rfl (by simp)
      obtain rfl : vg = .bool false := eg
      rw [guard_is rfl rfl gg]
      rw [if_neg (by decide)]
      exact hK _ _ (Below.refl _ _) rfl
     ·intro a' w' hB hdep hoth K hK
      rw [if_pos (guard_none rfl)]
      have hbw : Below V1.heap.size V1 w' := (below_drewN (Below.refl _ _) 1).trans hB
      obtain ⟨vx0, gx0, ex0⟩ := hdep ⟨4, .data⟩ (by simp) rfl
      have gx0 := gx0 52 rfl (by simp)
      obtain rfl : vx0 = .bool false := ex0
      clear hdep hoth
      go_simp
      exact hK _ _ (Below.refl _ _) rfl
    case fin7 =>
     intro vs V2 hB hs
     have hbw : Below V1.heap.size V1 V2 := (below_drewN (Below.refl _ _) 1).trans hB
     have ev16 : vs 16 = .bool false := hs 16 (by decide)
     clear hs
     simp only [actOf, dstAt, if_true, List.getElem?_toArray, List.getElem?_cons_succ, List.getElem?_cons_zero, Option.bind_some, Act.put, List.setIfInBounds_toArray, List.set_cons_zero, List.set_cons_succ, List.length_cons, List.length_nil, Nat.reduceAdd]
     rw [ev16]
     clear hB ev16
     have HO3 := hid (HO2.out.below hbw)
     have HZ3 := hid (blk_below HZ2.out hbw (blk_lt HZ2.out))
     have HK3 := hid (KeptT.trans HK2.out (KeptT.below hbw))
     have P1 := hid (cell_below S1.out hbw)
     have P2 := hid (cell_below S2.out hbw)
     have LB3 := hid (Nat.lt_of_lt_of_le LB2.out hbw.size)
     clear hbw
     go_upto_region 19 with (fail)
     obtain ⟨hld, X, m', i', k', hst, bb, hend⟩ := ref_end2 (HO3.out) (HZ3.out) (HK3.out) HBW.out
     have HBB := hid bb
     have HEND := hid hend
     clear bb hend
     go_wp2
     refine bodyPost_ret (results_cell_row rfl _ _ (W.heap.size + 1) 33 _ _ _ rfl HBB.out brain_under rfl (brain_size (brT_bc _ _ _ _ _))) rfl ?_
     exact HEND.out
end
end Go.Proofs.YtgcajfglidflnaaGreatDoor
