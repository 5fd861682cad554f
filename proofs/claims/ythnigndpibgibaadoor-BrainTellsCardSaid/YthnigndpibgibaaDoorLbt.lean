/- BrainTells: brain and reference tell the same. Printed by gn_lbt.py. -/
import Derived.Test.YthnigndpibgibaaDoorRow13
import Derived.Test.YthnigndpibgibaaDoorVd
import Derived.Test.YthnigndpibgibaaDoorRb7
import Derived.Deep.RegionHeld3
import Derived.Deep.RegionLaw
import Derived.BigQuiet
namespace Go.Proofs.YthnigndpibgibaaDoor
open Go.RowKit Go.Shelf
attribute [-go_sem] loadVar storeVar Instr.buildSlice
attribute [local go_sem] load_other store_other

theorem infoR : (Tryd.prog.info? 37).map (fun i => (i.zero, i.size, i.bytes)) = some (some (.agg #[.int .u8 0, .slice none 0 0]), 2, 32) := by kernel_rfl
theorem bs_rec0 (w : World) : (Instr.buildSlice 31 0 #[]).run Tryd.prog w = .ok (.slice (some ⟨w.heap.size, 0, none⟩) 0 0) (w.alloc (.cells #[] 37)) := by kernel_rfl
theorem recs_one {w : World} {R : List RecE} {s : Value} (h : RecsR w R s) : ∀ y ∈ R, ∀ u ∈ encR y, u.oneCell' = true := by
  intro y hy u hu
  obtain ⟨a, c, e, _⟩ := (h.2 y hy).open
  simp only [encR, List.mem_cons, List.not_mem_nil, or_false] at hu
  rcases hu with rfl | rfl
  · rfl
  · rw [e]; rfl
/-- Two brains in a block newly made. -/
def Brs2 (bv cv : Array Value) (v : Value) (w : World) : Prop := ∃ g, v = .slice (some ⟨g, 0, none⟩) 2 2 ∧ w.heap[g]? = some (.cells (bv ++ cv) 30)
theorem stays_brs2 (bv cv : Array Value) : Stays (Brs2 bv cv) := by
  rintro v w w' ⟨g, h1, h2⟩ hb
  exact ⟨g, h1, blk_below h2 hb (blk_lt h2)⟩
theorem stw_brs2 (bv cv : Array Value) : StaysW (KeptT 30) (Brs2 bv cv) := by
  rintro v w w' ⟨g, h1, h2⟩ hb
  exact ⟨g, h1, hb g _ h2⟩
theorem stwE_brs2 (bv cv : Array Value) (hs : (bv ++ cv).size ≠ 0) : StaysW KeptE (Brs2 bv cv) := by
  rintro v w w' ⟨g, h1, h2⟩ hb
  exact ⟨g, h1, hb g _ _ hs h2⟩
theorem Brs2.row {w : World} {B C : BrainV} {cs ds : Array Value} {v : Value} (hr : Brs2 cs ds v w) (h : BrIs w B (.agg cs)) (h' : BrIs w C (.agg ds)) :
    ∃ x y : BrR, x.B = B ∧ y.B = C ∧ BrsR w [x, y] v := by
  obtain ⟨g, rfl, hg⟩ := hr
  obtain ⟨mv, iv, kv, e, h1, h2, h3⟩ := h
  obtain ⟨mv', iv', kv', e', g1, g2, g3⟩ := h'
  cases e
  cases e'
  have hcells : (([(⟨B, mv, iv, kv⟩ : BrR), ⟨C, mv', iv', kv'⟩].flatMap encB).toArray) = brT B.f B.g mv iv kv ++ brT C.f C.g mv' iv' kv' := by
    simp only [List.flatMap_cons, List.flatMap_nil, encB]
    exact arr_app _ _
  refine ⟨⟨B, mv, iv, kv⟩, ⟨C, mv', iv', kv'⟩, rfl, rfl, row_blk (l := [(⟨B, mv, iv, kv⟩ : BrR), ⟨C, mv', iv', kv'⟩]) encB_len (by rw [hcells]; exact hg) (by simp) (show 2 ≤ maxLen by decide), ?_⟩
  intro x hx
  simp only [List.mem_cons, List.not_mem_nil, or_false] at hx
  rcases hx with rfl | rfl
  · exact ⟨h1, h2, h3⟩
  · exact ⟨g1, g2, g3⟩
theorem bs_recB (k : Int) (a : Option Addr) (n c : Nat) (w : World) : (Instr.buildSlice 31 1 #[(0, .agg #[.int .u8 k, .slice a n c])]).run Tryd.prog w = .ok (.slice (some ⟨w.heap.size, 0, none⟩) 1 1) (w.alloc (.cells #[.int .u8 k, .slice a n c] 37)) := by kernel_rfl
/-- What great says of a row and of two brains. -/
def GreatQ (R : List RecE) (B C : BrainV) (v : Value) (_ : World) : Prop := ∃ q : Bool, v = .bool q ∧ (q = false → R.length ≤ 60 ∧ (∀ r ∈ R, r.L.length ≤ 40) ∧ greatB B = false ∧ greatB C = false)
theorem stays_greatQ (R : List RecE) (B C : BrainV) : Stays (GreatQ R B C) := fun _ _ _ h _ => h
set_option maxRecDepth 100000 in
set_option maxHeartbeats 8000000 in
theorem tells_law (B C : BrainV) (bu cu s t : Value) (k : Int) (L : List Int) (R : List RecE) (n0 : Int) (w : World) (hB : BrIs w B bu) (hD : BrIs w C cu) (hs : RowOf 1 encI w s L) (hR : RecsR w R t) (hph : ∀ x ∈ B.K, in8 x.phase) (hreach : R.length * 32 ≤ 140737488351232) (hC : Changes w) (hLm : Limits w) :
    Calls Tryd.prog 8 #[bu, cu, recV k s, t, .int .i64 n0] w fun e w' => e = .returned (.bool true) ∧ Below w.heap.size w w' := by
  obtain ⟨r0, hr0, hr1, hr2, hr3⟩ := info_parts infoR
  have HI0 := hid hr0
  have HI1 := hid hr1
  have HI2 := hid hr2
  have HI3 := hid hr3
  have hb0 := bs_rec0
  clear hr0 hr1 hr2 hr3
  obtain ⟨sa, sc, rfl, p1, p2, p3, _⟩ := hs.open
  obtain ⟨ta, tc, rfl, t1, t2, t3, _⟩ := hR.1.open
  obtain ⟨ma, mc, ia, ic, ka, kc, rfl, hm, hi, hk⟩ := hB.open
  obtain ⟨ma', mc', ia', ic', ka', kc', rfl, hm', hi', hk'⟩ := hD.open
  have HR := hid hR
  have HRCH := hid hreach
  have HPH := hid hph
  clear hreach hph
  have HS := hid hs
  have HC := hid hC
  have HL := hid hLm
  obtain ⟨bv, hbv⟩ : ∃ bv, bv = brT B.f B.g (.slice ma B.M.length mc) (.slice ia B.I.length ic) (.slice ka B.K.length kc) := ⟨_, rfl⟩
  obtain ⟨cv, hcv⟩ : ∃ cv, cv = brT C.f C.g (.slice ma' C.M.length mc') (.slice ia' C.I.length ic') (.slice ka' C.K.length kc') := ⟨_, rfl⟩
  obtain ⟨W1, hW1⟩ : ∃ W1, W1 = ((w.alloc (.cells bv 30)).alloc (.cells cv 30)).alloc (.cells #[.int .u8 k, .slice sa L.length sc] 37) := ⟨_, rfl⟩
  have hb1 : Below w.heap.size w W1 := by rw [hW1]; exact (((Below.refl _ _).alloc (Nat.le_refl _) _).alloc (by simp) _).alloc (by simp; omega) _
  have n1 : BB W1 w.heap.size bv := by rw [hW1]; exact blk_alloc (blk_alloc (heap_new _ _) _) _
  have n2 : BB W1 (w.heap.size + 1) cv := by rw [hW1]; exact blk_alloc (heap_new2 _ _ _) _
  have r1 : W1.heap[w.heap.size + 2]? = some (.cells #[.int .u8 k, .slice sa L.length sc] 37) := by
    rw [hW1]
    have := heap_new ((w.alloc (.cells bv 30)).alloc (.cells cv 30)) (.cells #[.int .u8 k, .slice sa L.length sc] 37)
    simpa using this
  have hV1 : VarIs W1 w.heap.size B (.agg bv) := by rw [hbv] at n1 ⊢; exact ⟨_, _, _, rfl, n1, hm.below hb1, hi.below hb1, hk.below hb1⟩
  have hU1 : VarIs W1 (w.heap.size + 1) C (.agg cv) := by rw [hcv] at n2 ⊢; exact ⟨_, _, _, rfl, n2, hm'.below hb1, hi'.below hb1, hk'.below hb1⟩
  have HSZB := hid (show (bv ++ cv).size ≠ 0 by rw [hbv]; simp [brT])
  have HB1 := hid hb1
  have HV1 := hid hV1
  have HU1 := hid hU1
  have HR1 := hid r1
  have HW1 := hid hW1
  have HBV := hid hbv
  have HCV := hid hcv
  have hbs := bs_brain2 B.f C.f B.g C.g (.slice ma B.M.length mc) (.slice ia B.I.length ic) (.slice ka B.K.length kc) (.slice ma' C.M.length mc') (.slice ia' C.I.length ic') (.slice ka' C.K.length kc')
  rw [← hbv, ← hcv] at hbs
  rw [← hbv, ← hcv]
  clear hB hD hR hs hC hLm hm hi hk hm' hi' hk' hb1 n1 n2 r1 hV1 hU1 hbv hcv hW1
  unfold recV
  go_enter Tryd.func8, Tryd.ntmps8
  go_upto_region 1 with (fail)
  rw [← HW1.out]
  refine wp_region_held_drew (S := fun _ => True) (by kernel_rfl) trivial (fun _ => ?_)
  refine wpAnyH_grownD (w0 := W1.drew) (spL _) (relD [5] (KeptT 30) [2] KeptE) (aliveD [(2, 0), (5, 2), (5, 4)]) (ancD [(2, 5), (2, 9), (5, 9)]) (spD (n := 10) (m := 10) (l := [NewRow 37 W1.heap.size, fun z _ => z = .slice ta R.length tc, fun v w => Owns 2 37 encR w W1.heap.size v ([] ++ R), fun z _ => z = .agg #[.int .u8 k, .slice sa L.length sc], NewOne 37 (encR ⟨k, .slice sa L.length sc, L⟩) W1.heap.size, fun v w => Owns 2 37 encR w W1.heap.size v ([] ++ R ++ [⟨k, .slice sa L.length sc, L⟩]), fun z _ => z = (.agg bv), fun z _ => z = (.agg cv), Brs2 bv cv, GreatQ (R ++ [⟨k, .slice sa L.length sc, L⟩]) B C]) (apps := [5]) (stab := [1, 3, 6, 7, 8]) (appsE := [2]) (stabE := [1, 3, 4, 6, 7, 8]) ⟨stays_newRow _ _, stays_eq _, stays_owns 2 _ encR _ _, stays_eq _, stays_newOne _ _ _, stays_owns 2 _ encR _ _, stays_eq _, stays_eq _, stays_brs2 _ _, stays_greatQ _ _ _, trivial⟩ ⟨stw_eq _ _, stw_eq _ _, stw_eq _ _, stw_eq _ _, stw_brs2 _ _, trivial⟩ ⟨stw_eq _ _, stw_eq _ _, stwE_newOne _ _ _ (by simp [encR]), stw_eq _ _, stw_eq _ _, stwE_brs2 _ _ HSZB.out, trivial⟩ rfl (by decide) (by decide)) (by kernel_rfl) (by kernel_rfl) (by kernel_rfl) (by kernel_rfl) ?steps1 ?fin1 rfl
  case steps1 =>
    refine ⟨?_, ?_, ?_, ?_, ?_, ?_, ?_, ?_, ?_, ?_, trivial⟩
    · intro a' w' hB hdep hoth K hK
      have hK := growB hB hK
      rw [if_pos (guard_none rfl)]
      have hbw : Below W1.heap.size W1 w' := (below_drewN (Below.refl _ _) 1).trans hB
      clear hdep hoth
      go_simp
      exact hK _ _ ((Below.refl _ _).alloc (Nat.le_refl _) _) ⟨_, rfl, hbw.size, heap_new _ _⟩
    · intro a' w' hB hdep hoth K hK
      have hK := growB hB hK
      rw [if_pos (guard_none rfl)]
      have hbw : Below W1.heap.size W1 w' := (below_drewN (Below.refl _ _) 1).trans hB
      have t3 := hoth 3 (notDst_at (by kernel_rfl))
      simp only [List.getElem?_toArray, List.getElem?_cons_succ, List.getElem?_cons_zero] at t3
      clear hdep hoth
      go_simp
      exact hK _ _ (Below.refl _ _) rfl
    · intro a' w' hB hdep hoth K hK
      have hbw : Below W1.heap.size W1 w' := (below_drewN (Below.refl _ _) 1).trans hB
      obtain ⟨vO, gO, eO⟩ := hdep ⟨0, .data⟩ (by simp) rfl
      have gO := gO 11 rfl (by simp)
      obtain ⟨vx, gx, ex⟩ := hdep ⟨1, .data⟩ (by simp) rfl
      have gx := gx 12 rfl (by simp)
      obtain rfl : vx = .slice ta R.length tc := ex
      obtain ⟨g, rfl, hg1, hg0⟩ := eO
      have eO : Owns 2 37 encR w' W1.heap.size (.slice (some ⟨g, 0, none⟩) 0 0) ([] : List RecE) := newRow_owns hg1 hg0
      have hrx := HR.out.below (HB1.out.trans (hbw.mono HB1.out.size))
      refine step_append_row rfl _ _ 31 rfl W1.heap.size 37 r0 _ 32 Tryd.underlying31 HI0.out HI1.out HI2.out HI3.out rfl (by decide) (fun _ => rfl) (.slice (some ⟨g, 0, none⟩) 0 0) ([]) (by simp [Act.eval, gO]) eO (.slice ta R.length tc) (R) (by simp [Act.eval, gx]) (recs_one hrx) hrx.1 (by have := HRCH.out; unfold maxLen; simp; omega) (by have := HRCH.out; simp; omega) hbw.size ?_
      intro v' w'' hown hbb hgr
      exact hK v' w'' (hB.trans hbb) (keptE_of hgr hg0) hown
    · intro a' w' hB hdep hoth K hK
      have hK := growB hB hK
      rw [if_pos (guard_none rfl)]
      have hbw : Below W1.heap.size W1 w' := (below_drewN (Below.refl _ _) 1).trans hB
      have t7 := hoth 7 (notDst_at (by kernel_rfl))
      simp only [List.getElem?_toArray, List.getElem?_cons_succ, List.getElem?_cons_zero] at t7
      have hr5 := blk_below HR1.out hbw (blk_lt HR1.out)
      have x0 : w'.cell? ⟨w.heap.size + 2, 0, none⟩ = some (.int .u8 k) := blk_cell hr5 0
      have x1 : w'.cell? ⟨w.heap.size + 2, 1, none⟩ = some (.slice sa L.length sc) := blk_cell hr5 1
      have lx := blk_lt hr5
      clear hr5
      clear hdep hoth
      go_simp
      exact hK _ _ (Below.refl _ _) rfl
    · intro a' w' hB hdep hoth K hK
      have hK := growB hB hK
      rw [if_pos (guard_none rfl)]
      have hbw : Below W1.heap.size W1 w' := (below_drewN (Below.refl _ _) 1).trans hB
      obtain ⟨v0, q0, e0⟩ := hdep ⟨3, .data⟩ (by simp) rfl
      have q0 := q0 14 rfl (by simp)
      obtain rfl : v0 = .agg #[.int .u8 k, .slice sa L.length sc] := e0
      have hbr := bs_recB k sa L.length sc
      clear hdep hoth
      go_simp
      exact hK _ _ ((Below.refl _ _).alloc (Nat.le_refl _) _) ⟨_, rfl, hbw.size, heap_new _ _⟩
    · intro a' w' hB hdep hoth K hK
      have hbw : Below W1.heap.size W1 w' := (below_drewN (Below.refl _ _) 1).trans hB
      obtain ⟨vO, gO, eO⟩ := hdep ⟨2, .data⟩ (by simp) rfl
      have gO := gO 13 rfl (by simp)
      obtain ⟨vx, gx, ex⟩ := hdep ⟨4, .data⟩ (by simp) rfl
      have gx := gx 15 rfl (by simp)
      have ex : RecsR w' [⟨k, .slice sa L.length sc, L⟩] vx := ⟨newOne_row (fun _ => rfl) ex, fun r hr => by simp only [List.mem_singleton] at hr; rw [hr]; exact HS.out.below (HB1.out.trans (hbw.mono HB1.out.size))⟩
      have eO : Owns 2 37 encR w' W1.heap.size vO ([] ++ R) := eO
      refine step_append_row rfl _ _ 31 rfl W1.heap.size 37 r0 _ 32 Tryd.underlying31 HI0.out HI1.out HI2.out HI3.out rfl (by decide) (fun _ => rfl) vO ([] ++ R) (by simp [Act.eval, gO]) eO (vx) ([⟨k, .slice sa L.length sc, L⟩]) (by simp [Act.eval, gx]) (recs_one ex) ex.1 (by have := HRCH.out; unfold maxLen; simp; omega) (by have := HRCH.out; simp; omega) hbw.size ?_
      intro v' w'' hown hbb hgr
      exact hK v' w'' (hB.trans hbb) (KeptT.grown hgr (fun r e => Owns.typed eO r e) (by decide)) hown
    · intro a' w' hB hdep hoth K hK
      have hK := growB hB hK
      rw [if_pos (guard_none rfl)]
      have hbw : Below W1.heap.size W1 w' := (below_drewN (Below.refl _ _) 1).trans hB
      have t5 := hoth 5 (notDst_at (by kernel_rfl))
      simp only [List.getElem?_toArray, List.getElem?_cons_succ, List.getElem?_cons_zero] at t5
      have hld := (HV1.out.below hbw).load
      clear hdep hoth
      go_simp
      exact hK _ _ (Below.refl _ _) rfl
    · intro a' w' hB hdep hoth K hK
      have hK := growB hB hK
      rw [if_pos (guard_none rfl)]
      have hbw : Below W1.heap.size W1 w' := (below_drewN (Below.refl _ _) 1).trans hB
      have t6 := hoth 6 (notDst_at (by kernel_rfl))
      simp only [List.getElem?_toArray, List.getElem?_cons_succ, List.getElem?_cons_zero] at t6
      have hld := (HU1.out.below hbw).load
      clear hdep hoth
      go_simp
      exact hK _ _ (Below.refl _ _) rfl
    · intro a' w' hB hdep hoth K hK
      have hK := growB hB hK
      rw [if_pos (guard_none rfl)]
      have hbw : Below W1.heap.size W1 w' := (below_drewN (Below.refl _ _) 1).trans hB
      obtain ⟨v0, q0, e0⟩ := hdep ⟨6, .data⟩ (by simp) rfl
      have q0 := q0 17 rfl (by simp)
      obtain rfl : v0 = .agg bv := e0
      obtain ⟨v1, q1, e1⟩ := hdep ⟨7, .data⟩ (by simp) rfl
      have q1 := q1 18 rfl (by simp)
      obtain rfl : v1 = .agg cv := e1
      clear hdep hoth
      go_simp
      exact hK _ _ ((Below.refl _ _).alloc (Nat.le_refl _) _) ⟨_, rfl, heap_new _ _⟩
    · intro a' w' hB hdep hoth K hK
      have hK := growB hB hK
      rw [if_pos (guard_none rfl)]
      have hbw : Below W1.heap.size W1 w' := (below_drewN (Below.refl _ _) 1).trans hB
      obtain ⟨v0, q0, e0⟩ := hdep ⟨5, .data⟩ (by simp) rfl
      have q0 := q0 16 rfl (by simp)
      have e0 : Owns 2 37 encR w' W1.heap.size v0 (R ++ [⟨k, .slice sa L.length sc, L⟩]) := e0
      obtain ⟨v1, q1, e1⟩ := hdep ⟨8, .data⟩ (by simp) rfl
      have q1 := q1 19 rfl (by simp)
      obtain ⟨x, y, e2, e3, e4⟩ := Brs2.row e1 (HV1.out.below hbw).is (HU1.out.below hbw).is
      have hbq := HB1.out.trans (hbw.mono HB1.out.size)
      have hrs : RecsR w' (R ++ [⟨k, .slice sa L.length sc, L⟩]) v0 := ⟨e0.row (fun _ => rfl) (by decide), fun r hr => (List.mem_append.1 hr).elim ((HR.out.below hbq).2 r) (fun h => by simp only [List.mem_singleton] at h; rw [h]; exact HS.out.below hbq)⟩
      have HA := hid (great13_any v0 v1 _ [x, y] _ hrs e4)
      have HXY := hid (And.intro e2 e3)
      clear hdep hoth e0 e2 e3 e4 hrs
      go_simp
      refine HA.out.mono ?_
      rintro e w'' ⟨q, rfl, hq, hb⟩
      refine hK _ _ hb ⟨q, rfl, fun h => ?_⟩
      obtain ⟨g1, g2, g3⟩ := hq h
      exact ⟨g1, g2, by rw [← HXY.out.1]; exact g3 x (by simp), by rw [← HXY.out.2]; exact g3 y (by simp)⟩
  case fin1 =>
    intro vs V hB hs
    have hbw : Below W1.heap.size W1 V := (below_drewN (Below.refl _ _) 1).trans hB
    obtain ⟨q, e9, hq⟩ := hs 9 (by decide) (by decide)
    clear hs
    simp only [actOf, dstAt, if_true, List.getElem?_toArray, List.getElem?_cons_succ, List.getElem?_cons_zero, Option.bind_some, Act.put, List.setIfInBounds_toArray, List.set_cons_zero, List.set_cons_succ, List.length_cons, List.length_nil, Nat.reduceAdd]
    rw [e9]
    have HQ := hid hq
    have HBV := hid (HB1.out.trans (hbw.mono HB1.out.size))
    have HV2 := hid (HV1.out.below hbw)
    have HU2 := hid (HU1.out.below hbw)
    have HR2 := hid (blk_below HR1.out hbw (blk_lt HR1.out))
    clear hB hbw e9 hq
    cases q with
    | true =>
      go_wp2_with fail
      refine (wakes_any V (HC.out.below HBV.out) (HL.out.below HBV.out)).mono ?_
      rintro e Ww ⟨rfl, hb⟩
      have HBw := hid (HBV.out.trans (hb.mono HBV.out.size))
      clear hb
      go_wp2
      go_ret
      exact ⟨rfl, HBw.out⟩
    | false =>
      obtain ⟨hl60, hl40, hgB, hgC⟩ := HQ.out rfl
      have HR59 := hid (show R.length ≤ 59 by simp at hl60; omega)
      have HR40 := hid (show ∀ x ∈ R, x.L.length ≤ 40 from fun x hx => hl40 x (List.mem_append_left _ hx))
      have HL40 := hid (show L.length ≤ 40 from hl40 _ (List.mem_append_right _ (List.mem_singleton.2 rfl)))
      have hgb : B.I.length ≤ 40 ∧ B.K.length ≤ 40 ∧ B.M.length ≤ 40 := by
        unfold greatB at hgB
        simp only [Bool.or_eq_false_iff, decide_eq_false_iff_not] at hgB
        omega
      have HGB := hid hgb
      have HFI := hid (show Fine B 40 from ⟨HGB.out.1, HGB.out.2.1, HPH.out⟩)
      clear hl60 hl40 hgB hgC hgb HQ
      go_upto_region 3 with (fail)
      refine wp_region_held_drew (S := fun _ => True) (by kernel_rfl) trivial (fun _ => ?_)
      refine wpAnyH_grownG (w0 := V.drew) (spL [fun z _ => z = (.agg bv), fun z _ => z = .agg #[.int .u8 k, .slice sa L.length sc], fun z w => BrEnd V (applyB B k (L)) z w, fun z _ => z = (.agg bv), fun z _ => z = .agg #[.int .u8 k, .slice sa L.length sc], fun z w => BrEnd V (applyB B k (L)) z w, fun z _ => z = .bool true, fun z _ => z = .bool false, fun z _ => z = .bool false, fun z _ => z = (.agg bv), fun z _ => z = .slice ta R.length tc, fun z w => BrEnd V (applyAll B R) z w, fun z _ => z = (.agg bv), fun z _ => z = .slice ta R.length tc, fun z w => BrEnd V (applyAll B R) z w, fun z _ => z = .bool true, fun z _ => z = .bool false, fun z _ => z = .bool false, fun z _ => z = .bool false, fun z _ => z = (.agg bv), fun z w => BrEnd V B z w, fun z _ => z = (.agg bv), fun z _ => z = .bool true, fun z _ => z = .bool false, fun z _ => z = .bool false]) (spL_stays ⟨stays_eq _, stays_eq _, stays_brEnd _ _, stays_eq _, stays_eq _, stays_brEnd _ _, stays_eq _, stays_eq _, stays_eq _, stays_eq _, stays_eq _, stays_brEnd _ _, stays_eq _, stays_eq _, stays_brEnd _ _, stays_eq _, stays_eq _, stays_eq _, stays_eq _, stays_eq _, stays_brEnd _ _, stays_eq _, stays_eq _, stays_eq _, stays_eq _, trivial⟩) (by kernel_rfl) (by kernel_rfl) ?steps3 ?fin3 rfl
      case steps3 =>
        refine ⟨?_, ?_, ?_, ?_, ?_, ?_, ?_, ?_, ?_, ?_, ?_, ?_, ?_, ?_, ?_, ?_, ?_, ?_, ?_, ?_, ?_, ?_, ?_, ?_, ?_, trivial⟩
        · intro a' w' hB hdep hoth K hK
          rw [if_pos (guard_none rfl)]
          have hbw : Below V.heap.size V w' := (below_drewN (Below.refl _ _) 1).trans hB
          have t5 := hoth 5 (notDst_at (by kernel_rfl))
          simp only [List.getElem?_toArray, List.getElem?_cons_succ, List.getElem?_cons_zero] at t5
          have hld := (HV2.out.below hbw).load
          clear hdep hoth
          go_simp
          exact hK _ _ (Below.refl _ _) rfl
        · intro a' w' hB hdep hoth K hK
          rw [if_pos (guard_none rfl)]
          have hbw : Below V.heap.size V w' := (below_drewN (Below.refl _ _) 1).trans hB
          have t7 := hoth 7 (notDst_at (by kernel_rfl))
          simp only [List.getElem?_toArray, List.getElem?_cons_succ, List.getElem?_cons_zero] at t7
          have hr5 := blk_below HR2.out hbw (blk_lt HR2.out)
          have x0 : w'.cell? ⟨w.heap.size + 2, 0, none⟩ = some (.int .u8 k) := blk_cell hr5 0
          have x1 : w'.cell? ⟨w.heap.size + 2, 1, none⟩ = some (.slice sa L.length sc) := blk_cell hr5 1
          have lx := blk_lt hr5
          clear hr5
          clear hdep hoth
          go_simp
          exact hK _ _ (Below.refl _ _) rfl
        · intro a' w' hB hdep hoth K hK
          rw [if_pos (guard_none rfl)]
          have hbw : Below V.heap.size V w' := (below_drewN (Below.refl _ _) 1).trans hB
          obtain ⟨v0, g0, e0⟩ := hdep ⟨0, .data⟩ (by simp) rfl
          have g0 := g0 22 rfl (by simp)
          obtain rfl : v0 = (.agg bv) := e0
          obtain ⟨v1, g1, e1⟩ := hdep ⟨1, .data⟩ (by simp) rfl
          have g1 := g1 23 rfl (by simp)
          obtain rfl : v1 = .agg #[.int .u8 k, .slice sa L.length sc] := e1
          have HA := hid (apply_is k L 40 (HV2.out.below hbw).is ⟨_, rfl, HS.out.below (HBV.out.trans (hbw.mono HBV.out.size))⟩ HFI.out (by omega) (by have := HGB.out.2.2; omega) (by have := HL40.out; omega) (HC.out.below (HBV.out.trans (hbw.mono HBV.out.size))) (HL.out.below (HBV.out.trans (hbw.mono HBV.out.size))))
          clear hdep hoth
          go_simp
          refine HA.out.mono ?_
          rintro e w'' ⟨v, rfl, he, hb⟩
          exact hK v _ hb (he.base hbw.size)
        · intro a' w' hB hdep hoth K hK
          rw [if_pos (guard_none rfl)]
          have hbw : Below V.heap.size V w' := (below_drewN (Below.refl _ _) 1).trans hB
          have t5 := hoth 5 (notDst_at (by kernel_rfl))
          simp only [List.getElem?_toArray, List.getElem?_cons_succ, List.getElem?_cons_zero] at t5
          have hld := (HV2.out.below hbw).load
          clear hdep hoth
          go_simp
          exact hK _ _ (Below.refl _ _) rfl
        · intro a' w' hB hdep hoth K hK
          rw [if_pos (guard_none rfl)]
          have hbw : Below V.heap.size V w' := (below_drewN (Below.refl _ _) 1).trans hB
          have t7 := hoth 7 (notDst_at (by kernel_rfl))
          simp only [List.getElem?_toArray, List.getElem?_cons_succ, List.getElem?_cons_zero] at t7
          have hr5 := blk_below HR2.out hbw (blk_lt HR2.out)
          have x0 : w'.cell? ⟨w.heap.size + 2, 0, none⟩ = some (.int .u8 k) := blk_cell hr5 0
          have x1 : w'.cell? ⟨w.heap.size + 2, 1, none⟩ = some (.slice sa L.length sc) := blk_cell hr5 1
          have lx := blk_lt hr5
          clear hr5
          clear hdep hoth
          go_simp
          exact hK _ _ (Below.refl _ _) rfl
        · intro a' w' hB hdep hoth K hK
          rw [if_pos (guard_none rfl)]
          have hbw : Below V.heap.size V w' := (below_drewN (Below.refl _ _) 1).trans hB
          obtain ⟨v0, g0, e0⟩ := hdep ⟨3, .data⟩ (by simp) rfl
          have g0 := g0 25 rfl (by simp)
          obtain rfl : v0 = (.agg bv) := e0
          obtain ⟨v1, g1, e1⟩ := hdep ⟨4, .data⟩ (by simp) rfl
          have g1 := g1 26 rfl (by simp)
          obtain rfl : v1 = .agg #[.int .u8 k, .slice sa L.length sc] := e1
          have HA := hid (rapply_is k L 40 (HV2.out.below hbw).is ⟨_, rfl, HS.out.below (HBV.out.trans (hbw.mono HBV.out.size))⟩ HFI.out (by omega) (by have := HGB.out.2.2; omega) (by have := HL40.out; omega))
          clear hdep hoth
          go_simp
          refine HA.out.mono ?_
          rintro e w'' ⟨v, rfl, he, hb⟩
          exact hK v _ hb (he.base hbw.size)
        · intro a' w' hB hdep hoth K hK
          rw [if_pos (guard_none rfl)]
          have hbw : Below V.heap.size V w' := (below_drewN (Below.refl _ _) 1).trans hB
          obtain ⟨v0, q0, e0⟩ := hdep ⟨2, .data⟩ (by simp) rfl
          have q0 := q0 24 rfl (by simp)
          have e0 : BrEnd V (applyB B k L) v0 w' := e0
          obtain ⟨v1, q1, e1⟩ := hdep ⟨5, .data⟩ (by simp) rfl
          have q1 := q1 27 rfl (by simp)
          have e1 : BrEnd V (applyB B k L) v1 w' := e1
          have HA := hid (rsame_is true (sameB_refl (applyB B k L)) e0.is e1.is)
          clear hdep hoth e0 e1
          go_simp
          refine HA.out.mono ?_
          rintro e w'' ⟨rfl, hb⟩
          exact hK _ _ hb rfl
        · intro a' w' hB hdep hoth K hK
          rw [if_pos (guard_none rfl)]
          have hbw : Below V.heap.size V w' := (below_drewN (Below.refl _ _) 1).trans hB
          obtain ⟨vx0, gx0, ex0⟩ := hdep ⟨6, .data⟩ (by simp) rfl
          have gx0 := gx0 28 rfl (by simp)
          obtain rfl : vx0 = .bool true := ex0
          clear hdep hoth
          go_simp
          exact hK _ _ (Below.refl _ _) rfl
        · intro a' w' hB hdep hoth K hK
          rw [if_pos (guard_none rfl)]
          have hbw : Below V.heap.size V w' := (below_drewN (Below.refl _ _) 1).trans hB
          obtain ⟨vx0, gx0, ex0⟩ := hdep ⟨7, .data⟩ (by simp) rfl
          have gx0 := gx0 29 rfl (by simp)
          obtain rfl : vx0 = .bool false := ex0
          clear hdep hoth
          go_simp
          exact hK _ _ (Below.refl _ _) rfl
        · intro a' w' hB hdep hoth K hK
          obtain ⟨vg, gg, eg⟩ := hdep ⟨8, .guard⟩ (by simp) rfl
          have gg := gg 30 rfl (by simp)
          obtain rfl : vg = .bool false := eg
          rw [guard_is rfl rfl gg]
          rw [if_pos (by decide)]
          have hbw : Below V.heap.size V w' := (below_drewN (Below.refl _ _) 1).trans hB
          have t5 := hoth 5 (notDst_at (by kernel_rfl))
          simp only [List.getElem?_toArray, List.getElem?_cons_succ, List.getElem?_cons_zero] at t5
          have hld := (HV2.out.below hbw).load
          clear hdep hoth
          go_simp
          exact hK _ _ (Below.refl _ _) rfl
        · intro a' w' hB hdep hoth K hK
          obtain ⟨vg, gg, eg⟩ := hdep ⟨8, .guard⟩ (by simp) rfl
          have gg := gg 30 rfl (by simp)
          obtain rfl : vg = .bool false := eg
          rw [guard_is rfl rfl gg]
          rw [if_pos (by decide)]
          have hbw : Below V.heap.size V w' := (below_drewN (Below.refl _ _) 1).trans hB
          have t3 := hoth 3 (notDst_at (by kernel_rfl))
          simp only [List.getElem?_toArray, List.getElem?_cons_succ, List.getElem?_cons_zero] at t3
          clear hdep hoth
          go_simp
          exact hK _ _ (Below.refl _ _) rfl
        · intro a' w' hB hdep hoth K hK
          obtain ⟨vg, gg, eg⟩ := hdep ⟨8, .guard⟩ (by simp) rfl
          have gg := gg 30 rfl (by simp)
          obtain rfl : vg = .bool false := eg
          rw [guard_is rfl rfl gg]
          rw [if_pos (by decide)]
          have hbw : Below V.heap.size V w' := (below_drewN (Below.refl _ _) 1).trans hB
          obtain ⟨v0, g0, e0⟩ := hdep ⟨9, .data⟩ (by simp) rfl
          have g0 := g0 31 rfl (by simp)
          obtain rfl : v0 = (.agg bv) := e0
          obtain ⟨v1, g1, e1⟩ := hdep ⟨10, .data⟩ (by simp) rfl
          have g1 := g1 32 rfl (by simp)
          obtain rfl : v1 = .slice ta R.length tc := e1
          have HA := hid (all_is R 40 (HV2.out.below hbw).is (HR.out.below (HBV.out.trans (hbw.mono HBV.out.size))) HFI.out (by have := HR59.out; omega) (by have := HGB.out.2.2; omega) (fun x hx => Nat.le_trans (HR40.out x hx) (by omega)) (HC.out.below (HBV.out.trans (hbw.mono HBV.out.size))) (HL.out.below (HBV.out.trans (hbw.mono HBV.out.size))))
          clear hdep hoth
          go_simp
          refine HA.out.mono ?_
          rintro e w'' ⟨v, rfl, he, hb⟩
          exact hK v _ hb (he.base hbw.size)
        · intro a' w' hB hdep hoth K hK
          obtain ⟨vg, gg, eg⟩ := hdep ⟨8, .guard⟩ (by simp) rfl
          have gg := gg 30 rfl (by simp)
          obtain rfl : vg = .bool false := eg
          rw [guard_is rfl rfl gg]
          rw [if_pos (by decide)]
          have hbw : Below V.heap.size V w' := (below_drewN (Below.refl _ _) 1).trans hB
          have t5 := hoth 5 (notDst_at (by kernel_rfl))
          simp only [List.getElem?_toArray, List.getElem?_cons_succ, List.getElem?_cons_zero] at t5
          have hld := (HV2.out.below hbw).load
          clear hdep hoth
          go_simp
          exact hK _ _ (Below.refl _ _) rfl
        · intro a' w' hB hdep hoth K hK
          obtain ⟨vg, gg, eg⟩ := hdep ⟨8, .guard⟩ (by simp) rfl
          have gg := gg 30 rfl (by simp)
          obtain rfl : vg = .bool false := eg
          rw [guard_is rfl rfl gg]
          rw [if_pos (by decide)]
          have hbw : Below V.heap.size V w' := (below_drewN (Below.refl _ _) 1).trans hB
          have t3 := hoth 3 (notDst_at (by kernel_rfl))
          simp only [List.getElem?_toArray, List.getElem?_cons_succ, List.getElem?_cons_zero] at t3
          clear hdep hoth
          go_simp
          exact hK _ _ (Below.refl _ _) rfl
        · intro a' w' hB hdep hoth K hK
          obtain ⟨vg, gg, eg⟩ := hdep ⟨8, .guard⟩ (by simp) rfl
          have gg := gg 30 rfl (by simp)
          obtain rfl : vg = .bool false := eg
          rw [guard_is rfl rfl gg]
          rw [if_pos (by decide)]
          have hbw : Below V.heap.size V w' := (below_drewN (Below.refl _ _) 1).trans hB
          obtain ⟨v0, g0, e0⟩ := hdep ⟨12, .data⟩ (by simp) rfl
          have g0 := g0 34 rfl (by simp)
          obtain rfl : v0 = (.agg bv) := e0
          obtain ⟨v1, g1, e1⟩ := hdep ⟨13, .data⟩ (by simp) rfl
          have g1 := g1 35 rfl (by simp)
          obtain rfl : v1 = .slice ta R.length tc := e1
          have HA := hid (rall_is R 40 (HV2.out.below hbw).is (HR.out.below (HBV.out.trans (hbw.mono HBV.out.size))) HFI.out (by have := HR59.out; omega) (by have := HGB.out.2.2; omega) (fun x hx => Nat.le_trans (HR40.out x hx) (by omega)))
          clear hdep hoth
          go_simp
          refine HA.out.mono ?_
          rintro e w'' ⟨v, rfl, he, hb⟩
          exact hK v _ hb (he.base hbw.size)
        · intro a' w' hB hdep hoth K hK
          obtain ⟨vg, gg, eg⟩ := hdep ⟨8, .guard⟩ (by simp) rfl
          have gg := gg 30 rfl (by simp)
          obtain rfl : vg = .bool false := eg
          rw [guard_is rfl rfl gg]
          rw [if_pos (by decide)]
          have hbw : Below V.heap.size V w' := (below_drewN (Below.refl _ _) 1).trans hB
          obtain ⟨v0, q0, e0⟩ := hdep ⟨11, .data⟩ (by simp) rfl
          have q0 := q0 33 rfl (by simp)
          have e0 : BrEnd V (applyAll B R) v0 w' := e0
          obtain ⟨v1, q1, e1⟩ := hdep ⟨14, .data⟩ (by simp) rfl
          have q1 := q1 36 rfl (by simp)
          have e1 : BrEnd V (applyAll B R) v1 w' := e1
          have HA := hid (rsame_is true (sameB_refl (applyAll B R)) e0.is e1.is)
          clear hdep hoth e0 e1
          go_simp
          refine HA.out.mono ?_
          rintro e w'' ⟨rfl, hb⟩
          exact hK _ _ hb rfl
        · intro a' w' hB hdep hoth K hK
          obtain ⟨vg, gg, eg⟩ := hdep ⟨8, .guard⟩ (by simp) rfl
          have gg := gg 30 rfl (by simp)
          obtain rfl : vg = .bool false := eg
          rw [guard_is rfl rfl gg]
          rw [if_pos (by decide)]
          have hbw : Below V.heap.size V w' := (below_drewN (Below.refl _ _) 1).trans hB
          obtain ⟨vx0, gx0, ex0⟩ := hdep ⟨15, .data⟩ (by simp) rfl
          have gx0 := gx0 37 rfl (by simp)
          obtain rfl : vx0 = .bool true := ex0
          clear hdep hoth
          go_simp
          exact hK _ _ (Below.refl _ _) rfl
        · intro a' w' hB hdep hoth K hK
          rw [if_pos (guard_none rfl)]
          have hbw : Below V.heap.size V w' := (below_drewN (Below.refl _ _) 1).trans hB
          obtain ⟨vx0, gx0, ex0⟩ := hdep ⟨8, .data⟩ (by simp) rfl
          have gx0 := gx0 30 rfl (by simp)
          obtain rfl : vx0 = .bool false := ex0
          obtain ⟨vx1, gx1, ex1⟩ := hdep ⟨16, .data⟩ (by simp) rfl
          have gx1 := gx1 38 rfl (by simp)
          obtain rfl : vx1 = .bool false := ex1
          clear hdep hoth
          go_simp
          exact hK _ _ (Below.refl _ _) rfl
        · intro a' w' hB hdep hoth K hK
          rw [if_pos (guard_none rfl)]
          have hbw : Below V.heap.size V w' := (below_drewN (Below.refl _ _) 1).trans hB
          obtain ⟨vx0, gx0, ex0⟩ := hdep ⟨17, .data⟩ (by simp) rfl
          have gx0 := gx0 39 rfl (by simp)
          obtain rfl : vx0 = .bool false := ex0
          clear hdep hoth
          go_simp
          exact hK _ _ (Below.refl _ _) rfl
        · intro a' w' hB hdep hoth K hK
          obtain ⟨vg, gg, eg⟩ := hdep ⟨18, .guard⟩ (by simp) rfl
          have gg := gg 40 rfl (by simp)
          obtain rfl : vg = .bool false := eg
          rw [guard_is rfl rfl gg]
          rw [if_pos (by decide)]
          have hbw : Below V.heap.size V w' := (below_drewN (Below.refl _ _) 1).trans hB
          have t5 := hoth 5 (notDst_at (by kernel_rfl))
          simp only [List.getElem?_toArray, List.getElem?_cons_succ, List.getElem?_cons_zero] at t5
          have hld := (HV2.out.below hbw).load
          clear hdep hoth
          go_simp
          exact hK _ _ (Below.refl _ _) rfl
        · intro a' w' hB hdep hoth K hK
          obtain ⟨vg, gg, eg⟩ := hdep ⟨18, .guard⟩ (by simp) rfl
          have gg := gg 40 rfl (by simp)
          obtain rfl : vg = .bool false := eg
          rw [guard_is rfl rfl gg]
          rw [if_pos (by decide)]
          have hbw : Below V.heap.size V w' := (below_drewN (Below.refl _ _) 1).trans hB
          obtain ⟨v0, g0, e0⟩ := hdep ⟨19, .data⟩ (by simp) rfl
          have g0 := g0 41 rfl (by simp)
          obtain rfl : v0 = (.agg bv) := e0
          have HA := hid (own_is (HV2.out.below hbw).is (by have := HGB.out.2.2; omega) (by have := HGB.out.1; omega) (by have := HGB.out.2.1; omega))
          clear hdep hoth
          go_simp
          refine HA.out.mono ?_
          rintro e w'' ⟨v, rfl, he, hb⟩
          exact hK v _ hb (he.base hbw.size)
        · intro a' w' hB hdep hoth K hK
          obtain ⟨vg, gg, eg⟩ := hdep ⟨18, .guard⟩ (by simp) rfl
          have gg := gg 40 rfl (by simp)
          obtain rfl : vg = .bool false := eg
          rw [guard_is rfl rfl gg]
          rw [if_pos (by decide)]
          have hbw : Below V.heap.size V w' := (below_drewN (Below.refl _ _) 1).trans hB
          have t5 := hoth 5 (notDst_at (by kernel_rfl))
          simp only [List.getElem?_toArray, List.getElem?_cons_succ, List.getElem?_cons_zero] at t5
          have hld := (HV2.out.below hbw).load
          clear hdep hoth
          go_simp
          exact hK _ _ (Below.refl _ _) rfl
        · intro a' w' hB hdep hoth K hK
          obtain ⟨vg, gg, eg⟩ := hdep ⟨18, .guard⟩ (by simp) rfl
          have gg := gg 40 rfl (by simp)
          obtain rfl : vg = .bool false := eg
          rw [guard_is rfl rfl gg]
          rw [if_pos (by decide)]
          have hbw : Below V.heap.size V w' := (below_drewN (Below.refl _ _) 1).trans hB
          obtain ⟨v0, q0, e0⟩ := hdep ⟨20, .data⟩ (by simp) rfl
          have q0 := q0 42 rfl (by simp)
          have e0 : BrEnd V (B) v0 w' := e0
          obtain ⟨v1, q1, e1⟩ := hdep ⟨21, .data⟩ (by simp) rfl
          have q1 := q1 43 rfl (by simp)
          obtain rfl : v1 = .agg bv := e1
          have HA := hid (rsame_is true (sameB_refl (B)) e0.is (HV2.out.below hbw).is)
          clear hdep hoth e0
          go_simp
          refine HA.out.mono ?_
          rintro e w'' ⟨rfl, hb⟩
          exact hK _ _ hb rfl
        · intro a' w' hB hdep hoth K hK
          obtain ⟨vg, gg, eg⟩ := hdep ⟨18, .guard⟩ (by simp) rfl
          have gg := gg 40 rfl (by simp)
          obtain rfl : vg = .bool false := eg
          rw [guard_is rfl rfl gg]
          rw [if_pos (by decide)]
          have hbw : Below V.heap.size V w' := (below_drewN (Below.refl _ _) 1).trans hB
          obtain ⟨vx0, gx0, ex0⟩ := hdep ⟨22, .data⟩ (by simp) rfl
          have gx0 := gx0 44 rfl (by simp)
          obtain rfl : vx0 = .bool true := ex0
          clear hdep hoth
          go_simp
          exact hK _ _ (Below.refl _ _) rfl
        · intro a' w' hB hdep hoth K hK
          rw [if_pos (guard_none rfl)]
          have hbw : Below V.heap.size V w' := (below_drewN (Below.refl _ _) 1).trans hB
          obtain ⟨vx0, gx0, ex0⟩ := hdep ⟨18, .data⟩ (by simp) rfl
          have gx0 := gx0 40 rfl (by simp)
          obtain rfl : vx0 = .bool false := ex0
          obtain ⟨vx1, gx1, ex1⟩ := hdep ⟨23, .data⟩ (by simp) rfl
          have gx1 := gx1 45 rfl (by simp)
          obtain rfl : vx1 = .bool false := ex1
          clear hdep hoth
          go_simp
          exact hK _ _ (Below.refl _ _) rfl
      case fin3 =>
        intro vs Y hB hs
        have hbw : Below V.heap.size V Y := (below_drewN (Below.refl _ _) 1).trans hB
        have ev : vs 24 = .bool false := hs 24 (by decide)
        clear hs
        simp only [actOf, dstAt, if_true, List.getElem?_toArray, List.getElem?_cons_succ, List.getElem?_cons_zero, Option.bind_some, Act.put, List.setIfInBounds_toArray, List.set_cons_zero, List.set_cons_succ, List.length_cons, List.length_nil, Nat.reduceAdd]
        rw [ev]
        clear ev hB
        have HV3 := hid (HV2.out.below hbw)
        have HU3 := hid (HU2.out.below hbw)
        have HB3 := hid (HBV.out.trans (hbw.mono HBV.out.size))
        clear hbw
        go_upto_region 5 with (fail)
        obtain ⟨fi, hfi⟩ : ∃ r, idxL B.K (fun x => x.id == n0) = r := ⟨_, rfl⟩
        obtain ⟨ti, hti⟩ : ∃ r, idxL B.I (fun x => x.token == n0) = r := ⟨_, rfl⟩
        obtain ⟨rq, hrq⟩ : ∃ r, rightB B = r := ⟨_, rfl⟩
        obtain ⟨sq, hsq⟩ : ∃ r, sameB B C = r := ⟨_, rfl⟩
        have HFD := hid hfi
        have HTD := hid hti
        have HRQ := hid hrq
        have HSQ := hid hsq
        clear hfi hti hrq hsq
        refine wp_region_held_drew (S := fun _ => True) (by kernel_rfl) trivial (fun _ => ?_)
        refine wpAnyH_grownG (w0 := Y.drew) (spL [fun z _ => z = (.agg bv), fun z _ => z = .int .i64 n0, fun z _ => z = .int .i64 fi, fun z _ => z = (.agg bv), fun z _ => z = .int .i64 n0, fun z _ => z = .int .i64 fi, fun z _ => z = .bool true, fun z _ => z = .bool true, fun z _ => z = (.agg bv), fun z _ => z = .int .i64 n0, fun z _ => z = .int .i64 ti, fun z _ => z = (.agg bv), fun z _ => z = .int .i64 n0, fun z _ => z = .int .i64 ti, fun z _ => z = .bool true, fun z _ => z = .bool true, fun z _ => z = .bool true, fun z _ => z = (.agg bv), fun z _ => z = .bool rq, fun z _ => z = (.agg bv), fun z _ => z = .bool rq, fun z _ => z = .bool true, fun z _ => z = .bool true, fun z _ => z = .bool true, fun z _ => z = (.agg bv), fun z _ => z = (.agg cv), fun z _ => z = .bool sq, fun z _ => z = (.agg bv), fun z _ => z = (.agg cv), fun z _ => z = .bool sq, fun z _ => z = .bool true, fun z _ => z = .bool true, fun z _ => z = .bool true, fun z _ => z = .bool true, fun z _ => z = .bool true, fun z _ => z = .bool true]) (spL_stays ⟨stays_eq _, stays_eq _, stays_eq _, stays_eq _, stays_eq _, stays_eq _, stays_eq _, stays_eq _, stays_eq _, stays_eq _, stays_eq _, stays_eq _, stays_eq _, stays_eq _, stays_eq _, stays_eq _, stays_eq _, stays_eq _, stays_eq _, stays_eq _, stays_eq _, stays_eq _, stays_eq _, stays_eq _, stays_eq _, stays_eq _, stays_eq _, stays_eq _, stays_eq _, stays_eq _, stays_eq _, stays_eq _, stays_eq _, stays_eq _, stays_eq _, stays_eq _, trivial⟩) (by kernel_rfl) (by kernel_rfl) ?steps5 ?fin5 rfl
        case steps5 =>
          refine ⟨?_, ?_, ?_, ?_, ?_, ?_, ?_, ?_, ?_, ?_, ?_, ?_, ?_, ?_, ?_, ?_, ?_, ?_, ?_, ?_, ?_, ?_, ?_, ?_, ?_, ?_, ?_, ?_, ?_, ?_, ?_, ?_, ?_, ?_, ?_, ?_, trivial⟩
          · intro a' w' hB hdep hoth K hK
            rw [if_pos (guard_none rfl)]
            have hbw : Below Y.heap.size Y w' := (below_drewN (Below.refl _ _) 1).trans hB
            have t5 := hoth 5 (notDst_at (by kernel_rfl))
            simp only [List.getElem?_toArray, List.getElem?_cons_succ, List.getElem?_cons_zero] at t5
            have hld := (HV3.out.below hbw).load
            clear hdep hoth
            go_simp
            exact hK _ _ (Below.refl _ _) rfl
          · intro a' w' hB hdep hoth K hK
            rw [if_pos (guard_none rfl)]
            have hbw : Below Y.heap.size Y w' := (below_drewN (Below.refl _ _) 1).trans hB
            have t4 := hoth 4 (notDst_at (by kernel_rfl))
            simp only [List.getElem?_toArray, List.getElem?_cons_succ, List.getElem?_cons_zero] at t4
            clear hdep hoth
            go_simp
            exact hK _ _ (Below.refl _ _) rfl
          · intro a' w' hB hdep hoth K hK
            rw [if_pos (guard_none rfl)]
            have hbw : Below Y.heap.size Y w' := (below_drewN (Below.refl _ _) 1).trans hB
            obtain ⟨vx0, gx0, ex0⟩ := hdep ⟨0, .data⟩ (by simp) rfl
            have gx0 := gx0 47 rfl (by simp)
            obtain rfl : vx0 = (.agg bv) := ex0
            obtain ⟨vx1, gx1, ex1⟩ := hdep ⟨1, .data⟩ (by simp) rfl
            have gx1 := gx1 48 rfl (by simp)
            obtain rfl : vx1 = .int .i64 n0 := ex1
            have HA := hid (find_is n0 fi HFD.out (HV3.out.below hbw).is (by have := HGB.out.2.1; omega))
            clear hdep hoth
            go_simp
            refine HA.out.mono ?_
            rintro e w'' ⟨rfl, hb⟩
            exact hK _ _ hb rfl
          · intro a' w' hB hdep hoth K hK
            rw [if_pos (guard_none rfl)]
            have hbw : Below Y.heap.size Y w' := (below_drewN (Below.refl _ _) 1).trans hB
            have t5 := hoth 5 (notDst_at (by kernel_rfl))
            simp only [List.getElem?_toArray, List.getElem?_cons_succ, List.getElem?_cons_zero] at t5
            have hld := (HV3.out.below hbw).load
            clear hdep hoth
            go_simp
            exact hK _ _ (Below.refl _ _) rfl
          · intro a' w' hB hdep hoth K hK
            rw [if_pos (guard_none rfl)]
            have hbw : Below Y.heap.size Y w' := (below_drewN (Below.refl _ _) 1).trans hB
            have t4 := hoth 4 (notDst_at (by kernel_rfl))
            simp only [List.getElem?_toArray, List.getElem?_cons_succ, List.getElem?_cons_zero] at t4
            clear hdep hoth
            go_simp
            exact hK _ _ (Below.refl _ _) rfl
          · intro a' w' hB hdep hoth K hK
            rw [if_pos (guard_none rfl)]
            have hbw : Below Y.heap.size Y w' := (below_drewN (Below.refl _ _) 1).trans hB
            obtain ⟨vx0, gx0, ex0⟩ := hdep ⟨3, .data⟩ (by simp) rfl
            have gx0 := gx0 50 rfl (by simp)
            obtain rfl : vx0 = (.agg bv) := ex0
            obtain ⟨vx1, gx1, ex1⟩ := hdep ⟨4, .data⟩ (by simp) rfl
            have gx1 := gx1 51 rfl (by simp)
            obtain rfl : vx1 = .int .i64 n0 := ex1
            have HA := hid (rfind13_at B _ n0 fi HFD.out _ (HV3.out.below hbw).is)
            clear hdep hoth
            go_simp
            refine HA.out.mono ?_
            rintro e w'' ⟨rfl, hb⟩
            exact hK _ _ hb rfl
          · intro a' w' hB hdep hoth K hK
            rw [if_pos (guard_none rfl)]
            have hbw : Below Y.heap.size Y w' := (below_drewN (Below.refl _ _) 1).trans hB
            obtain ⟨vx0, gx0, ex0⟩ := hdep ⟨2, .data⟩ (by simp) rfl
            have gx0 := gx0 49 rfl (by simp)
            obtain rfl : vx0 = .int .i64 fi := ex0
            obtain ⟨vx1, gx1, ex1⟩ := hdep ⟨5, .data⟩ (by simp) rfl
            have gx1 := gx1 52 rfl (by simp)
            obtain rfl : vx1 = .int .i64 fi := ex1
            clear hdep hoth
            go_simp
            exact hK _ _ (Below.refl _ _) rfl
          · intro a' w' hB hdep hoth K hK
            rw [if_pos (guard_none rfl)]
            have hbw : Below Y.heap.size Y w' := (below_drewN (Below.refl _ _) 1).trans hB
            obtain ⟨vx0, gx0, ex0⟩ := hdep ⟨6, .data⟩ (by simp) rfl
            have gx0 := gx0 53 rfl (by simp)
            obtain rfl : vx0 = .bool true := ex0
            clear hdep hoth
            go_simp
            exact hK _ _ (Below.refl _ _) rfl
          · intro a' w' hB hdep hoth K hK
            obtain ⟨vg, gg, eg⟩ := hdep ⟨7, .guard⟩ (by simp) rfl
            have gg := gg 54 rfl (by simp)
            obtain rfl : vg = .bool true := eg
            rw [guard_is rfl rfl gg]
            rw [if_pos (by decide)]
            have hbw : Below Y.heap.size Y w' := (below_drewN (Below.refl _ _) 1).trans hB
            have t5 := hoth 5 (notDst_at (by kernel_rfl))
            simp only [List.getElem?_toArray, List.getElem?_cons_succ, List.getElem?_cons_zero] at t5
            have hld := (HV3.out.below hbw).load
            clear hdep hoth
            go_simp
            exact hK _ _ (Below.refl _ _) rfl
          · intro a' w' hB hdep hoth K hK
            obtain ⟨vg, gg, eg⟩ := hdep ⟨7, .guard⟩ (by simp) rfl
            have gg := gg 54 rfl (by simp)
            obtain rfl : vg = .bool true := eg
            rw [guard_is rfl rfl gg]
            rw [if_pos (by decide)]
            have hbw : Below Y.heap.size Y w' := (below_drewN (Below.refl _ _) 1).trans hB
            have t4 := hoth 4 (notDst_at (by kernel_rfl))
            simp only [List.getElem?_toArray, List.getElem?_cons_succ, List.getElem?_cons_zero] at t4
            clear hdep hoth
            go_simp
            exact hK _ _ (Below.refl _ _) rfl
          · intro a' w' hB hdep hoth K hK
            obtain ⟨vg, gg, eg⟩ := hdep ⟨7, .guard⟩ (by simp) rfl
            have gg := gg 54 rfl (by simp)
            obtain rfl : vg = .bool true := eg
            rw [guard_is rfl rfl gg]
            rw [if_pos (by decide)]
            have hbw : Below Y.heap.size Y w' := (below_drewN (Below.refl _ _) 1).trans hB
            obtain ⟨vx0, gx0, ex0⟩ := hdep ⟨8, .data⟩ (by simp) rfl
            have gx0 := gx0 55 rfl (by simp)
            obtain rfl : vx0 = (.agg bv) := ex0
            obtain ⟨vx1, gx1, ex1⟩ := hdep ⟨9, .data⟩ (by simp) rfl
            have gx1 := gx1 56 rfl (by simp)
            obtain rfl : vx1 = .int .i64 n0 := ex1
            have HA := hid (token_is n0 ti HTD.out (HV3.out.below hbw).is (by have := HGB.out.1; omega))
            clear hdep hoth
            go_simp
            refine HA.out.mono ?_
            rintro e w'' ⟨rfl, hb⟩
            exact hK _ _ hb rfl
          · intro a' w' hB hdep hoth K hK
            obtain ⟨vg, gg, eg⟩ := hdep ⟨7, .guard⟩ (by simp) rfl
            have gg := gg 54 rfl (by simp)
            obtain rfl : vg = .bool true := eg
            rw [guard_is rfl rfl gg]
            rw [if_pos (by decide)]
            have hbw : Below Y.heap.size Y w' := (below_drewN (Below.refl _ _) 1).trans hB
            have t5 := hoth 5 (notDst_at (by kernel_rfl))
            simp only [List.getElem?_toArray, List.getElem?_cons_succ, List.getElem?_cons_zero] at t5
            have hld := (HV3.out.below hbw).load
            clear hdep hoth
            go_simp
            exact hK _ _ (Below.refl _ _) rfl
          · intro a' w' hB hdep hoth K hK
            obtain ⟨vg, gg, eg⟩ := hdep ⟨7, .guard⟩ (by simp) rfl
            have gg := gg 54 rfl (by simp)
            obtain rfl : vg = .bool true := eg
            rw [guard_is rfl rfl gg]
            rw [if_pos (by decide)]
            have hbw : Below Y.heap.size Y w' := (below_drewN (Below.refl _ _) 1).trans hB
            have t4 := hoth 4 (notDst_at (by kernel_rfl))
            simp only [List.getElem?_toArray, List.getElem?_cons_succ, List.getElem?_cons_zero] at t4
            clear hdep hoth
            go_simp
            exact hK _ _ (Below.refl _ _) rfl
          · intro a' w' hB hdep hoth K hK
            obtain ⟨vg, gg, eg⟩ := hdep ⟨7, .guard⟩ (by simp) rfl
            have gg := gg 54 rfl (by simp)
            obtain rfl : vg = .bool true := eg
            rw [guard_is rfl rfl gg]
            rw [if_pos (by decide)]
            have hbw : Below Y.heap.size Y w' := (below_drewN (Below.refl _ _) 1).trans hB
            obtain ⟨vx0, gx0, ex0⟩ := hdep ⟨11, .data⟩ (by simp) rfl
            have gx0 := gx0 58 rfl (by simp)
            obtain rfl : vx0 = (.agg bv) := ex0
            obtain ⟨vx1, gx1, ex1⟩ := hdep ⟨12, .data⟩ (by simp) rfl
            have gx1 := gx1 59 rfl (by simp)
            obtain rfl : vx1 = .int .i64 n0 := ex1
            have HA := hid (rtoken13_at B _ n0 ti HTD.out _ (HV3.out.below hbw).is)
            clear hdep hoth
            go_simp
            refine HA.out.mono ?_
            rintro e w'' ⟨rfl, hb⟩
            exact hK _ _ hb rfl
          · intro a' w' hB hdep hoth K hK
            obtain ⟨vg, gg, eg⟩ := hdep ⟨7, .guard⟩ (by simp) rfl
            have gg := gg 54 rfl (by simp)
            obtain rfl : vg = .bool true := eg
            rw [guard_is rfl rfl gg]
            rw [if_pos (by decide)]
            have hbw : Below Y.heap.size Y w' := (below_drewN (Below.refl _ _) 1).trans hB
            obtain ⟨vx0, gx0, ex0⟩ := hdep ⟨10, .data⟩ (by simp) rfl
            have gx0 := gx0 57 rfl (by simp)
            obtain rfl : vx0 = .int .i64 ti := ex0
            obtain ⟨vx1, gx1, ex1⟩ := hdep ⟨13, .data⟩ (by simp) rfl
            have gx1 := gx1 60 rfl (by simp)
            obtain rfl : vx1 = .int .i64 ti := ex1
            clear hdep hoth
            go_simp
            exact hK _ _ (Below.refl _ _) rfl
          · intro a' w' hB hdep hoth K hK
            rw [if_pos (guard_none rfl)]
            have hbw : Below Y.heap.size Y w' := (below_drewN (Below.refl _ _) 1).trans hB
            obtain ⟨vx0, gx0, ex0⟩ := hdep ⟨7, .data⟩ (by simp) rfl
            have gx0 := gx0 54 rfl (by simp)
            obtain rfl : vx0 = .bool true := ex0
            obtain ⟨vx1, gx1, ex1⟩ := hdep ⟨14, .data⟩ (by simp) rfl
            have gx1 := gx1 61 rfl (by simp)
            obtain rfl : vx1 = .bool true := ex1
            clear hdep hoth
            go_simp
            exact hK _ _ (Below.refl _ _) rfl
          · intro a' w' hB hdep hoth K hK
            rw [if_pos (guard_none rfl)]
            have hbw : Below Y.heap.size Y w' := (below_drewN (Below.refl _ _) 1).trans hB
            obtain ⟨vx0, gx0, ex0⟩ := hdep ⟨15, .data⟩ (by simp) rfl
            have gx0 := gx0 62 rfl (by simp)
            obtain rfl : vx0 = .bool true := ex0
            clear hdep hoth
            go_simp
            exact hK _ _ (Below.refl _ _) rfl
          · intro a' w' hB hdep hoth K hK
            obtain ⟨vg, gg, eg⟩ := hdep ⟨16, .guard⟩ (by simp) rfl
            have gg := gg 63 rfl (by simp)
            obtain rfl : vg = .bool true := eg
            rw [guard_is rfl rfl gg]
            rw [if_pos (by decide)]
            have hbw : Below Y.heap.size Y w' := (below_drewN (Below.refl _ _) 1).trans hB
            have t5 := hoth 5 (notDst_at (by kernel_rfl))
            simp only [List.getElem?_toArray, List.getElem?_cons_succ, List.getElem?_cons_zero] at t5
            have hld := (HV3.out.below hbw).load
            clear hdep hoth
            go_simp
            exact hK _ _ (Below.refl _ _) rfl
          · intro a' w' hB hdep hoth K hK
            obtain ⟨vg, gg, eg⟩ := hdep ⟨16, .guard⟩ (by simp) rfl
            have gg := gg 63 rfl (by simp)
            obtain rfl : vg = .bool true := eg
            rw [guard_is rfl rfl gg]
            rw [if_pos (by decide)]
            have hbw : Below Y.heap.size Y w' := (below_drewN (Below.refl _ _) 1).trans hB
            obtain ⟨vx0, gx0, ex0⟩ := hdep ⟨17, .data⟩ (by simp) rfl
            have gx0 := gx0 64 rfl (by simp)
            obtain rfl : vx0 = (.agg bv) := ex0
            have HA := hid (right_is rq HRQ.out (HV3.out.below hbw).is (by have := HGB.out.1; omega) (by have := HGB.out.2.1; omega) (HL.out.below (HB3.out.trans (hbw.mono HB3.out.size))))
            clear hdep hoth
            go_simp
            refine HA.out.mono ?_
            rintro e w'' ⟨rfl, hb⟩
            exact hK _ _ hb rfl
          · intro a' w' hB hdep hoth K hK
            obtain ⟨vg, gg, eg⟩ := hdep ⟨16, .guard⟩ (by simp) rfl
            have gg := gg 63 rfl (by simp)
            obtain rfl : vg = .bool true := eg
            rw [guard_is rfl rfl gg]
            rw [if_pos (by decide)]
            have hbw : Below Y.heap.size Y w' := (below_drewN (Below.refl _ _) 1).trans hB
            have t5 := hoth 5 (notDst_at (by kernel_rfl))
            simp only [List.getElem?_toArray, List.getElem?_cons_succ, List.getElem?_cons_zero] at t5
            have hld := (HV3.out.below hbw).load
            clear hdep hoth
            go_simp
            exact hK _ _ (Below.refl _ _) rfl
          · intro a' w' hB hdep hoth K hK
            obtain ⟨vg, gg, eg⟩ := hdep ⟨16, .guard⟩ (by simp) rfl
            have gg := gg 63 rfl (by simp)
            obtain rfl : vg = .bool true := eg
            rw [guard_is rfl rfl gg]
            rw [if_pos (by decide)]
            have hbw : Below Y.heap.size Y w' := (below_drewN (Below.refl _ _) 1).trans hB
            obtain ⟨vx0, gx0, ex0⟩ := hdep ⟨19, .data⟩ (by simp) rfl
            have gx0 := gx0 66 rfl (by simp)
            obtain rfl : vx0 = (.agg bv) := ex0
            have HA := hid (rright_is rq HRQ.out (HV3.out.below hbw).is)
            clear hdep hoth
            go_simp
            refine HA.out.mono ?_
            rintro e w'' ⟨rfl, hb⟩
            exact hK _ _ hb rfl
          · intro a' w' hB hdep hoth K hK
            obtain ⟨vg, gg, eg⟩ := hdep ⟨16, .guard⟩ (by simp) rfl
            have gg := gg 63 rfl (by simp)
            obtain rfl : vg = .bool true := eg
            rw [guard_is rfl rfl gg]
            rw [if_pos (by decide)]
            have hbw : Below Y.heap.size Y w' := (below_drewN (Below.refl _ _) 1).trans hB
            obtain ⟨vx0, gx0, ex0⟩ := hdep ⟨18, .data⟩ (by simp) rfl
            have gx0 := gx0 65 rfl (by simp)
            obtain rfl : vx0 = .bool rq := ex0
            obtain ⟨vx1, gx1, ex1⟩ := hdep ⟨20, .data⟩ (by simp) rfl
            have gx1 := gx1 67 rfl (by simp)
            obtain rfl : vx1 = .bool rq := ex1
            clear hdep hoth
            go_simp
            exact hK _ _ (Below.refl _ _) rfl
          · intro a' w' hB hdep hoth K hK
            rw [if_pos (guard_none rfl)]
            have hbw : Below Y.heap.size Y w' := (below_drewN (Below.refl _ _) 1).trans hB
            obtain ⟨vx0, gx0, ex0⟩ := hdep ⟨16, .data⟩ (by simp) rfl
            have gx0 := gx0 63 rfl (by simp)
            obtain rfl : vx0 = .bool true := ex0
            obtain ⟨vx1, gx1, ex1⟩ := hdep ⟨21, .data⟩ (by simp) rfl
            have gx1 := gx1 68 rfl (by simp)
            obtain rfl : vx1 = .bool true := ex1
            clear hdep hoth
            go_simp
            exact hK _ _ (Below.refl _ _) rfl
          · intro a' w' hB hdep hoth K hK
            rw [if_pos (guard_none rfl)]
            have hbw : Below Y.heap.size Y w' := (below_drewN (Below.refl _ _) 1).trans hB
            obtain ⟨vx0, gx0, ex0⟩ := hdep ⟨22, .data⟩ (by simp) rfl
            have gx0 := gx0 69 rfl (by simp)
            obtain rfl : vx0 = .bool true := ex0
            clear hdep hoth
            go_simp
            exact hK _ _ (Below.refl _ _) rfl
          · intro a' w' hB hdep hoth K hK
            obtain ⟨vg, gg, eg⟩ := hdep ⟨23, .guard⟩ (by simp) rfl
            have gg := gg 70 rfl (by simp)
            obtain rfl : vg = .bool true := eg
            rw [guard_is rfl rfl gg]
            rw [if_pos (by decide)]
            have hbw : Below Y.heap.size Y w' := (below_drewN (Below.refl _ _) 1).trans hB
            have t5 := hoth 5 (notDst_at (by kernel_rfl))
            simp only [List.getElem?_toArray, List.getElem?_cons_succ, List.getElem?_cons_zero] at t5
            have hld := (HV3.out.below hbw).load
            clear hdep hoth
            go_simp
            exact hK _ _ (Below.refl _ _) rfl
          · intro a' w' hB hdep hoth K hK
            obtain ⟨vg, gg, eg⟩ := hdep ⟨23, .guard⟩ (by simp) rfl
            have gg := gg 70 rfl (by simp)
            obtain rfl : vg = .bool true := eg
            rw [guard_is rfl rfl gg]
            rw [if_pos (by decide)]
            have hbw : Below Y.heap.size Y w' := (below_drewN (Below.refl _ _) 1).trans hB
            have t6 := hoth 6 (notDst_at (by kernel_rfl))
            simp only [List.getElem?_toArray, List.getElem?_cons_succ, List.getElem?_cons_zero] at t6
            have hld := (HU3.out.below hbw).load
            clear hdep hoth
            go_simp
            exact hK _ _ (Below.refl _ _) rfl
          · intro a' w' hB hdep hoth K hK
            obtain ⟨vg, gg, eg⟩ := hdep ⟨23, .guard⟩ (by simp) rfl
            have gg := gg 70 rfl (by simp)
            obtain rfl : vg = .bool true := eg
            rw [guard_is rfl rfl gg]
            rw [if_pos (by decide)]
            have hbw : Below Y.heap.size Y w' := (below_drewN (Below.refl _ _) 1).trans hB
            obtain ⟨vx0, gx0, ex0⟩ := hdep ⟨24, .data⟩ (by simp) rfl
            have gx0 := gx0 71 rfl (by simp)
            obtain rfl : vx0 = (.agg bv) := ex0
            obtain ⟨vx1, gx1, ex1⟩ := hdep ⟨25, .data⟩ (by simp) rfl
            have gx1 := gx1 72 rfl (by simp)
            obtain rfl : vx1 = (.agg cv) := ex1
            have HA := hid (bsame_is sq HSQ.out (HV3.out.below hbw).is (HU3.out.below hbw).is)
            clear hdep hoth
            go_simp
            refine HA.out.mono ?_
            rintro e w'' ⟨rfl, hb⟩
            exact hK _ _ hb rfl
          · intro a' w' hB hdep hoth K hK
            obtain ⟨vg, gg, eg⟩ := hdep ⟨23, .guard⟩ (by simp) rfl
            have gg := gg 70 rfl (by simp)
            obtain rfl : vg = .bool true := eg
            rw [guard_is rfl rfl gg]
            rw [if_pos (by decide)]
            have hbw : Below Y.heap.size Y w' := (below_drewN (Below.refl _ _) 1).trans hB
            have t5 := hoth 5 (notDst_at (by kernel_rfl))
            simp only [List.getElem?_toArray, List.getElem?_cons_succ, List.getElem?_cons_zero] at t5
            have hld := (HV3.out.below hbw).load
            clear hdep hoth
            go_simp
            exact hK _ _ (Below.refl _ _) rfl
          · intro a' w' hB hdep hoth K hK
            obtain ⟨vg, gg, eg⟩ := hdep ⟨23, .guard⟩ (by simp) rfl
            have gg := gg 70 rfl (by simp)
            obtain rfl : vg = .bool true := eg
            rw [guard_is rfl rfl gg]
            rw [if_pos (by decide)]
            have hbw : Below Y.heap.size Y w' := (below_drewN (Below.refl _ _) 1).trans hB
            have t6 := hoth 6 (notDst_at (by kernel_rfl))
            simp only [List.getElem?_toArray, List.getElem?_cons_succ, List.getElem?_cons_zero] at t6
            have hld := (HU3.out.below hbw).load
            clear hdep hoth
            go_simp
            exact hK _ _ (Below.refl _ _) rfl
          · intro a' w' hB hdep hoth K hK
            obtain ⟨vg, gg, eg⟩ := hdep ⟨23, .guard⟩ (by simp) rfl
            have gg := gg 70 rfl (by simp)
            obtain rfl : vg = .bool true := eg
            rw [guard_is rfl rfl gg]
            rw [if_pos (by decide)]
            have hbw : Below Y.heap.size Y w' := (below_drewN (Below.refl _ _) 1).trans hB
            obtain ⟨vx0, gx0, ex0⟩ := hdep ⟨27, .data⟩ (by simp) rfl
            have gx0 := gx0 74 rfl (by simp)
            obtain rfl : vx0 = (.agg bv) := ex0
            obtain ⟨vx1, gx1, ex1⟩ := hdep ⟨28, .data⟩ (by simp) rfl
            have gx1 := gx1 75 rfl (by simp)
            obtain rfl : vx1 = (.agg cv) := ex1
            have HA := hid (rsame_is sq HSQ.out (HV3.out.below hbw).is (HU3.out.below hbw).is)
            clear hdep hoth
            go_simp
            refine HA.out.mono ?_
            rintro e w'' ⟨rfl, hb⟩
            exact hK _ _ hb rfl
          · intro a' w' hB hdep hoth K hK
            obtain ⟨vg, gg, eg⟩ := hdep ⟨23, .guard⟩ (by simp) rfl
            have gg := gg 70 rfl (by simp)
            obtain rfl : vg = .bool true := eg
            rw [guard_is rfl rfl gg]
            rw [if_pos (by decide)]
            have hbw : Below Y.heap.size Y w' := (below_drewN (Below.refl _ _) 1).trans hB
            obtain ⟨vx0, gx0, ex0⟩ := hdep ⟨26, .data⟩ (by simp) rfl
            have gx0 := gx0 73 rfl (by simp)
            obtain rfl : vx0 = .bool sq := ex0
            obtain ⟨vx1, gx1, ex1⟩ := hdep ⟨29, .data⟩ (by simp) rfl
            have gx1 := gx1 76 rfl (by simp)
            obtain rfl : vx1 = .bool sq := ex1
            clear hdep hoth
            go_simp
            exact hK _ _ (Below.refl _ _) rfl
          · intro a' w' hB hdep hoth K hK
            rw [if_pos (guard_none rfl)]
            have hbw : Below Y.heap.size Y w' := (below_drewN (Below.refl _ _) 1).trans hB
            obtain ⟨vx0, gx0, ex0⟩ := hdep ⟨23, .data⟩ (by simp) rfl
            have gx0 := gx0 70 rfl (by simp)
            obtain rfl : vx0 = .bool true := ex0
            obtain ⟨vx1, gx1, ex1⟩ := hdep ⟨30, .data⟩ (by simp) rfl
            have gx1 := gx1 77 rfl (by simp)
            obtain rfl : vx1 = .bool true := ex1
            clear hdep hoth
            go_simp
            exact hK _ _ (Below.refl _ _) rfl
          · intro a' w' hB hdep hoth K hK
            rw [if_pos (guard_none rfl)]
            have hbw : Below Y.heap.size Y w' := (below_drewN (Below.refl _ _) 1).trans hB
            obtain ⟨vx0, gx0, ex0⟩ := hdep ⟨31, .data⟩ (by simp) rfl
            have gx0 := gx0 78 rfl (by simp)
            obtain rfl : vx0 = .bool true := ex0
            clear hdep hoth
            go_simp
            exact hK _ _ (Below.refl _ _) rfl
          · intro a' w' hB hdep hoth K hK
            obtain ⟨vg, gg, eg⟩ := hdep ⟨32, .guard⟩ (by simp) rfl
            have gg := gg 79 rfl (by simp)
            obtain rfl : vg = .bool true := eg
            rw [guard_is rfl rfl gg]
            rw [if_pos (by decide)]
            have hbw : Below Y.heap.size Y w' := (below_drewN (Below.refl _ _) 1).trans hB
            have HA := hid (wakes_any w' (HC.out.below (HB3.out.trans (hbw.mono HB3.out.size))) (HL.out.below (HB3.out.trans (hbw.mono HB3.out.size))))
            clear hdep hoth
            go_simp
            refine HA.out.mono ?_
            rintro e w'' ⟨rfl, hb⟩
            exact hK _ _ hb rfl
          · intro a' w' hB hdep hoth K hK
            rw [if_pos (guard_none rfl)]
            have hbw : Below Y.heap.size Y w' := (below_drewN (Below.refl _ _) 1).trans hB
            obtain ⟨vx0, gx0, ex0⟩ := hdep ⟨32, .data⟩ (by simp) rfl
            have gx0 := gx0 79 rfl (by simp)
            obtain rfl : vx0 = .bool true := ex0
            obtain ⟨vx1, gx1, ex1⟩ := hdep ⟨33, .data⟩ (by simp) rfl
            have gx1 := gx1 80 rfl (by simp)
            obtain rfl : vx1 = .bool true := ex1
            clear hdep hoth
            go_simp
            exact hK _ _ (Below.refl _ _) rfl
          · intro a' w' hB hdep hoth K hK
            rw [if_pos (guard_none rfl)]
            have hbw : Below Y.heap.size Y w' := (below_drewN (Below.refl _ _) 1).trans hB
            obtain ⟨vx0, gx0, ex0⟩ := hdep ⟨34, .data⟩ (by simp) rfl
            have gx0 := gx0 81 rfl (by simp)
            obtain rfl : vx0 = .bool true := ex0
            clear hdep hoth
            go_simp
            exact hK _ _ (Below.refl _ _) rfl
        case fin5 =>
          intro vs Z hB hs
          have hbw : Below Y.heap.size Y Z := (below_drewN (Below.refl _ _) 1).trans hB
          have ev : vs 35 = .bool true := hs 35 (by decide)
          clear hs
          simp only [actOf, dstAt, if_true, List.getElem?_toArray, List.getElem?_cons_succ, List.getElem?_cons_zero, Option.bind_some, Act.put, List.setIfInBounds_toArray, List.set_cons_zero, List.set_cons_succ, List.length_cons, List.length_nil, Nat.reduceAdd]
          rw [ev]
          clear ev hB
          have HB4 := hid (HB3.out.trans (hbw.mono HB3.out.size))
          clear hbw
          go_wp2
          go_ret
          exact ⟨rfl, HB4.out⟩
end Go.Proofs.YthnigndpibgibaaDoor
