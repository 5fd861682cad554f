/- herdref13.Own. Printed by gn_row13.py. -/
import Derived.Test.YtgcajfglidflnaaGreatDoorGtm
import Derived.Test.YtgcajfglidflnaaGreatDoorPlk
namespace Go.Proofs.YtgcajfglidflnaaGreatDoor
open Go.RowKit Go.Shelf
attribute [-go_sem] loadVar storeVar Instr.buildSlice
attribute [local go_sem] load_other store_other

theorem bs_int0 (w : World) : (Instr.buildSlice 25 0 #[]).run Tryz.prog w = .ok (.slice (some ⟨w.heap.size, 0, none⟩) 0 0) (w.alloc (.cells #[] 3)) := by kernel_rfl
theorem bs_in0 (w : World) : (Instr.buildSlice 28 0 #[]).run Tryz.prog w = .ok (.slice (some ⟨w.heap.size, 0, none⟩) 0 0) (w.alloc (.cells #[] 54)) := by kernel_rfl
theorem bs_kp0 (w : World) : (Instr.buildSlice 29 0 #[]).run Tryz.prog w = .ok (.slice (some ⟨w.heap.size, 0, none⟩) 0 0) (w.alloc (.cells #[] 51)) := by kernel_rfl
theorem own_made {α : Type} {k : Nat} {enc : α → List Value} (e : TypeId) (w : World) : Owns k e enc (w.alloc (.cells #[] e)) w.heap.size (.slice (some ⟨w.heap.size, 0, none⟩) 0 0) ([] : List α) := by
  have := World.ownsRow_made (e := e) (size := k) (base := w.heap.size) w #[] 0 (by simp) (by decide) (by simp)
  simpa [Owns] using this
set_option maxRecDepth 100000 in
set_option maxHeartbeats 2000000 in
theorem rown13_any (B : BrainV) (v : Value) (w : World) (h : BrIs w B v) (hM : B.M.length ≤ 17592186043904) (hI : B.I.length ≤ 1000000) (hK : B.K.length ≤ 1000000) :
    Calls Tryz.prog 28 #[v] w fun e w' => ∃ u, e = .returned u ∧ BrEnd w B u w' ∧ Below w.heap.size w w' := by
  obtain ⟨i0, hi0, hi1, hi2, hi3⟩ := info_parts infoI
  obtain ⟨j0, hj0, hj1, hj2, hj3⟩ := info_parts infoIn
  obtain ⟨k0, hk0, hk1, hk2, hk3⟩ := info_parts infoKp
  obtain ⟨ma, mc, ia, ic, ka, kc, rfl, hm, hi, hk⟩ := h.open
  obtain ⟨W0, hW0⟩ : ∃ W, W = (w.alloc (.cells (brT B.f B.g (.slice ma B.M.length mc) (.slice ia B.I.length ic) (.slice ka B.K.length kc)) 33)).alloc (.cells #[.int .i64 0, .int .i64 0, .bool false, .int .i64 0, .int .i64 0, .int .i64 0, .int .i64 0, .int .i64 0, .int .i64 0, .int .i64 0, .int .i64 0, .int .i64 0, .int .i64 0, .int .i64 0, .int .i64 0, .int .i64 0, .bool false, .slice none 0 0, .slice none 0 0, .slice none 0 0, .int .u8 0, .int .i64 0, .int .i64 0, .int .i64 0, .bool false, .int .i64 0, .int .i64 0] 33) := ⟨_, rfl⟩
  have hb0 : Below w.heap.size w W0 := by rw [hW0]; exact ((Below.refl _ _).alloc (Nat.le_refl _) _).alloc (by simp) _
  have n0 : BB W0 w.heap.size (brT B.f B.g (.slice ma B.M.length mc) (.slice ia B.I.length ic) (.slice ka B.K.length kc)) := by rw [hW0]; exact blk_alloc (heap_new _ _) _
  have z0 : W0.heap[w.heap.size + 1]? = some (.cells #[.int .i64 0, .int .i64 0, .bool false, .int .i64 0, .int .i64 0, .int .i64 0, .int .i64 0, .int .i64 0, .int .i64 0, .int .i64 0, .int .i64 0, .int .i64 0, .int .i64 0, .int .i64 0, .int .i64 0, .int .i64 0, .bool false, .slice none 0 0, .slice none 0 0, .slice none 0 0, .int .u8 0, .int .i64 0, .int .i64 0, .int .i64 0, .bool false, .int .i64 0, .int .i64 0] 33) := by rw [hW0]; exact heap_new2 _ _ _
  have hz0 : W0.heap.size = w.heap.size + 2 := by rw [hW0]; simp
  obtain ⟨V0, hV0⟩ : ∃ V, V = W0.alloc (.cells #[] 3) := ⟨_, rfl⟩
  have hbv0 : Below W0.heap.size W0 V0 := by rw [hV0]; exact (Below.refl _ _).alloc (Nat.le_refl _) _
  have own0 : OwnI V0 W0.heap.size (.slice (some ⟨W0.heap.size, 0, none⟩) 0 0) ([] : List Int) := by rw [hV0]; exact own_made _ _
  have HW0 := hid hW0
  have HV0 := hid hV0
  have HB0 := hid hb0
  have HBV0 := hid hbv0
  have HO0 := hid own0
  have HR0 := hid ((hm.below hb0).below hbv0)
  have N0 := hid (n0.below hbv0 (blk_lt n0))
  have Z0 := hid (blk_below z0 hbv0 (blk_lt z0))
  have HM := hid hm
  have HI := hid hi
  have HK := hid hk
  have HZ0 := hid hz0
  have c1 : ([] : List Int).length + B.M.length ≤ maxLen := by unfold maxLen; simp; omega
  have c2 : (([] : List Int).length + B.M.length) * 8 ≤ 140737488355328 := by simp; omega
  have c3 : W0.heap.size ≤ V0.heap.size := hbv0.size
  have x17 : V0.cell? ⟨w.heap.size, 17, none⟩ = some (.slice ma B.M.length mc) := blk_cell N0.out 17
  have l0 : w.heap.size < V0.heap.size := blk_lt N0.out
  have hb1 := bs_int0
  have hb2 := bs_in0
  have hb3 := bs_kp0
  rw [hV0, hW0] at x17 l0
  rw [hz0] at own0 
  clear h hm hi hk hb0 n0 z0 hbv0 own0 hV0 hW0
  go_enter Tryz.func28, Tryz.ntmps28
  go_wp2_with (at_builtin; first
    | (rw [← HW0.out, ← HV0.out]
       refine append_rows rfl _ _ 25 rfl W0.heap.size 3 i0 _ 8 Tryz.underlying25 hi0 hi1 hi2 hi3 rfl (by decide) encI_len encI_one (.slice (some ⟨W0.heap.size, 0, none⟩) 0 0) [] (by rw [HZ0.out]; rfl) HO0.out _ B.M rfl HR0.out c1 c2 c3 ?_
       intro v' w1 hown hgrow
       obtain ⟨va, vn, vc, rfl⟩ := hown.shape
       have hbw : Below W0.heap.size W0 w1 := HBV0.out.grown hgrow HBV0.out.size (fun r e => by cases e; exact Nat.le_refl _)
       have BW1 := hid (HB0.out.trans (hbw.mono HB0.out.size))
       have HO1 := hid hown
       have N1 := hid (blk_grown N0.out hgrow (by simp [Value.ownBlock, HZ0.out]))
       have Z1 := hid (blk_grown Z0.out hgrow (by simp [Value.ownBlock, HZ0.out]))
       clear hown hgrow hbw x17 l0
       have x17 : w1.cell? ⟨w.heap.size, 17, none⟩ = some (.slice ma B.M.length mc) := blk_cell N1.out 17
       have x18 : w1.cell? ⟨w.heap.size, 18, none⟩ = some (.slice ia B.I.length ic) := blk_cell N1.out 18
       have x19 : w1.cell? ⟨w.heap.size, 19, none⟩ = some (.slice ka B.K.length kc) := blk_cell N1.out 19
       have xf := blk_free N1.out 17
       have l1 := blk_lt N1.out)
    | (obtain ⟨U1, hU1⟩ : ∃ W, W = w1.setCell ⟨w.heap.size, 17, none⟩ (.slice va vn vc) := ⟨_, rfl⟩
       obtain ⟨V1, hV1⟩ : ∃ V, V = U1.alloc (.cells #[] 54) := ⟨_, rfl⟩
       have hzu1 : U1.heap.size = w1.heap.size := by rw [hU1]; simp [World.setCell]
       have NU1 : BB U1 w.heap.size (brT B.f B.g (.slice va vn vc) (.slice ia B.I.length ic) (.slice ka B.K.length kc)) := by rw [hU1]; exact blk_set N1.out 17 _
       have hbU1 : Below w.heap.size w U1 := by rw [hU1]; exact (BW1.out).setCell (p := ⟨w.heap.size, 17, none⟩) (Nat.le_refl _) _
       have ZU1 : U1.heap[w.heap.size + 1]? = some (.cells #[.int .i64 0, .int .i64 0, .bool false, .int .i64 0, .int .i64 0, .int .i64 0, .int .i64 0, .int .i64 0, .int .i64 0, .int .i64 0, .int .i64 0, .int .i64 0, .int .i64 0, .int .i64 0, .int .i64 0, .int .i64 0, .bool false, .slice none 0 0, .slice none 0 0, .slice none 0 0, .int .u8 0, .int .i64 0, .int .i64 0, .int .i64 0, .bool false, .int .i64 0, .int .i64 0] 33) := by rw [hU1]; exact blk_other Z1.out (p := ⟨w.heap.size, 17, none⟩) (by simp) _
       have OM1 := hid (show OwnI U1 w.heap.size (.slice va vn vc) ([] ++ B.M) by rw [hU1]; exact owns_at (Owns.mono HO1.out (by rw [HZ0.out]; omega)) N1.out (by decide) 17 _)
       have hbV1 : Below U1.heap.size U1 V1 := by rw [hV1]; exact (Below.refl _ _).alloc (Nat.le_refl _) _
       have own1 : OwnN V1 U1.heap.size (.slice (some ⟨U1.heap.size, 0, none⟩) 0 0) ([] : List IntentV) := by rw [hV1]; exact own_made _ _
       have HO20 := hid own1
       have HR2 := hid ((HI.out.below hbU1).below hbV1)
       have NV1 := hid (NU1.below hbV1 (blk_lt NU1))
       have ZV1 := hid (blk_below ZU1 hbV1 (blk_lt ZU1))
       have HBV1 := hid hbV1
       have lU1 := blk_lt ZU1
       have HBU1 := hid hbU1
       have HZU1 := hid hzu1
       have HU1 := hid hU1
       have HVV1 := hid hV1
       have d1 : ([] : List IntentV).length + B.I.length ≤ maxLen := by unfold maxLen; simp; omega
       have d2 : (([] : List IntentV).length + B.I.length) * 32 ≤ 140737488355328 := by simp; omega
       have d3 : U1.heap.size ≤ V1.heap.size := hbV1.size
       clear hzu1 NU1 hbU1 ZU1 hbV1 own1 hV1 hU1 x17 x18 x19 xf l1
       rw [← HU1.out, ← HVV1.out]
       refine append_rows rfl _ _ 28 rfl U1.heap.size 54 j0 _ 32 Tryz.underlying28 hj0 hj1 hj2 hj3 rfl (by decide) encIn_len encIn_one (.slice (some ⟨U1.heap.size, 0, none⟩) 0 0) [] (by rw [HZU1.out]; rfl) HO20.out _ B.I rfl HR2.out d1 d2 d3 ?_
       intro v' w2 hown hgrow
       obtain ⟨vb, vm, vd, rfl⟩ := hown.shape
       have hbw : Below U1.heap.size U1 w2 := HBV1.out.grown hgrow HBV1.out.size (fun r e => by cases e; exact Nat.le_refl _)
       have BW2 := hid (HBU1.out.trans (hbw.mono HBU1.out.size))
       have HO2 := hid hown
       have OM2 := hid (Owns.below OM1.out hbw)
       have N2 := hid (blk_grown NV1.out hgrow (by have := HBU1.out.size; have := blk_lt NV1.out; simp [Value.ownBlock]; omega))
       have Z2 := hid (blk_grown ZV1.out hgrow (by have := HBU1.out.size; simp [Value.ownBlock]; omega))
       clear hown hgrow hbw
       have x17 : w2.cell? ⟨w.heap.size, 17, none⟩ = some (.slice va vn vc) := blk_cell N2.out 17
       have x18 : w2.cell? ⟨w.heap.size, 18, none⟩ = some (.slice ia B.I.length ic) := blk_cell N2.out 18
       have x19 : w2.cell? ⟨w.heap.size, 19, none⟩ = some (.slice ka B.K.length kc) := blk_cell N2.out 19
       have xf := blk_free N2.out 18
       have l1 := blk_lt N2.out)
    | (obtain ⟨U2, hU2⟩ : ∃ W, W = w2.setCell ⟨w.heap.size, 18, none⟩ (.slice vb vm vd) := ⟨_, rfl⟩
       obtain ⟨V2, hV2⟩ : ∃ V, V = U2.alloc (.cells #[] 51) := ⟨_, rfl⟩
       have hzu2 : U2.heap.size = w2.heap.size := by rw [hU2]; simp [World.setCell]
       have NU2 : BB U2 w.heap.size (brT B.f B.g (.slice va vn vc) (.slice vb vm vd) (.slice ka B.K.length kc)) := by rw [hU2]; exact blk_set N2.out 18 _
       have hbU2 : Below w.heap.size w U2 := by rw [hU2]; exact (BW2.out).setCell (p := ⟨w.heap.size, 18, none⟩) (Nat.le_refl _) _
       have ZU2 : U2.heap[w.heap.size + 1]? = some (.cells #[.int .i64 0, .int .i64 0, .bool false, .int .i64 0, .int .i64 0, .int .i64 0, .int .i64 0, .int .i64 0, .int .i64 0, .int .i64 0, .int .i64 0, .int .i64 0, .int .i64 0, .int .i64 0, .int .i64 0, .int .i64 0, .bool false, .slice none 0 0, .slice none 0 0, .slice none 0 0, .int .u8 0, .int .i64 0, .int .i64 0, .int .i64 0, .bool false, .int .i64 0, .int .i64 0] 33) := by rw [hU2]; exact blk_other Z2.out (p := ⟨w.heap.size, 18, none⟩) (by simp) _
       have ON2 := hid (show OwnN U2 w.heap.size (.slice vb vm vd) ([] ++ B.I) by rw [hU2]; exact owns_at (Owns.mono HO2.out HBU1.out.size) N2.out (by decide) 18 _)
       have OM3 := hid (show OwnI U2 w.heap.size (.slice va vn vc) ([] ++ B.M) by rw [hU2]; exact owns_at OM2.out N2.out (by decide) 18 _)
       have hbV2 : Below U2.heap.size U2 V2 := by rw [hV2]; exact (Below.refl _ _).alloc (Nat.le_refl _) _
       have own2 : OwnK V2 U2.heap.size (.slice (some ⟨U2.heap.size, 0, none⟩) 0 0) ([] : List KeptV) := by rw [hV2]; exact own_made _ _
       have HO30 := hid own2
       have HR3 := hid ((HK.out.below hbU2).below hbV2)
       have NV2 := hid (NU2.below hbV2 (blk_lt NU2))
       have ZV2 := hid (blk_below ZU2 hbV2 (blk_lt ZU2))
       have HBV2 := hid hbV2
       have lU2 := blk_lt ZU2
       have HBU2 := hid hbU2
       have HZU2 := hid hzu2
       have HU2 := hid hU2
       have HVV2 := hid hV2
       have d1 : ([] : List KeptV).length + B.K.length ≤ maxLen := by unfold maxLen; simp; omega
       have d2 : (([] : List KeptV).length + B.K.length) * 56 ≤ 140737488355328 := by simp; omega
       have d3 : U2.heap.size ≤ V2.heap.size := hbV2.size
       clear hzu2 NU2 hbU2 ZU2 hbV2 own2 hV2 hU2 x17 x18 x19 xf l1
       rw [← HU2.out, ← HVV2.out]
       refine append_rows rfl _ _ 29 rfl U2.heap.size 51 k0 _ 56 Tryz.underlying29 hk0 hk1 hk2 hk3 rfl (by decide) encKp_len encKp_one (.slice (some ⟨U2.heap.size, 0, none⟩) 0 0) [] (by rw [HZU2.out]; rfl) HO30.out _ B.K rfl HR3.out d1 d2 d3 ?_
       intro v' w3 hown hgrow
       obtain ⟨ve, vo, vf, rfl⟩ := hown.shape
       have hbw : Below U2.heap.size U2 w3 := HBV2.out.grown hgrow HBV2.out.size (fun r e => by cases e; exact Nat.le_refl _)
       have BW3 := hid (HBU2.out.trans (hbw.mono HBU2.out.size))
       have HO3 := hid hown
       have OM4 := hid (Owns.below OM3.out hbw)
       have ON3 := hid (Owns.below ON2.out hbw)
       have N3 := hid (blk_grown NV2.out hgrow (by have := HBU2.out.size; have := blk_lt NV2.out; simp [Value.ownBlock]; omega))
       have Z3 := hid (blk_grown ZV2.out hgrow (by have := HBU2.out.size; simp [Value.ownBlock]; omega))
       clear hown hgrow hbw
       have x17 : w3.cell? ⟨w.heap.size, 17, none⟩ = some (.slice va vn vc) := blk_cell N3.out 17
       have x18 : w3.cell? ⟨w.heap.size, 18, none⟩ = some (.slice vb vm vd) := blk_cell N3.out 18
       have x19 : w3.cell? ⟨w.heap.size, 19, none⟩ = some (.slice ka B.K.length kc) := blk_cell N3.out 19
       have xf := blk_free N3.out 19
       have l1 := blk_lt N3.out
       clear x17 x18
       have hNF : BB (w3.setCell ⟨w.heap.size, 19, none⟩ (.slice ve vo vf)) w.heap.size (brT B.f B.g (.slice va vn vc) (.slice vb vm vd) (.slice ve vo vf)) := blk_set N3.out 19 _
       have hld := hNF.load (brT_bc _ _ _ _ _)
       have hZF : (w3.setCell ⟨w.heap.size, 19, none⟩ (.slice ve vo vf)).heap[w.heap.size + 1]? = some (.cells #[.int .i64 0, .int .i64 0, .bool false, .int .i64 0, .int .i64 0, .int .i64 0, .int .i64 0, .int .i64 0, .int .i64 0, .int .i64 0, .int .i64 0, .int .i64 0, .int .i64 0, .int .i64 0, .int .i64 0, .int .i64 0, .bool false, .slice none 0 0, .slice none 0 0, .slice none 0 0, .int .u8 0, .int .i64 0, .int .i64 0, .int .i64 0, .bool false, .int .i64 0, .int .i64 0] 33) := blk_other Z3.out (p := ⟨w.heap.size, 19, none⟩) (by simp) _
       have hbF : Below w.heap.size w (w3.setCell ⟨w.heap.size, 19, none⟩ (.slice ve vo vf)) := BW3.out.setCell (p := ⟨w.heap.size, 19, none⟩) (Nat.le_refl _) _
       have hend : BrEnd w B (.agg (brT B.f B.g (.slice va vn vc) (.slice vb vm vd) (.slice ve vo vf))) (w3.setCell ⟨w.heap.size, 19, none⟩ (.slice ve vo vf)) := ⟨_, _, _, rfl, (owns_at OM4.out N3.out (by decide) 19 _).trow encI_len (by decide), owns_at ON3.out N3.out (by decide) 19 _, owns_at (Owns.mono HO3.out HBU2.out.size) N3.out (by decide) 19 _⟩
       obtain ⟨XF, hst, hvar, hbvF, hbxF, _, _⟩ := brEnd_store hend hZF rfl hbF (Nat.le_succ _)
       have HVF := hid hvar
       have HEF := hid (hbvF.end hvar)
       have HBF := hid hbxF
       clear hNF hZF hbF hend hvar hbvF hbxF))
  obtain ⟨m', i', k', e, bb, _⟩ := HVF.out
  refine bodyPost_ret (results_cell_row rfl _ _ (w.heap.size + 1) 33 _ _ _ rfl bb brain_under rfl (brain_size (brT_bc _ _ _ _ _))) rfl ?_
  rw [← e]
  exact ⟨_, rfl, HEF.out, HBF.out⟩
end Go.Proofs.YtgcajfglidflnaaGreatDoor
