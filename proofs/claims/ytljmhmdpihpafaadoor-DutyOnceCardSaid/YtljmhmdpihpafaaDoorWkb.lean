/- wakes of herdlaw20. -/
import Derived.Test.YtljmhmdpihpafaaDoorWka
namespace Go.Proofs.YtljmhmdpihpafaaDoor
open Go.RowKit Go.Shelf
attribute [-go_sem] loadVar storeVar
attribute [local go_sem] load_other store_other

set_option maxHeartbeats 4000000 in
set_option maxRecDepth 100000 in
theorem wakes_any (w : World) (hA : Asked w) : Calls Tryd.prog 9 #[] w fun e w' => e = .returned (.bool true) ∧ Below w.heap.size w w' := by
  obtain ⟨W0, hW0⟩ : ∃ W0, W0 = ((w.alloc (.cells #[.int .i64 4, .int .i64 2, .int .i64 1, .bool true] 56)).alloc (.cells #[.int .i64 3, .int .i64 0, .int .i64 0, .int .i64 0, .int .u8 3, .int .i64 0, .bool false, .bool false, .int .i64 5, .int .i64 0, .int .i64 0, .int .i64 0, .int .u8 4, .int .i64 0, .bool false, .bool false] 60)).alloc (.cells #[.int .i64 0, .int .i64 0, .bool false, .int .i64 0, .int .i64 0, .int .i64 0, .int .i64 0, .int .i64 0, .int .i64 0, .int .i64 0, .int .i64 0, .int .i64 0, .int .i64 0, .int .i64 0, .int .i64 0, .int .i64 0, .bool false, .slice none 0 0, .slice none 0 0, .slice none 0 0, .int .u8 0, .int .i64 0, .int .i64 0, .int .i64 0, .bool false, .int .i64 0, .int .i64 0] 30) := ⟨_, rfl⟩
  have hz0 : W0.heap.size = w.heap.size + 3 := by rw [hW0]; simp
  have Z0 : Below w.heap.size w W0 := by rw [hW0]; exact (((Below.refl _ _).alloc (Nat.le_refl _) _).alloc (by simp) _).alloc (by simp; omega) _
  have G0 : W0.heap[w.heap.size + 1 + 1]? = some (.cells zcs 30) := by rw [hW0]; simpa [zcs] using heap_new ((w.alloc (.cells #[.int .i64 4, .int .i64 2, .int .i64 1, .bool true] 56)).alloc (.cells #[.int .i64 3, .int .i64 0, .int .i64 0, .int .i64 0, .int .u8 3, .int .i64 0, .bool false, .bool false, .int .i64 5, .int .i64 0, .int .i64 0, .int .i64 0, .int .u8 4, .int .i64 0, .bool false, .bool false] 60)) (.cells #[.int .i64 0, .int .i64 0, .bool false, .int .i64 0, .int .i64 0, .int .i64 0, .int .i64 0, .int .i64 0, .int .i64 0, .int .i64 0, .int .i64 0, .int .i64 0, .int .i64 0, .int .i64 0, .int .i64 0, .int .i64 0, .bool false, .slice none 0 0, .slice none 0 0, .slice none 0 0, .int .u8 0, .int .i64 0, .int .i64 0, .int .i64 0, .bool false, .int .i64 0, .int .i64 0] 30)
  have GI : W0.heap[w.heap.size]? = some (.cells #[.int .i64 4, .int .i64 2, .int .i64 1, .bool true] 56) := by rw [hW0]; exact blk_alloc (blk_alloc (heap_new _ _) _) _
  have GK : W0.heap[w.heap.size + 1]? = some (.cells #[.int .i64 3, .int .i64 0, .int .i64 0, .int .i64 0, .int .u8 3, .int .i64 0, .bool false, .bool false, .int .i64 5, .int .i64 0, .int .i64 0, .int .i64 0, .int .u8 4, .int .i64 0, .bool false, .bool false] 60) := by rw [hW0]; exact blk_alloc (heap_new2 _ _ _) _
  obtain ⟨W1, hW1⟩ : ∃ W1, W1 = W0.setRow (w.heap.size + 1 + 1) (wcs w.heap.size (w.heap.size + 1)) := ⟨_, rfl⟩
  have S1 : WS w W1 := by
    refine ⟨?_, ?_, ?_, ?_, ?_⟩
    · rw [hW1]; exact setRow_heap _ _ _ _ _ _ G0
    · exact wIrow _ _ (by rw [hW1, setRow_other _ _ _ _ (by omega)]; exact GI)
    · exact wKrow _ _ (by rw [hW1, setRow_other _ _ _ _ (by omega)]; exact GK)
    · exact hA.below (by rw [hW1]; exact below_setRow Z0 (by omega) _)
    · rw [hW1]; exact below_setRow Z0 (by omega) _
  have H1 := hid S1
  have HW0 := hid hW0
  have HW1 := hid hW1
  have HG0 := hid G0
  have hl := S1.load
  have hst : (storeVar 30 ⟨w.heap.size + 1 + 1, 0, none⟩ (.agg #[.int .i64 0, .int .i64 0, .bool false, .int .i64 0, .int .i64 0, .int .i64 0, .int .i64 0, .int .i64 0, .int .i64 0, .int .i64 0, .int .i64 0, .int .i64 0, .int .i64 0, .int .i64 0, .int .i64 0, .int .i64 0, .bool false, .slice none 0 0, .slice (some ⟨w.heap.size, 0, none⟩) 1 1, .slice (some ⟨w.heap.size + 1, 0, none⟩) 2 2, .int .u8 0, .int .i64 0, .int .i64 0, .int .i64 0, .bool false, .int .i64 0, .int .i64 0])).run Tryd.prog (((w.alloc (.cells #[.int .i64 4, .int .i64 2, .int .i64 1, .bool true] 56)).alloc (.cells #[.int .i64 3, .int .i64 0, .int .i64 0, .int .i64 0, .int .u8 3, .int .i64 0, .bool false, .bool false, .int .i64 5, .int .i64 0, .int .i64 0, .int .i64 0, .int .u8 4, .int .i64 0, .bool false, .bool false] 60)).alloc (.cells #[.int .i64 0, .int .i64 0, .bool false, .int .i64 0, .int .i64 0, .int .i64 0, .int .i64 0, .int .i64 0, .int .i64 0, .int .i64 0, .int .i64 0, .int .i64 0, .int .i64 0, .int .i64 0, .int .i64 0, .int .i64 0, .bool false, .slice none 0 0, .slice none 0 0, .slice none 0 0, .int .u8 0, .int .i64 0, .int .i64 0, .int .i64 0, .bool false, .int .i64 0, .int .i64 0] 30)) = .ok () W1 := by
    rw [← hW0, hW1]
    exact run_storeVar_row W0 (w.heap.size + 1 + 1) 30 30 zcs (wcs w.heap.size (w.heap.size + 1)) G0 (by rw [show (wcs w.heap.size (w.heap.size + 1)).size = 27 from rfl]; kernel_rfl) rfl (by simp [wcs, Value.oneCell'])
  clear hW0 hW1 G0 GI GK S1 Z0 hA
  go_enter Tryd.func9, Tryd.ntmps9
  go_wp2_with fail
  have h1 := H1.out
  clear hst
  refine (wk_of h1).mono ?_
  rintro e w2 ⟨⟨lb, lo, lc, rfl, g0, g1, g2, g3⟩, hb⟩
  have H2 := hid (h1.below hb)
  have L0 := hid g0
  have L1 := hid g1
  have L2 := hid g2
  have L3 := hid g3
  have hl := H2.out.load
  clear hb g0 g1 g2 g3 H1 h1
  go_wp2_with fail
  refine (wk_open1 H2.out).mono ?_
  rintro e w3 ⟨⟨oa, oc, ab, ao, ac, rfl, hr, a0, a1, a2, a3, a4, a5, a6⟩, hb⟩
  have HR := hid hr
  have H3 := hid (H2.out.below hb)
  replace L0 := hid (cell_below L0.out hb)
  replace L1 := hid (cell_below L1.out hb)
  replace L2 := hid (cell_below L2.out hb)
  replace L3 := hid (cell_below L3.out hb)
  have A0 := hid a0
  have A1 := hid a1
  have A2 := hid a2
  have A3 := hid a3
  have A4 := hid a4
  have A5 := hid a5
  have A6 := hid a6
  clear hb hr a0 a1 a2 a3 a4 a5 a6 H2 hl
  obtain ⟨U3, hU3⟩ : ∃ U3, U3 = w3.alloc (.cells #[.int .i64 0, .int .i64 3, .slice oa 2 oc] 33) := ⟨_, rfl⟩
  have hb : Below w3.heap.size w3 U3 := by rw [hU3]; exact (Below.refl _ _).alloc (Nat.le_refl _) _
  have C3 := hid (show U3.heap[w3.heap.size]? = some (.cells #[.int .i64 0, .int .i64 3, .slice oa 2 oc] 33) by rw [hU3]; exact heap_new _ _)
  replace HR := hid (RowOf.below HR.out hb)
  replace H3 := hid (H3.out.below hb)
  replace L0 := hid (cell_below L0.out hb)
  replace L1 := hid (cell_below L1.out hb)
  replace L2 := hid (cell_below L2.out hb)
  replace L3 := hid (cell_below L3.out hb)
  replace A0 := hid (cell_below A0.out hb)
  replace A1 := hid (cell_below A1.out hb)
  replace A2 := hid (cell_below A2.out hb)
  replace A3 := hid (cell_below A3.out hb)
  replace A4 := hid (cell_below A4.out hb)
  replace A5 := hid (cell_below A5.out hb)
  replace A6 := hid (cell_below A6.out hb)
  have hl := H3.out.load
  rw [hU3] at hl
  have HU3 := hid hU3
  clear hb hU3
  go_wp2_with fail
  rw [← HU3.out]
  refine (wk_open2 H3.out _ HR.out).mono ?_
  rintro e w4 ⟨⟨oa2, oc2, na, nc, rfl, hr2⟩, hb⟩
  have HR2 := hid hr2
  replace HR := hid (RowOf.below HR.out hb)
  have H4 := hid (H3.out.below hb)
  have C4 := hid (blk_below C3.out hb (blk_lt C3.out))
  replace L0 := hid (cell_below L0.out hb)
  replace L1 := hid (cell_below L1.out hb)
  replace L2 := hid (cell_below L2.out hb)
  replace L3 := hid (cell_below L3.out hb)
  replace A0 := hid (cell_below A0.out hb)
  replace A1 := hid (cell_below A1.out hb)
  replace A2 := hid (cell_below A2.out hb)
  replace A3 := hid (cell_below A3.out hb)
  replace A4 := hid (cell_below A4.out hb)
  replace A5 := hid (cell_below A5.out hb)
  replace A6 := hid (cell_below A6.out hb)
  clear hb hr2 H3 hl HU3 C3
  obtain ⟨U4, hU4⟩ : ∃ U4, U4 = w4.alloc (.cells #[.int .i64 0, .int .i64 3, .slice oa2 2 oc2] 33) := ⟨_, rfl⟩
  have hb : Below w4.heap.size w4 U4 := by rw [hU4]; exact (Below.refl _ _).alloc (Nat.le_refl _) _
  have D4 := hid (show U4.heap[w4.heap.size]? = some (.cells #[.int .i64 0, .int .i64 3, .slice oa2 2 oc2] 33) by rw [hU4]; exact heap_new _ _)
  replace HR := hid (RowOf.below HR.out hb)
  replace HR2 := hid (RowOf.below HR2.out hb)
  replace H4 := hid (H4.out.below hb)
  replace C4 := hid (blk_below C4.out hb (blk_lt C4.out))
  replace L0 := hid (cell_below L0.out hb)
  replace L1 := hid (cell_below L1.out hb)
  replace L2 := hid (cell_below L2.out hb)
  replace L3 := hid (cell_below L3.out hb)
  replace A0 := hid (cell_below A0.out hb)
  replace A1 := hid (cell_below A1.out hb)
  replace A2 := hid (cell_below A2.out hb)
  replace A3 := hid (cell_below A3.out hb)
  replace A4 := hid (cell_below A4.out hb)
  replace A5 := hid (cell_below A5.out hb)
  replace A6 := hid (cell_below A6.out hb)
  have hl := H4.out.load
  rw [hU4] at hl
  have HU4 := hid hU4
  clear hb hU4
  go_wp2_with fail
  rw [← HU4.out]
  refine (wk_ask H4.out).mono ?_
  rintro e w5 ⟨rfl, hb⟩
  replace HR := hid (RowOf.below HR.out hb)
  replace HR2 := hid (RowOf.below HR2.out hb)
  have H5 := hid (H4.out.below hb)
  have C5 := hid (blk_below C4.out hb (blk_lt C4.out))
  have D5 := hid (blk_below D4.out hb (blk_lt D4.out))
  replace L0 := hid (cell_below L0.out hb)
  replace L1 := hid (cell_below L1.out hb)
  replace L2 := hid (cell_below L2.out hb)
  replace L3 := hid (cell_below L3.out hb)
  replace A0 := hid (cell_below A0.out hb)
  replace A1 := hid (cell_below A1.out hb)
  replace A2 := hid (cell_below A2.out hb)
  replace A3 := hid (cell_below A3.out hb)
  replace A4 := hid (cell_below A4.out hb)
  replace A5 := hid (cell_below A5.out hb)
  replace A6 := hid (cell_below A6.out hb)
  clear hb H4 hl HU4 C4 D4
  obtain ⟨U5, hU5⟩ : ∃ U5, U5 = w5.alloc (.cells #[.int .u8 0, .int .i64 0, .int .i64 0, .int .i64 0, .int .i64 0, .int .i64 0] 52) := ⟨_, rfl⟩
  have hb : Below w5.heap.size w5 U5 := by rw [hU5]; exact (Below.refl _ _).alloc (Nat.le_refl _) _
  replace HR := hid (RowOf.below HR.out hb)
  replace HR2 := hid (RowOf.below HR2.out hb)
  replace H5 := hid (H5.out.below hb)
  replace C5 := hid (blk_below C5.out hb (blk_lt C5.out))
  replace D5 := hid (blk_below D5.out hb (blk_lt D5.out))
  replace L0 := hid (cell_below L0.out hb)
  replace L1 := hid (cell_below L1.out hb)
  replace L2 := hid (cell_below L2.out hb)
  replace L3 := hid (cell_below L3.out hb)
  replace A0 := hid (cell_below A0.out hb)
  replace A1 := hid (cell_below A1.out hb)
  replace A2 := hid (cell_below A2.out hb)
  replace A3 := hid (cell_below A3.out hb)
  replace A4 := hid (cell_below A4.out hb)
  replace A5 := hid (cell_below A5.out hb)
  replace A6 := hid (cell_below A6.out hb)
  have C0x := hid (blk3 C5.out).1
  have C1x := hid (blk3 C5.out).2.1
  have C2x := hid (blk3 C5.out).2.2.1
  have D0x := hid (blk3 D5.out).1
  have D1x := hid (blk3 D5.out).2.1
  have D2x := hid (blk3 D5.out).2.2.1
  have HALL := hid (show ∀ W, Below U5.heap.size U5 W → Below U5.heap.size U5 W ∧ W.cell? ⟨w3.heap.size, 0, none⟩ = some (.int .i64 0) ∧ W.cell? ⟨w3.heap.size, 1, none⟩ = some (.int .i64 3) ∧ W.cell? ⟨w3.heap.size, 2, none⟩ = some (.slice oa 2 oc) ∧ W.cell? ⟨w4.heap.size, 0, none⟩ = some (.int .i64 0) ∧ W.cell? ⟨w4.heap.size, 1, none⟩ = some (.int .i64 3) ∧ W.cell? ⟨w4.heap.size, 2, none⟩ = some (.slice oa2 2 oc2) ∧ W.cell? ⟨lb, lo, none⟩ = some (.int .u8 1) ∧ W.cell? ⟨lb, lo + 1, none⟩ = some (.int .i64 4) ∧ W.cell? ⟨lb, lo + 2, none⟩ = some (.int .u8 4) ∧ W.cell? ⟨lb, lo + 2 + 1, none⟩ = some (.int .i64 3) ∧ W.cell? ⟨ab, ao, none⟩ = some (.int .u8 1) ∧ W.cell? ⟨ab, ao + 1, none⟩ = some (.int .i64 1) ∧ W.cell? ⟨ab, ao + 2, none⟩ = some (.int .i64 4) ∧ W.cell? ⟨ab, ao + 3, none⟩ = some (.int .i64 2) ∧ W.cell? ⟨ab, ao + 4, none⟩ = some (.int .i64 1) ∧ W.cell? ⟨ab, ao + 5, none⟩ = some (.int .i64 1) ∧ W.cell? ⟨ab, ao + 6 + 1, none⟩ = some (.int .i64 2) ∧ (loadVar 30 ⟨w.heap.size + 1 + 1, 0, none⟩).run Tryd.prog W = .ok (.agg (wcs w.heap.size (w.heap.size + 1))) W from fun W hb => ⟨hb, cell_below C0x.out hb, cell_below C1x.out hb, cell_below C2x.out hb, cell_below D0x.out hb, cell_below D1x.out hb, cell_below D2x.out hb, cell_below L0.out hb, cell_below L1.out hb, cell_below L2.out hb, cell_below L3.out hb, cell_below A0.out hb, cell_below A1.out hb, cell_below A2.out hb, cell_below A3.out hb, cell_below A4.out hb, cell_below A5.out hb, cell_below A6.out hb, (H5.out.below hb).load⟩)
  have HU5 := hid hU5
  clear hb hU5
  go_wp2_with fail
  rw [← HU5.out]
  have hfield : ∀ (ra : Option Addr) (rc : Nat) (W : World), (Instr.field 33 (.agg #[.int .i64 0, .int .i64 3, .slice ra 0 rc]) 2).run Tryd.prog W = .ok (.slice ra 0 rc) W := fun _ _ _ => by kernel_rfl
  simp only [List.append_eq, List.cons_append, List.nil_append]
  go_region_held3 (fun W => Below U5.heap.size U5 W ∧ W.cell? ⟨w3.heap.size, 0, none⟩ = some (.int .i64 0) ∧ W.cell? ⟨w3.heap.size, 1, none⟩ = some (.int .i64 3) ∧ W.cell? ⟨w3.heap.size, 2, none⟩ = some (.slice oa 2 oc) ∧ W.cell? ⟨w4.heap.size, 0, none⟩ = some (.int .i64 0) ∧ W.cell? ⟨w4.heap.size, 1, none⟩ = some (.int .i64 3) ∧ W.cell? ⟨w4.heap.size, 2, none⟩ = some (.slice oa2 2 oc2) ∧ W.cell? ⟨lb, lo, none⟩ = some (.int .u8 1) ∧ W.cell? ⟨lb, lo + 1, none⟩ = some (.int .i64 4) ∧ W.cell? ⟨lb, lo + 2, none⟩ = some (.int .u8 4) ∧ W.cell? ⟨lb, lo + 2 + 1, none⟩ = some (.int .i64 3) ∧ W.cell? ⟨ab, ao, none⟩ = some (.int .u8 1) ∧ W.cell? ⟨ab, ao + 1, none⟩ = some (.int .i64 1) ∧ W.cell? ⟨ab, ao + 2, none⟩ = some (.int .i64 4) ∧ W.cell? ⟨ab, ao + 3, none⟩ = some (.int .i64 2) ∧ W.cell? ⟨ab, ao + 4, none⟩ = some (.int .i64 1) ∧ W.cell? ⟨ab, ao + 5, none⟩ = some (.int .i64 1) ∧ W.cell? ⟨ab, ao + 6 + 1, none⟩ = some (.int .i64 2) ∧ (loadVar 30 ⟨w.heap.size + 1 + 1, 0, none⟩).run Tryd.prog W = .ok (.agg (wcs w.heap.size (w.heap.size + 1))) W) (first | exact HALL.out _ (below_drewN (Below.refl _ _) 1) | (go_split_ands; exact HALL.out _ (below_call (by assumption) hbt1)) | (go_split_ands; exact HALL.out _ (below_call (by assumption) hbt2)) | (go_split_ands; exact HALL.out _ (below_call (by assumption) hbt3)) | (go_split_ands; exact HALL.out _ (below_call (by assumption) hbt4)) | (go_split_ands; exact HALL.out _ (below_realloc (by assumption) (by omega))) | (go_split_ands; exact HALL.out _ (below_set4 (by assumption) (by first | omega | (simp; omega)) _ _ _ _)) | (go_split_ands; exact HALL.out _ (below_alloc (by assumption) _))) (first | (go_at_call 12; go_split_ands; refine (wk_of0 _ (H5.out.below (by assumption)).ask).mono ?_; rintro e x1 ⟨⟨qa, qc, rfl⟩, hbt1⟩) | (go_at_call 11; go_split_ands; refine (wk_same _ _ _ (RowOf.below HR.out (by assumption)) (RowOf.below HR2.out (by assumption))).mono ?_; rintro e x2 ⟨rfl, hbt2⟩) | (go_at_call 13; go_split_ands; refine (wk_is (H5.out.below (by assumption))).mono ?_; rintro e x3 ⟨rfl, hbt3⟩) | (go_at_call 16; go_split_ands; refine (wk_drop _ (H5.out.below (by assumption)).ask _ (RowOf.below HR.out (by assumption))).mono ?_; rintro e x4 ⟨⟨ra, rc, rfl⟩, hbt4⟩))
  go_split_ands
  have hend := H5.out.bel.trans (Below.mono (show Below U5.heap.size U5 x4 by assumption) H5.out.bel.size)
  have HE := hid hend
  clear hend
  go_wp2
  go_ret
  exact ⟨rfl, HE.out⟩
end Go.Proofs.YtljmhmdpihpafaaDoor
