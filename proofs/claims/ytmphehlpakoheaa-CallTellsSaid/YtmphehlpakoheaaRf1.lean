/- The reference's own: calls in memory of their own. -/
import Derived.Test.YtmphehlpakoheaaRf3
import Derived.Test.YtmphehlpakoheaaNm1
namespace Go.Proofs.Ytmphehlpakoheaa
open Go.RowKit Go.Shelf

set_option maxHeartbeats 1000000 in
theorem rown_any (ep nx : Int) (s : Value) (L : List CallV) (w : World) (hn : L.length ≤ 1000000) (hs : Row12 w s L) :
    Calls Try.prog 40 #[calls ep nx s] w fun e w' => ∃ v, e = .returned (calls ep nx v) ∧ Own12 w' w.heap.size v L ∧ Below w.heap.size w w' := by
  obtain ⟨i0, hi, hz0, hz1, hz2⟩ := info_parts infoC
  obtain ⟨sa, sc, rfl⟩ := shape_row hs
  obtain ⟨W, hW⟩ : ∃ W, W = ((w.alloc (.cells #[.int .i64 ep, .int .i64 nx, .slice sa L.length sc] 24)).alloc (.cells #[.int .i64 0, .int .i64 0, .slice none 0 0] 24)).alloc (.cells #[] 28) := ⟨_, rfl⟩
  have hB : Below w.heap.size w W := by rw [hW]; exact (((Below.refl _ _).alloc (Nat.le_refl _) _).alloc (by simp) _).alloc (by simp; omega) _
  have hq0 : W.heap[w.heap.size]? = some (.cells #[.int .i64 ep, .int .i64 nx, .slice sa L.length sc] 24) := by rw [hW]; exact blk_alloc (blk_alloc (heap_new _ _) _) _
  have hq1 : W.heap[w.heap.size + 1]? = some (.cells #[.int .i64 0, .int .i64 0, .slice none 0 0] 24) := by rw [hW]; exact blk_alloc (heap_new2 _ _ _) _
  have hown : Own12 W (w.heap.size + 2) (.slice (some ⟨w.heap.size + 2, 0, none⟩) 0 0) ([] : List CallV) := by
    rw [hW]
    have := World.ownsRow_made (e := 28) (size := 4) (base := w.heap.size + 2) ((w.alloc (.cells #[.int .i64 ep, .int .i64 nx, .slice sa L.length sc] 24)).alloc (.cells #[.int .i64 0, .int .i64 0, .slice none 0 0] 24)) #[] 0 (by simp) (by decide) rfl
    simpa [Owns] using this
  have HS := hid (hs.below hB)
  have HB := hid hB
  have Q0 := hid hq0
  have Q1 := hid hq1
  have HOWN := hid hown
  have hsz : W.heap.size = w.heap.size + 3 := by rw [hW]; simp
  have HSZ := hid hsz
  have c1 : ([] : List CallV).length + L.length ≤ maxLen := by unfold maxLen; simp; omega
  have c2 : (([] : List CallV).length + L.length) * 32 ≤ 140737488355328 := by simp; omega
  have c3 : w.heap.size + 2 ≤ W.heap.size := by omega
  have c4 : ∀ o, w.heap.size + 2 ≤ (W.alloc o).heap.size := fun o => by simp; omega
  have C4 := hid c4
  clear hs hB hq0 hq1 hown hsz c4
  unfold calls
  go_enter Try.func40, Try.ntmps40
  subst hW
  go_wp2_with (at_builtin; go_loud (refine append_rows rfl _ _ 22 rfl (w.heap.size + 2) 28 i0 _ 32 Try.underlying22 hi hz0 hz1 hz2 rfl (by decide) encC_len encC_one _ [] rfl HOWN.out _ L rfl HS.out c1 c2 c3 ?_); intro v' w1 hown hgrow; obtain ⟨va, vn, vc, rfl⟩ := hown.shape; have HOW := hid hown; have HGR := hid hgrow; clear hown hgrow; have G0 := hid (blk_grown Q0.out HGR.out (show some w.heap.size ≠ some (w.heap.size + 2) by simp)); have G1 := hid (blk_grown Q1.out HGR.out (show some (w.heap.size + 1) ≠ some (w.heap.size + 2) by simp)); obtain ⟨y0, y1, y2, yf, yl⟩ := blk3 G0.out; obtain ⟨z0, z1, z2, zf, zl⟩ := blk3 G1.out)
  refine bodyPost_ret (res_calls rfl rfl (blk_set (blk_set (blk_set (blk_other G1.out (by simp) _) 0 _) 1 _) 2 _)) rfl ?_
  have hg : Below w.heap.size w w1 := HB.out.grown HGR.out (by have := HSZ.out; omega) (fun r e => by cases e; show w.heap.size ≤ w.heap.size + 1 + 1; omega)
  refine ⟨_, rfl, ?_, ?_⟩
  · exact Owns.mono ((((Owns.other HOW.out (p := ⟨w.heap.size, 2, none⟩) (by simp) _).other (p := ⟨w.heap.size + 1, 0, none⟩) (by simp) _).other (p := ⟨w.heap.size + 1, 1, none⟩) (by simp) _).other (p := ⟨w.heap.size + 1, 2, none⟩) (by simp) _) (by omega)
  · exact (((hg.setCell (p := ⟨w.heap.size, 2, none⟩) (by simp) _).setCell (p := ⟨w.heap.size + 1, 0, none⟩) (by simp) _).setCell (p := ⟨w.heap.size + 1, 1, none⟩) (by simp) _).setCell (p := ⟨w.heap.size + 1, 2, none⟩) (by simp) _
end Go.Proofs.Ytmphehlpakoheaa
