/- brain.Apply: one record is applied. -/
import Derived.Test.YthnigndpibgibaaDoorAl
namespace Go.Proofs.YthnigndpibgibaaDoor
open Go.RowKit Go.Shelf
attribute [-go_sem] loadVar storeVar
attribute [local go_sem] load_other store_other

set_option maxRecDepth 100000 in
set_option maxHeartbeats 2000000 in
theorem applyE_any (f : Nat → Int) (g : Nat → Bool) (mv iv kv : Value) (M : List Int) (I : List IntentV) (K : List KeptV) (k : Int) (s : Value) (L : List Int) (n : Nat) (w : World) (hm : RowOf 1 encI w mv M) (hi : RowOf 4 encIn w iv I) (hk : RowOf 8 encKp w kv K) (hM : M.length ≤ 1000000)
    (hF : Fine ⟨f, g, M, I, K⟩ n) (hn : n ≤ 999) (hs : RowOf 1 encI w s L) (hL : L.length ≤ 100000) (hC : Changes w) (hLm : Limits w) :
    Calls Tryd.prog 12 #[.agg (brT f g mv iv kv), recV k s] w fun e w' => ∃ v, e = .returned v ∧ BrEnd w (applyB ⟨f, g, M, I, K⟩ k L) v w' ∧ Below w.heap.size w w' := by
  obtain ⟨sa, sc, rfl, hs1, hs2, hs3, _⟩ := hs.open
  obtain ⟨W3, hW3⟩ : ∃ W3, W3 = ((w.alloc (.cells (brT f g mv iv kv) 30)).alloc (.cells #[.int .u8 k, .slice sa L.length sc] 37)).alloc (.cells zeroBr 30) := ⟨_, rfl⟩
  have hb3 : Below w.heap.size w W3 := by rw [hW3]; exact (((Below.refl _ _).alloc (Nat.le_refl _) _).alloc (by simp) _).alloc (by simp; omega) _
  have b1 : BB W3 w.heap.size (brT f g mv iv kv) := by rw [hW3]; exact blk_alloc (blk_alloc (heap_new _ _) _) _
  have z1 : W3.heap[w.heap.size + 2]? = some (.cells zeroBr 30) := by rw [hW3]; simpa using heap_new2 (w.alloc _) _ _
  obtain ⟨W4, hW4⟩ : ∃ W4, W4 = W3.alloc (.cells #[.int .u8 k, .slice sa L.length sc] 37) := ⟨_, rfl⟩
  have hb4 : Below W3.heap.size W3 W4 := by rw [hW4]; exact (Below.refl _ _).alloc (Nat.le_refl _) _
  have n4 : W4.heap[W3.heap.size]? = some (.cells #[.int .u8 k, .slice sa L.length sc] 37) := by rw [hW4]; exact heap_new _ _
  have hbw : Below w.heap.size w W4 := hb3.trans (hb4.mono hb3.size)
  have hrow : RowOf 2 encR W4 (.slice (some ⟨W3.heap.size, 0, none⟩) 1 1) [⟨k, .slice sa L.length sc, L⟩] := by
    refine .inr ⟨by simp, W3.heap.size, 0, 1, rfl, by simp, by decide, blk_lt n4, ?_⟩
    intro i x hx j v hj
    cases i with
    | zero =>
      simp at hx
      subst hx
      rw [blk_cell n4]
      simpa [encR] using hj
    | succ i => simp at hx
  have hA := all_any f g mv iv kv M I K _ _ n W4 (hm.below hbw) (hi.below hbw) (hk.below hbw) hM hF (by simp; omega) hrow (fun r hr => by simp at hr; subst hr; exact ⟨hs.below hbw, hL⟩) (hC.below hbw) (hLm.below hbw)
  have hld := b1.load (brT_bc f g mv iv kv)
  have HA := hid hA
  have HBW := hid hbw
  have HZ4 := hid (blk_below z1 hb4 (blk_lt z1))
  have hz3 : W3.heap.size = w.heap.size + 3 := by rw [hW3]; simp
  have HW3 := hid (show W3 = ((w.alloc (.cells (brT f g mv iv kv) 30)).alloc (.cells #[.int .u8 k, .slice sa L.length sc] 37)).alloc (.cells #[.int .i64 0, .int .i64 0, .bool false, .int .i64 0, .int .i64 0, .int .i64 0, .int .i64 0, .int .i64 0, .int .i64 0, .int .i64 0, .int .i64 0, .int .i64 0, .int .i64 0, .int .i64 0, .int .i64 0, .int .i64 0, .bool false, .slice none 0 0, .slice none 0 0, .slice none 0 0, .int .u8 0, .int .i64 0, .int .i64 0, .int .i64 0, .bool false, .int .i64 0, .int .i64 0] 30) from hW3)
  have HW4 := hid hW4
  rw [hz3] at hA
  unfold recV
  clear hm hi hk hF hs hb3 b1 z1 hb4 n4 hbw hrow hA hW3 hW4
  rw [HW3.out] at hld
  go_enter Tryd.func12, Tryd.ntmps12
  go_wp2_with fail
  rw [← HW3.out] 
  try rw [← hz3]
  rw [← HW4.out]
  refine HA.out.mono ?_
  rintro e y ⟨v, rfl, ⟨m2, i2, k2, rfl, q1, q2, q3⟩, hb⟩
  have hz := blk_below HZ4.out hb (blk_lt HZ4.out)
  have Q1 := hid q1
  obtain ⟨am, cm, rfl, _⟩ := q1
  obtain ⟨ai, ni, ci, rfl⟩ := q2.shape
  obtain ⟨ak, nk, ck, rfl⟩ := q3.shape
  obtain ⟨B', hB'⟩ : ∃ B', applyAll ⟨f, g, M, I, K⟩ [⟨k, .slice sa L.length sc, L⟩] = B' := ⟨_, rfl⟩
  have HB' := hid (show applyB ⟨f, g, M, I, K⟩ k L = B' from hB')
  rw [hB'] at q2 q3 Q1 ⊢
  have hst : (storeVar 30 ⟨w.heap.size + 2, 0, none⟩ (.agg (brT B'.f B'.g (.slice am B'.M.length cm) (.slice ai ni ci) (.slice ak nk ck)))).run Tryd.prog y = .ok () (y.setRow (w.heap.size + 2) (brT B'.f B'.g (.slice am B'.M.length cm) (.slice ai ni ci) (.slice ak nk ck))) :=
    run_storeVar_row y (w.heap.size + 2) 30 30 _ _ hz (brain_size (brT_bc _ _ _ _ _)) rfl (by simp [brT, Value.oneCell'])
  have R1 := hid (setRow_heap y (w.heap.size + 2) _ (brT B'.f B'.g (.slice am B'.M.length cm) (.slice ai ni ci) (.slice ak nk ck)) _ _ hz)
  have HZ := hid hz
  have Q2 := hid (q2.mono HBW.out.size)
  have Q3 := hid (q3.mono HBW.out.size)
  have HB := hid (HBW.out.trans (hb.mono HBW.out.size))
  clear q2 q3 hz hb hB' hld
  go_wp2
  refine bodyPost_ret (results_cell_row rfl _ _ (w.heap.size + 2) 30 _ _ _ rfl R1.out brain_under rfl (brain_size (brT_bc _ _ _ _ _))) rfl ?_
  rw [HB'.out]
  exact ⟨_, rfl, ⟨_, _, _, rfl, Q1.out.kept (KeptT.grown (setRow_grown _ _ _) (fun r e => by cases e; exact ⟨_, HZ.out⟩) (by decide)), owns_row Q2.out HZ.out (by decide) _, owns_row Q3.out HZ.out (by decide) _⟩, below_setRow HB.out (by omega) _⟩
end Go.Proofs.YthnigndpibgibaaDoor
