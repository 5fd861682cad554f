/- brain.Own: a brain in memory of its own. -/
import Derived.Test.YthnigndpibgibaaDoorBz
import Derived.Deep.RegionWith
namespace Go.Proofs.YthnigndpibgibaaDoor
open Go.RowKit Go.Shelf
attribute [-go_sem] loadVar storeVar
attribute [local go_sem] load_other
theorem store_other (t : TypeId) (a : Addr) (v : Value) (_h : t ≠ 30) (h0 : ∀ w, (sizeOf t).run Tryd.prog w = .ok v.cells.size w) (w : World) : (storeVar t a v).run Tryd.prog w = (storeCells a v.cells.toList).run Tryd.prog w := by
  unfold storeVar
  simp [h0]
attribute [local go_sem] store_other
theorem setRow_grown (w : World) (g : Nat) (cs : Array Value) : w.grownBy (w.setRow g cs) (some g) :=
  ⟨rfl, rfl, rfl, by simp, fun i _ hne => setRow_other w g i cs (fun e => hne (by rw [e]))⟩
theorem owns_row {α : Type} {k : Nat} {e t : TypeId} {enc : α → List Value} {W : World} {base T : Nat} {v : Value} {l : List α} {c : Array Value} (h : Owns k e enc W base v l) (hT : W.heap[T]? = some (.cells c t)) (hne : e ≠ t) (cs : Array Value) : Owns k e enc (W.setRow T cs) base v l := by
  refine World.ownsRow.kept h (setRow_grown W T cs) ?_
  rcases Owns.form h with ⟨rfl, _⟩ | ⟨gi, ci, rfl, _, _⟩
  · exact .inl rfl
  · refine .inr fun e' => ?_
    obtain ⟨c', hc⟩ := Owns.typed h T e'
    rw [hT] at hc
    cases hc
    exact hne rfl
/-- The cells of a brain that is nothing. -/
def zeroBr : Array Value := brT (fun _ => 0) (fun _ => false) (.slice none 0 0) (.slice none 0 0) (.slice none 0 0)
def OwR (f : Nat → Int) (g : Nat → Bool) (M : List Int) (I : List IntentV) (K : List KeptV) (w : World) (v0 : Value) : Exit → Act → World → Prop
  | .normal, a', X => ∃ (mv iv kv : Value) (u3 u4 u5 u6 u7 u8 u9 u10 u11 u12 u13 u14 u15 u16 u17 : Value), a' = { tmps := #[v0, .pointer (some ⟨w.heap.size, 0, none⟩), .pointer (some ⟨w.heap.size + 1, 0, none⟩), u3, u4, u5, u6, u7, u8, u9, u10, u11, u12, u13, u14, u15, u16, u17], defers := [] } ∧
      BB X w.heap.size (brT f g mv iv kv) ∧ OwnI X w.heap.size mv M ∧ OwnN X w.heap.size iv I ∧ OwnK X w.heap.size kv K ∧ Below w.heap.size w X ∧ X.heap[w.heap.size + 1]? = some (.cells zeroBr 30)
  | _, _, _ => False
theorem own_facts {f : Nat → Int} {g : Nat → Bool} {mv iv kv mv' iv' kv' : Value} {M : List Int} {I : List IntentV} {K : List KeptV} {w X : World} (h : BB X w.heap.size (brT f g mv iv kv)) (h1 : OwnI X w.heap.size mv' M) (h2 : OwnN X w.heap.size iv' I) (h3 : OwnK X w.heap.size kv' K)
    (hb : Below w.heap.size w X) (hz : X.heap[w.heap.size + 1]? = some (.cells zeroBr 30)) :
    BB (((X.setCell ⟨w.heap.size, 17, none⟩ mv').setCell ⟨w.heap.size, 18, none⟩ iv').setCell ⟨w.heap.size, 19, none⟩ kv') w.heap.size (brT f g mv' iv' kv') ∧
    OwnI (((X.setCell ⟨w.heap.size, 17, none⟩ mv').setCell ⟨w.heap.size, 18, none⟩ iv').setCell ⟨w.heap.size, 19, none⟩ kv') w.heap.size mv' M ∧
    OwnN (((X.setCell ⟨w.heap.size, 17, none⟩ mv').setCell ⟨w.heap.size, 18, none⟩ iv').setCell ⟨w.heap.size, 19, none⟩ kv') w.heap.size iv' I ∧
    OwnK (((X.setCell ⟨w.heap.size, 17, none⟩ mv').setCell ⟨w.heap.size, 18, none⟩ iv').setCell ⟨w.heap.size, 19, none⟩ kv') w.heap.size kv' K ∧
    Below w.heap.size w (((X.setCell ⟨w.heap.size, 17, none⟩ mv').setCell ⟨w.heap.size, 18, none⟩ iv').setCell ⟨w.heap.size, 19, none⟩ kv') ∧
    (((X.setCell ⟨w.heap.size, 17, none⟩ mv').setCell ⟨w.heap.size, 18, none⟩ iv').setCell ⟨w.heap.size, 19, none⟩ kv').heap[w.heap.size + 1]? = some (.cells zeroBr 30) := by
  have j1 := blk_set h 17 mv'
  have j2 := blk_set j1 18 iv'
  have j3 := blk_set j2 19 kv'
  refine ⟨j3, owns_at (owns_at (owns_at h1 h (by decide) 17 _) j1 (by decide) 18 _) j2 (by decide) 19 _, owns_at (owns_at (owns_at h2 h (by decide) 17 _) j1 (by decide) 18 _) j2 (by decide) 19 _, owns_at (owns_at (owns_at h3 h (by decide) 17 _) j1 (by decide) 18 _) j2 (by decide) 19 _, ?_, ?_⟩
  · exact ((hb.setCell (p := ⟨w.heap.size, 17, none⟩) (Nat.le_refl _) _).setCell (p := ⟨w.heap.size, 18, none⟩) (Nat.le_refl _) _).setCell (p := ⟨w.heap.size, 19, none⟩) (Nat.le_refl _) _
  · exact blk_other (blk_other (blk_other hz (p := ⟨w.heap.size, 17, none⟩) (by simp) _) (p := ⟨w.heap.size, 18, none⟩) (by simp) _) (p := ⟨w.heap.size, 19, none⟩) (by simp) _
set_option maxRecDepth 100000 in
set_option maxHeartbeats 4000000 in
theorem own_any (f : Nat → Int) (g : Nat → Bool) (mv iv kv : Value) (M : List Int) (I : List IntentV) (K : List KeptV) (w : World) (hm : RowOf 1 encI w mv M) (hi : RowOf 4 encIn w iv I) (hk : RowOf 8 encKp w kv K) (hM : M.length ≤ 1000000) (hI : I.length ≤ 1000000) (hK : K.length ≤ 1000000) :
    Calls Tryd.prog 17 #[.agg (brT f g mv iv kv)] w fun e w' => ∃ mv' iv' kv', e = .returned (.agg (brT f g mv' iv' kv')) ∧ OwnI w' w.heap.size mv' M ∧ OwnN w' w.heap.size iv' I ∧ OwnK w' w.heap.size kv' K ∧ Below w.heap.size w w' := by
  obtain ⟨W2, hW2⟩ : ∃ W2, W2 = (w.alloc (.cells (brT f g mv iv kv) 30)).alloc (.cells zeroBr 30) := ⟨_, rfl⟩
  have hb2 : Below w.heap.size w W2 := by rw [hW2]; exact ((Below.refl _ _).alloc (Nat.le_refl _) _).alloc (by simp) _
  have b1 : BB W2 w.heap.size (brT f g mv iv kv) := by rw [hW2]; exact blk_alloc (heap_new _ _) _
  have z1 : W2.heap[w.heap.size + 1]? = some (.cells zeroBr 30) := by rw [hW2]; exact heap_new2 _ _ _
  have hz2 : W2.heap.size = w.heap.size + 2 := by rw [hW2]; simp
  have HM := hid (fun V (hV : Below w.heap.size w V) => cloneI_any mv M V hM (hm.below hV))
  have HI := hid (fun V (hV : Below w.heap.size w V) => cloneN_any iv I V hI (hi.below hV))
  have HK := hid (fun V (hV : Below w.heap.size w V) => cloneK_any kv K V hK (hk.below hV))
  have HBX := hid (show Below w.heap.size w W2.drew from below_drewN hb2 1)
  have HBB := hid (show BB W2.drew w.heap.size (brT f g mv iv kv) from b1)
  have HZZ := hid (show W2.drew.heap[w.heap.size + 1]? = some (.cells zeroBr 30) from z1)
  have c17 : W2.cell? ⟨w.heap.size, 17, none⟩ = some mv := blk_cell b1 17
  have c18 : W2.cell? ⟨w.heap.size, 18, none⟩ = some iv := blk_cell b1 18
  have c19 : W2.cell? ⟨w.heap.size, 19, none⟩ = some kv := blk_cell b1 19
  have HW2 := hid (show W2 = (w.alloc (.cells (brT f g mv iv kv) 30)).alloc (.cells #[.int .i64 0, .int .i64 0, .bool false, .int .i64 0, .int .i64 0, .int .i64 0, .int .i64 0, .int .i64 0, .int .i64 0, .int .i64 0, .int .i64 0, .int .i64 0, .int .i64 0, .int .i64 0, .int .i64 0, .int .i64 0, .bool false, .slice none 0 0, .slice none 0 0, .slice none 0 0, .int .u8 0, .int .i64 0, .int .i64 0, .int .i64 0, .bool false, .int .i64 0, .int .i64 0] 30) from hW2)
  clear hm hi hk hb2 b1 z1 hW2
  go_enter Tryd.func17, Tryd.ntmps17
  go_wp2_with fail
  rw [← HW2.out]
  refine wp_mono (Q := OwR f g M I K w (.agg (brT f g mv iv kv))) ?region ?rest
  case region =>
    go_region_with (first
      | (go_at_call 34; refine (HM.out _ HBX.out).mono ?_; rintro e x1 ⟨v1, rfl, hown, hb⟩; have HO1 := hid (hown.mono HBX.out.size); obtain ⟨a1, n1, k1, rfl⟩ := hown.shape; have HBB := hid (HBB.out.below hb (blk_lt HBB.out)); have HZZ := hid (blk_below HZZ.out hb (blk_lt HZZ.out)); have HBX := hid (HBX.out.trans (hb.mono HBX.out.size)); have c17 : x1.cell? ⟨w.heap.size, 17, none⟩ = some mv := blk_cell HBB.out 17; have c18 : x1.cell? ⟨w.heap.size, 18, none⟩ = some iv := blk_cell HBB.out 18; have c19 : x1.cell? ⟨w.heap.size, 19, none⟩ = some kv := blk_cell HBB.out 19; clear hown hb)
      | (go_at_call 35; refine (HI.out _ HBX.out).mono ?_; rintro e x2 ⟨v2, rfl, hown, hb⟩; have HO2 := hid (hown.mono HBX.out.size); obtain ⟨a2, n2, k2, rfl⟩ := hown.shape; have HO1 := hid (HO1.out.below hb); have HBB := hid (HBB.out.below hb (blk_lt HBB.out)); have HZZ := hid (blk_below HZZ.out hb (blk_lt HZZ.out)); have HBX := hid (HBX.out.trans (hb.mono HBX.out.size)); have c17 : x2.cell? ⟨w.heap.size, 17, none⟩ = some mv := blk_cell HBB.out 17; have c18 : x2.cell? ⟨w.heap.size, 18, none⟩ = some iv := blk_cell HBB.out 18; have c19 : x2.cell? ⟨w.heap.size, 19, none⟩ = some kv := blk_cell HBB.out 19; clear hown hb)
      | (go_at_call 36; refine (HK.out _ HBX.out).mono ?_; rintro e x3 ⟨v3, rfl, hown, hb⟩; have HO3 := hid (hown.mono HBX.out.size); obtain ⟨a3, n3, k3, rfl⟩ := hown.shape; have HO1 := hid (HO1.out.below hb); have HO2 := hid (HO2.out.below hb); have HBB := hid (HBB.out.below hb (blk_lt HBB.out)); have HZZ := hid (blk_below HZZ.out hb (blk_lt HZZ.out)); have HBX := hid (HBX.out.trans (hb.mono HBX.out.size)); have c17 : x3.cell? ⟨w.heap.size, 17, none⟩ = some mv := blk_cell HBB.out 17; have c18 : x3.cell? ⟨w.heap.size, 18, none⟩ = some iv := blk_cell HBB.out 18; have c19 : x3.cell? ⟨w.heap.size, 19, none⟩ = some kv := blk_cell HBB.out 19; have e17 : x3.frozen? ⟨w.heap.size, 17, none⟩ = false := blk_free HBB.out 17; have e18 : x3.frozen? ⟨w.heap.size, 18, none⟩ = false := blk_free HBB.out 18; have e19 : x3.frozen? ⟨w.heap.size, 19, none⟩ = false := blk_free HBB.out 19; have lx : w.heap.size < x3.heap.size := blk_lt HBB.out; clear hown hb))
    all_goals exact ⟨_, _, _, _, _, _, _, _, _, _, _, _, _, _, _, _, _, _, rfl, own_facts HBB.out HO1.out HO2.out HO3.out HBX.out HZZ.out⟩
  case rest =>
    intro e a' X hR
    match e, hR with
    | .normal, hR =>
    obtain ⟨mv', iv', kv', u3, u4, u5, u6, u7, u8, u9, u10, u11, u12, u13, u14, u15, u16, u17, rfl, hB, hO1, hO2, hO3, hb, hz⟩ := hR
    have hld := hB.load (brT_bc f g mv' iv' kv')
    obtain ⟨a1, n1, k1, rfl⟩ := hO1.shape
    obtain ⟨a2, n2, k2, rfl⟩ := hO2.shape
    obtain ⟨a3, n3, k3, rfl⟩ := hO3.shape
    have hst : (storeVar 30 ⟨w.heap.size + 1, 0, none⟩ (.agg (brT f g (.slice a1 n1 k1) (.slice a2 n2 k2) (.slice a3 n3 k3)))).run Tryd.prog X = .ok () (X.setRow (w.heap.size + 1) (brT f g (.slice a1 n1 k1) (.slice a2 n2 k2) (.slice a3 n3 k3))) :=
      run_storeVar_row X (w.heap.size + 1) 30 30 _ _ hz (brain_size (brT_bc _ _ _ _ _)) rfl (by simp [brT, Value.oneCell'])
    have HY := hid (setRow_heap X (w.heap.size + 1) _ (brT f g (.slice a1 n1 k1) (.slice a2 n2 k2) (.slice a3 n3 k3)) _ _ hz)
    have O1 := hid hO1
    have O2 := hid hO2
    have O3 := hid hO3
    have HBF := hid hb
    have HZF := hid hz
    clear hB hO1 hO2 hO3 hb hz
    go_wp2
    refine bodyPost_ret (results_cell_row rfl _ _ (w.heap.size + 1) 30 _ _ _ rfl HY.out brain_under rfl (brain_size (brT_bc _ _ _ _ _))) rfl ?_
    exact ⟨_, _, _, rfl, owns_row O1.out HZF.out (by decide) _, owns_row O2.out HZF.out (by decide) _, owns_row O3.out HZF.out (by decide) _, below_setRow HBF.out (by omega) _⟩
end Go.Proofs.YthnigndpibgibaaDoor
