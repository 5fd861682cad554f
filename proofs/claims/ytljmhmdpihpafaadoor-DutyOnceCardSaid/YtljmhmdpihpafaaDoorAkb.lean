/- duty.ask at a launch. -/
import Derived.Test.YtljmhmdpihpafaaDoorAkM
namespace Go.Proofs.YtljmhmdpihpafaaDoor
open Go.RowKit Go.Shelf
attribute [-go_sem] loadVar
attribute [local go_sem] load_other

set_option maxHeartbeats 4000000 in
set_option maxRecDepth 100000 in
theorem ask_launch (cs : Array Value) (iv kv : Value) (hcs : BC cs iv kv) (I : List IntentV) (ky id : Int) (w : World) (hl1 : I.length ≤ 1000) (hI : RowOf 4 encIn w iv I)
    (k : Nat) (x : IntentV) (hx : I[k]? = some x) (ht : tokI I ky = (k : Int)) (dv : Int) (hdv : dv = if x.warm then 1 else 0) :
    Calls Tryd.prog 24 #[.agg cs, encDv ⟨1, ky⟩, .int .i64 id] w fun e w' => e = .returned (encAv ⟨1, id, ky, x.version, x.zone, dv⟩) ∧ Below w.heap.size w w' := by
  have HCS := hid hcs
  have hkl := lt_get hx
  obtain ⟨ia, ic, rfl, hn1, hn2, hn3, hop⟩ := hI.open
  obtain ⟨b1, o1, rfl, hb1, hr1⟩ := hop (by omega)
  obtain ⟨W0, hW0⟩ : ∃ W0, W0 = (((w.alloc (.cells cs 30)).alloc (.cells #[.int .u8 1, .int .i64 ky] 47)).alloc (.cells #[.int .u8 0, .int .i64 0, .int .i64 0, .int .i64 0, .int .i64 0, .int .i64 0] 52)).alloc (.cells #[.int .u8 1, .int .i64 id, .int .i64 ky, .int .i64 0, .int .i64 0, .int .i64 0] 52) := ⟨_, rfl⟩
  have hz : W0.heap.size = w.heap.size + 4 := by rw [hW0]; simp
  have hB : Below w.heap.size w W0 := by rw [hW0]; exact ((((Below.refl _ _).alloc (Nat.le_refl _) _).alloc (by simp) _).alloc (by simp; omega) _).alloc (by simp; omega) _
  have BX := hid (show BB W0 w.heap.size cs by rw [hW0]; exact blk_alloc (blk_alloc (blk_alloc (heap_new _ _) _) _) _)
  have BD := hid (show W0.heap[w.heap.size + 1]? = some (.cells #[.int .u8 1, .int .i64 ky] 47) by rw [hW0]; exact blk_alloc (blk_alloc (heap_new2 _ _ _) _) _)
  have B2 := hid (show W0.heap[w.heap.size + 2]? = some (.cells #[.int .u8 0, .int .i64 0, .int .i64 0, .int .i64 0, .int .i64 0, .int .i64 0] 52) by rw [hW0]; exact blk_alloc (by simpa using heap_new ((w.alloc (.cells cs 30)).alloc (.cells #[.int .u8 1, .int .i64 ky] 47)) (.cells #[.int .u8 0, .int .i64 0, .int .i64 0, .int .i64 0, .int .i64 0, .int .i64 0] 52)) _)
  have B3 := hid (show W0.heap[w.heap.size + 3]? = some (.cells #[.int .u8 1, .int .i64 id, .int .i64 ky, .int .i64 0, .int .i64 0, .int .i64 0] 52) by rw [hW0]; simpa using heap_new (((w.alloc (.cells cs 30)).alloc (.cells #[.int .u8 1, .int .i64 ky] 47)).alloc (.cells #[.int .u8 0, .int .i64 0, .int .i64 0, .int .i64 0, .int .i64 0, .int .i64 0] 52)) (.cells #[.int .u8 1, .int .i64 id, .int .i64 ky, .int .i64 0, .int .i64 0, .int .i64 0] 52))
  have RI := hid (RowOf.below hI hB)
  have Z := hid hB
  have IV := hid (BX.out.two hcs).1
  obtain ⟨f0, f1, f2, f3⟩ := rowI (hr1.below hB hb1) hx
  have F0 := hid f0
  have F1 := hid f1
  have F2 := hid f2
  have F3 := hid f3
  have HT := hid ht
  have HDV := hid hdv
  have hw := hid hW0
  have hkL : (k : Int) < (I.length : Int) := by omega
  clear hW0 hB hI hcs hop hx hr1 f0 f1 f2 f3 ht hdv
  have C1 := hid (blk2 BD.out).2.1
  have HALL := hid (show ∀ W, Below W0.heap.size W0 W → Below W0.heap.size W0 W ∧ W.cell? ⟨w.heap.size + 1, 1, none⟩ = some (.int .i64 ky) ∧ W.cell? ⟨w.heap.size, 18, none⟩ = some (.slice (some ⟨b1, o1, none⟩) I.length ic) ∧ W.cell? ⟨b1, o1 + k * 4, none⟩ = some (.int .i64 x.token) ∧ W.cell? ⟨b1, o1 + k * 4 + 1, none⟩ = some (.int .i64 x.version) ∧ W.cell? ⟨b1, o1 + k * 4 + 2, none⟩ = some (.int .i64 x.zone) ∧ W.cell? ⟨b1, o1 + k * 4 + 3, none⟩ = some (.bool x.warm) ∧ (loadVar 30 ⟨w.heap.size, 0, none⟩).run Tryd.prog W = .ok (.agg cs) W from fun W hb => ⟨hb, cell_below C1.out hb, cell_below IV.out hb, cell_below F0.out hb, cell_below F1.out hb, cell_below F2.out hb, cell_below F3.out hb, BB.load (BX.out.below hb (blk_lt BX.out)) HCS.out⟩)
  unfold encDv
  go_enter Tryd.func24, Tryd.ntmps24
  go_wp2_with fail
  rw [← hw.out]
  clear hw
  go_region_held3 (fun W => Below W0.heap.size W0 W ∧ W.cell? ⟨w.heap.size + 1, 1, none⟩ = some (.int .i64 ky) ∧ W.cell? ⟨w.heap.size, 18, none⟩ = some (.slice (some ⟨b1, o1, none⟩) I.length ic) ∧ W.cell? ⟨b1, o1 + k * 4, none⟩ = some (.int .i64 x.token) ∧ W.cell? ⟨b1, o1 + k * 4 + 1, none⟩ = some (.int .i64 x.version) ∧ W.cell? ⟨b1, o1 + k * 4 + 2, none⟩ = some (.int .i64 x.zone) ∧ W.cell? ⟨b1, o1 + k * 4 + 3, none⟩ = some (.bool x.warm) ∧ (loadVar 30 ⟨w.heap.size, 0, none⟩).run Tryd.prog W = .ok (.agg cs) W) (first | exact HALL.out _ (below_drewN (Below.refl _ _) 1) | (go_split_ands; exact HALL.out _ (below_call (by assumption) hbt)) | (go_split_ands; exact HALL.out _ (below_realloc (by assumption) hbs)) | (go_split_ands; exact HALL.out _ (below_set4 (by assumption) (by first | omega | (simp; omega)) _ _ _ _)) | (go_split_ands; exact HALL.out _ (below_alloc (by assumption) _))) ((go_at_call 37; go_split_ands; refine (token_any cs _ kv HCS.out I ky _ (RowOf.below RI.out (by assumption)) hl1).mono ?_; rintro e x1 ⟨rfl, hbt⟩; have hbs := hbt.size; obtain ⟨hcb, hfb⟩ := bcell hbt; rw [HT.out]))
  · go_split_ands
    obtain ⟨V, hV⟩ : ∃ V, V = x1.alloc (.cells #[.int .i64 x.token, .int .i64 x.version, .int .i64 x.zone, .bool x.warm] 56) := ⟨_, rfl⟩
    have hEV : Below W0.heap.size W0 V := by rw [hV]; assumption
    have I0 : V.heap[x1.heap.size]? = some (.cells #[.int .i64 x.token, .int .i64 x.version, .int .i64 x.zone, .bool x.warm] 56) := by rw [hV]; exact heap_new _ _
    rw [← hV]
    have hzv := hEV.size
    have C2 := hid (blk_below B2.out hEV (blk_lt B2.out))
    have C3 := hid (blk_below B3.out hEV (blk_lt B3.out))
    have BV := hid (Z.out.trans (hEV.mono Z.out.size))
    have hx1 : w.heap.size + 4 ≤ x1.heap.size := by first | exact Nat.le_refl _ | (have : W0.heap.size ≤ x1.heap.size := hbs; omega)
    clear hV hEV
    obtain ⟨i0, i1, i2, i3, if_, il⟩ := blk4 I0
    obtain ⟨a0, a1, a2, a3, a4, a5, af, al⟩ := blk6 C3.out
    obtain ⟨z0, z1, z2, z3, z4, z5, zf, zl⟩ := blk6 C2.out
    have hn1' : ¬ x1.heap.size = w.heap.size + 3 := by omega
    have hn2' : ¬ x1.heap.size = w.heap.size + 2 := by omega
    obtain ⟨bi, hbi⟩ : ∃ bi, bi = x1.heap.size := ⟨_, rfl⟩
    rw [← hbi] at i0 i1 i2 i3 if_ il hn1' hn2' ⊢
    clear I0 hbi hbs hcb hfb hbt hx1
    obtain ⟨wm, hwm⟩ : ∃ wm, x.warm = wm := ⟨_, rfl⟩
    rw [hwm] at i3
    have hdv := HDV.out
    rw [hwm] at hdv
    clear HDV hwm
    cases wm with
    | true =>
      obtain rfl : dv = 1 := by simpa using hdv
      clear hdv
      go_wp2_with fail
      go_region
      all_goals go_wp2
      all_goals
        refine bodyPost_ret (res_ask (b := w.heap.size + 1 + 1) (x0 := .int .u8 1) (x1 := .int .i64 id) (x2 := .int .i64 ky) (x3 := .int .i64 x.version) (x4 := .int .i64 x.zone) (x5 := .int .i64 1) rfl rfl ?_) rfl ⟨rfl, ?_⟩
        · exact fin3 (by omega) C2.out _ _ _ _ _ _ _ _ _
        · exact finb3 (by omega) (by omega) BV.out _ _ _ _ _ _ _ _ _
    | false =>
      obtain rfl : dv = 0 := by simpa using hdv
      clear hdv
      go_wp2_with fail
      go_region
      all_goals go_wp2
      all_goals
        refine bodyPost_ret (res_ask (b := w.heap.size + 1 + 1) (x0 := .int .u8 1) (x1 := .int .i64 id) (x2 := .int .i64 ky) (x3 := .int .i64 x.version) (x4 := .int .i64 x.zone) (x5 := .int .i64 0) rfl rfl ?_) rfl ⟨rfl, ?_⟩
        · exact fin2 (by omega) C2.out _ _ _ _ _ _ _ _
        · exact finb2 (by omega) (by omega) BV.out _ _ _ _ _ _ _ _
  · go_split_ands
    obtain ⟨V, hV⟩ : ∃ V, V = (((x1.setCell ⟨w.heap.size + 4, 0, none⟩ (.int .i64 x.token)).setCell ⟨w.heap.size + 4, 1, none⟩ (.int .i64 x.version)).setCell ⟨w.heap.size + 4, 2, none⟩ (.int .i64 x.zone)).setCell ⟨w.heap.size + 4, 3, none⟩ (.bool x.warm) := ⟨_, rfl⟩
    have hEV : Below W0.heap.size W0 V := by rw [hV]; assumption
    have I0 : V.heap[w.heap.size + 4]? = some (.cells #[.int .i64 x.token, .int .i64 x.version, .int .i64 x.zone, .bool x.warm] 56) := by rw [hV]; exact blk_set (blk_set (blk_set (blk_set (show x1.heap[w.heap.size + 4]? = some (.cells #[.int .i64 0, .int .i64 0, .int .i64 0, .bool false] 56) by rw [← hz]; exact blk_below (heap_new W0.drew _) hbt (by simp)) 0 _) 1 _) 2 _) 3 _
    rw [← hV]
    have hzv := hEV.size
    have C2 := hid (blk_below B2.out hEV (blk_lt B2.out))
    have C3 := hid (blk_below B3.out hEV (blk_lt B3.out))
    have BV := hid (Z.out.trans (hEV.mono Z.out.size))
    have hx1 : w.heap.size + 4 ≤ w.heap.size + 4 := by first | exact Nat.le_refl _ | (have : W0.heap.size ≤ x1.heap.size := hbs; omega)
    clear hV hEV
    obtain ⟨i0, i1, i2, i3, if_, il⟩ := blk4 I0
    obtain ⟨a0, a1, a2, a3, a4, a5, af, al⟩ := blk6 C3.out
    obtain ⟨z0, z1, z2, z3, z4, z5, zf, zl⟩ := blk6 C2.out
    have hn1' : ¬ w.heap.size + 4 = w.heap.size + 3 := by omega
    have hn2' : ¬ w.heap.size + 4 = w.heap.size + 2 := by omega
    obtain ⟨bi, hbi⟩ : ∃ bi, bi = w.heap.size + 4 := ⟨_, rfl⟩
    rw [← hbi] at i0 i1 i2 i3 if_ il hn1' hn2' ⊢
    clear I0 hbi hbs hcb hfb hbt hx1
    obtain ⟨wm, hwm⟩ : ∃ wm, x.warm = wm := ⟨_, rfl⟩
    rw [hwm] at i3
    have hdv := HDV.out
    rw [hwm] at hdv
    clear HDV hwm
    cases wm with
    | true =>
      obtain rfl : dv = 1 := by simpa using hdv
      clear hdv
      go_wp2_with fail
      go_region
      all_goals go_wp2
      all_goals
        refine bodyPost_ret (res_ask (b := w.heap.size + 1 + 1) (x0 := .int .u8 1) (x1 := .int .i64 id) (x2 := .int .i64 ky) (x3 := .int .i64 x.version) (x4 := .int .i64 x.zone) (x5 := .int .i64 1) rfl rfl ?_) rfl ⟨rfl, ?_⟩
        · exact fin3 (by omega) C2.out _ _ _ _ _ _ _ _ _
        · exact finb3 (by omega) (by omega) BV.out _ _ _ _ _ _ _ _ _
    | false =>
      obtain rfl : dv = 0 := by simpa using hdv
      clear hdv
      go_wp2_with fail
      go_region
      all_goals go_wp2
      all_goals
        refine bodyPost_ret (res_ask (b := w.heap.size + 1 + 1) (x0 := .int .u8 1) (x1 := .int .i64 id) (x2 := .int .i64 ky) (x3 := .int .i64 x.version) (x4 := .int .i64 x.zone) (x5 := .int .i64 0) rfl rfl ?_) rfl ⟨rfl, ?_⟩
        · exact fin2 (by omega) C2.out _ _ _ _ _ _ _ _
        · exact finb2 (by omega) (by omega) BV.out _ _ _ _ _ _ _ _
end Go.Proofs.YtljmhmdpihpafaaDoor
