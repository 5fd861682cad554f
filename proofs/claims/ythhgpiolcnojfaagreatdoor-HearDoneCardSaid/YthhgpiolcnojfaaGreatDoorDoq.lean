/- herdref20.Open of a brain of one Kept. Printed by gn_dop.py. -/
import Derived.Test.YthhgpiolcnojfaaGreatDoorDop
namespace Go.Proofs.YthhgpiolcnojfaaGreatDoor
open Go.RowKit Go.Shelf
attribute [-go_sem] loadVar storeVar
attribute [local go_sem] load_other

theorem ask_store {W : World} {T : Nat} {c rv : Array Value} (hT : W.heap[T]? = some (.cells c 80)) (hc : c.size = 6) (h6 : rv.size = 6) (h1 : rv.all (·.oneCell') = true) :
    (storeVar 80 ⟨T, 0, none⟩ (.agg rv)).run Tryz.prog W = .ok () (W.setRow T rv) :=
  run_storeVar_row W T 80 80 c rv hT (by rw [h6]; kernel_rfl) (by rw [hc, h6]) h1
theorem ask_store_new {y : World} {rv : Array Value} (h6 : rv.size = 6) (h1 : rv.all (·.oneCell') = true) : (storeVar 80 ⟨y.heap.size, 0, none⟩ (.agg rv)).run Tryz.prog (y.alloc (.cells #[.int .u8 0, .int .i64 0, .int .i64 0, .int .i64 0, .int .i64 0, .int .i64 0] 80)) = .ok () (y.alloc (.cells rv 80)) := by
  rw [ask_store (heap_new y _) rfl h6 h1, World.setRow_alloc_new]
theorem store_otherY (t : TypeId) (a : Addr) (v : Value) (_h : t ≠ 80) (h0 : ∀ w, (sizeOf t).run Tryz.prog w = .ok v.cells.size w) (w : World) : (storeVar t a v).run Tryz.prog w = (storeCells a v.cells.toList).run Tryz.prog w := by
  unfold storeVar
  simp [h0]
attribute [local go_sem] store_otherY
set_option maxRecDepth 100000 in
set_option maxHeartbeats 4000000 in
theorem dopen20_one (B : BrainV) (bv : Array Value) (k : KeptV) (now : Int) (w : World) (hB : BrIs w B (.agg bv)) (hI : B.I = []) (hK : B.K = [k]) (hid : numB k.id = true) (hnow : numB now = true) :
    Calls Tryz.prog 29 #[.agg bv, calls 524288 1 (.slice none 0 0), .int .i64 now] w (OpD (keptD k) now w) := by
  obtain ⟨i0, hi, hz0, hz1, hz2⟩ := info_parts infoC
  obtain ⟨j0, hj, hy0, hy1, hy2⟩ := info_parts infoAk
  obtain ⟨W1, hW1⟩ : ∃ W, W = ((w.alloc (.cells bv 30)).alloc (.cells #[.int .i64 524288, .int .i64 1, .slice none 0 0] 33)).alloc (.cells #[.int .i64 0, .int .i64 0, .slice none 0 0] 33) := ⟨_, rfl⟩
  have hb1 : Below w.heap.size w W1 := by rw [hW1]; exact (((Below.refl _ _).alloc (Nat.le_refl _) _).alloc (by simp) _).alloc (by simp; omega) _
  have n0 : BB W1 w.heap.size bv := by rw [hW1]; exact blk_alloc (blk_alloc (heap_new _ _) _) _
  have N1 := hidd (show W1.heap[w.heap.size + 1]? = some (.cells #[.int .i64 524288, .int .i64 1, .slice none 0 0] 33) by rw [hW1]; exact blk_alloc (heap_new2 _ _ _) _)
  have M1 := hidd (show W1.heap[w.heap.size + 1 + 1]? = some (.cells #[.int .i64 0, .int .i64 0, .slice none 0 0] 33) by rw [hW1]; simpa using heap_new2 (w.alloc _) _ _)
  have H0p := hB
  obtain ⟨mv, iv, kv, e, p1, p2, p3⟩ := hB
  have V1 := hidd (show VarIs W1 w.heap.size B (.agg bv) from by cases e; exact ⟨mv, iv, kv, rfl, n0, p1.below hb1, p2.below hb1, p3.below hb1⟩)
  have HB1 := hidd hb1
  have V0 := hidd n0
  have H0 := hidd H0p
  have HI := hidd hI
  have HK := hidd hK
  have HID := hidd hid
  have HNW := hidd hnow
  obtain ⟨D, hD⟩ : ∃ D, keptD k = D := ⟨_, rfl⟩
  have HD := hidd (show dutiesL B.I B.K = D from (duties_one hI hK).trans hD)
  have HD1 := hidd (show D.length ≤ 1 by rw [← hD]; exact (keptD_one k).1)
  have HDP := hidd (show ∀ d ∈ D, d.key = k.id ∧ d.kind = askedK k.phase ∧ askedB k.phase = true by rw [← hD]; exact (keptD_one k).2)
  have hsz : W1.heap.size = w.heap.size + 3 := by rw [hW1]; simp
  have HSZ := hidd hsz
  obtain ⟨W2, hW2⟩ : ∃ W, W = W1.alloc (.cells #[] 40) := ⟨_, rfl⟩
  have hb2 : Below W1.heap.size W1 W2 := by rw [hW2]; exact (Below.refl _ _).alloc (Nat.le_refl _) _
  have HOWN := hidd (show Own12 W2 W1.heap.size (.slice (some ⟨W1.heap.size, 0, none⟩) 0 0) ([] : List CallV) by
    rw [hW2]
    have := World.ownsRow_made (e := 40) (size := 4) (base := W1.heap.size) W1 #[] 0 (by simp) (by decide) rfl
    simpa [Owns] using this)
  have HB2 := hidd hb2
  have HW1 := hidd hW1
  have HW2 := hidd hW2
  have c1 : ([] : List CallV).length + ([] : List CallV).length ≤ maxLen := by unfold maxLen; simp
  have c2 : (([] : List CallV).length + ([] : List CallV).length) * 32 ≤ 140737488355328 := by simp
  have c3 : W1.heap.size ≤ W2.heap.size := hb2.size
  rw [hD]
  clear e p1 p2 p3 n0 H0p hb1 hI hK hid hnow hD hW1 hW2 hb2 hsz
  unfold calls
  go_enter Tryz.func29, Tryz.ntmps29
  go_upto_region 1 with (fail)
  rw [← HW1.out]
  obtain ⟨d0, d1, d2, df, dl⟩ := blk3 N1.out
  go_upto_region 2 with (at_builtin; rw [← HW2.out]; refine append_rows rfl _ _ 31 rfl W1.heap.size 40 i0 _ 32 Tryz.underlying31 hi hz0 hz1 hz2 rfl (by decide) encC_len encC_one _ [] rfl HOWN.out _ [] rfl (row_nil _) c1 c2 c3 ?_; intro v' w1 hown hgrow; obtain ⟨va, vn, vc, rfl⟩ := hown.shape; have HOW := hidd hown; have hbg : Below W1.heap.size W1 w1 := HB2.out.grown hgrow HB2.out.size (fun r e => by cases e; exact Nat.le_refl _); have HBG := hidd hbg; have NG := hidd (blk_below N1.out hbg (blk_lt N1.out)); clear hown hgrow hbg d0 d1 d2 df dl; obtain ⟨d0, d1, d2, df, dl⟩ := blk3 NG.out)
  obtain ⟨W3, hW3⟩ : ∃ W, W = w1.setCell ⟨w.heap.size + 1, 2, none⟩ (.slice va vn vc) := ⟨_, rfl⟩
  have B3 := hidd (show BB W3 w.heap.size bv by rw [hW3]; exact blk_other (blk_below V0.out HBG.out (blk_lt V0.out)) (by simp) _)
  have N3 := hidd (show W3.heap[w.heap.size + 1]? = some (.cells #[.int .i64 524288, .int .i64 1, .slice va vn vc] 33) by rw [hW3]; exact blk_set NG.out 2 _)
  have M3 := hidd (show W3.heap[w.heap.size + 1 + 1]? = some (.cells #[.int .i64 0, .int .i64 0, .slice none 0 0] 33) by rw [hW3]; exact blk_other (blk_below M1.out HBG.out (blk_lt M1.out)) (by simp) _)
  have HB3 := hidd (show Below w.heap.size w W3 by rw [hW3]; exact (HB1.out.trans (HBG.out.mono HB1.out.size)).setCell (p := ⟨w.heap.size + 1, 2, none⟩) (by simp) _)
  have R3 := hidd (show Row12 W3 (.slice va vn vc) [] by rw [hW3]; exact (owns_at HOW.out NG.out (by decide) 2 _).row encC_len (by decide))
  have HS3 := hidd (show w.heap.size + 3 ≤ W3.heap.size by rw [hW3]; have h1 := HSZ.out; have h2 := HBG.out.size; simp [World.setCell]; omega)
  rw [← hW3]
  clear hW3 d0 d1 d2 df dl
  have hld := (var_of H0.out B3.out HB3.out).load
  go_wp2_with fail
  clear hld
  refine (dof20_is (B := B) (var_of H0.out B3.out HB3.out).is (by rw [HI.out]; simp) (by rw [HK.out]; simp)).mono ?_
  rintro e W4 ⟨dv, rfl, hod, hb⟩
  rw [HD.out] at hod
  obtain ⟨da, dc, rfl, _⟩ := (hod.row encD_len (by decide)).open
  have hrd := Owns.mono hod (show w.heap.size + 3 ≤ W3.heap.size from HS3.out)
  have B4 := hidd (B3.out.below hb (blk_lt B3.out))
  have N4 := hidd (blk_below N3.out hb (blk_lt N3.out))
  have M4 := hidd (blk_below M3.out hb (blk_lt M3.out))
  have R4 := hidd (RowOf.below R3.out hb)
  have HB4 := hidd (HB3.out.trans (hb.mono HB3.out.size))
  have HRD := hidd hrd
  clear hb hod hrd
  go_wp2
  go_loopw [10, 8] (fun iv lv wr => ∃ (n : Nat) (v : Value), n ≤ D.length ∧ iv = .int .i64 n ∧ BB wr w.heap.size bv ∧ wr.heap[w.heap.size + 1]? = some (.cells #[.int .i64 524288, .int .i64 (1 + (n : Int)), v] 33) ∧ wr.heap[w.heap.size + 1 + 1]? = some (.cells #[.int .i64 0, .int .i64 0, .slice none 0 0] 33) ∧ Row12 wr v (opensD (D.take n) now) ∧ RowOf 6 encY wr lv (asksD (D.take n)) ∧ (n = 0 → lv = .slice none 0 0 ∧ OwnD wr (w.heap.size + 3) (.slice da D.length dc) D) ∧ Below w.heap.size w wr) (fun iv _ _ => D.length - (intOf iv).toNat)
  case atStart => exact ⟨0, .slice va vn vc, Nat.zero_le _, rfl, B4.out, N4.out, M4.out, R4.out, row_nil _, fun _ => ⟨rfl, HRD.out⟩, HB4.out⟩
  case round =>
    obtain ⟨n, v, hn, rfl, hbb, hnb, hmb, hr12, hra, h0, hb⟩ := hrel
    obtain ⟨Wr, hWr⟩ : ∃ W : World, W = wr := ⟨_, rfl⟩
    rw [← hWr] at hbb hnb hmb hr12 hra h0 hb ⊢
    clear hWr
    have HBr := hidd hb
    have BBr := hidd hbb
    have NBr := hidd hnb
    have MBr := hidd hmb
    have R12 := hidd hr12
    have RA := hidd hra
    have H00 := hidd h0
    clear hbb hnb hmb hr12 hra h0 hb
    by_cases hlt : n < D.length
    · have hl0 := (H00.out (by have := HD1.out; omega)).1
      have hrd := (H00.out (by have := HD1.out; omega)).2
      subst hl0
      obtain ⟨_, _, he, _, _, _, hop⟩ := (hrd.row encD_len (by decide)).open
      cases he
      obtain ⟨b1, o1, rfl, hb1, hr1⟩ := hop (by omega)
      have HB1W := hidd (show w.heap.size + 3 ≤ b1 from (Owns.block hrd b1 rfl).1)
      obtain ⟨x, hx⟩ := get_lt hlt
      obtain ⟨sv, svn, svc, rfl⟩ : ∃ a m c, v = .slice a m c := by
        obtain ⟨a, c, h, _⟩ := R12.out.open
        exact ⟨a, _, c, h⟩
      have g0 := (hr1 n x hx 0 _ rfl)
      have g1 := (hr1 n x hx 1 _ rfl)
      simp only [Nat.add_zero] at g0
      have HX := hidd hx
      have HNX := hidd (show numB x.key = true by rw [(HDP.out x (mem_get hx)).1]; exact HID.out)
      have HKX := hidd (show x.kind = 2 ∨ x.kind = 4 ∨ x.kind = 5 ∨ x.kind = 6 by have h := HDP.out x (mem_get hx); rw [h.2.1]; exact asked_kinds h.2.2)
      have HKD := hidd (show kindB x.kind = true by rcases HKX.out with h | h | h | h <;> rw [h] <;> rfl)
      have HOF := hidd (open_first HD1.out hx HNW.out HNX.out HKD.out)
      have HHS := hidd (show hasB (opensD (D.take n) now) x.kind x.key = false by
        have := lt_get hx
        have := HD1.out
        obtain rfl : n = 0 := by omega
        rfl)
      have HLN := hidd (show (opensD (D.take n) now).length ≤ 10 by unfold opensD; rw [List.length_map]; have := List.length_take_le n D; have := HD1.out; omega)
      have HWFL := hidd (show ∀ y ∈ opensD (D.take n) now, y.wf by
        have := lt_get hx
        have := HD1.out
        obtain rfl : n = 0 := by omega
        intro y hy
        cases hy)
      have hnD : (n : Int) < (D.length : Int) := by omega
      obtain ⟨xk, hxk⟩ : ∃ q, x.kind = q := ⟨_, rfl⟩
      obtain ⟨xy, hxy⟩ : ∃ q, x.key = q := ⟨_, rfl⟩
      obtain ⟨L, hL⟩ : ∃ L, opensD (D.take n) now = L := ⟨_, rfl⟩
      obtain ⟨L', hL'⟩ : ∃ L, opensD (D.take (n + 1)) now = L := ⟨_, rfl⟩
      obtain ⟨nx', hnx'⟩ : ∃ q, 1 + ((n + 1 : Nat) : Int) = q := ⟨_, rfl⟩
      have HXK := hidd hxk
      have HXY := hidd hxy
      have HL' := hidd hL'
      have HNX' := hidd hnx'
      rw [hL] at HHS HLN HWFL R12 HOF
      rw [hxk, hxy, hL', hnx'] at HOF
      rw [hxk, hxy] at HHS
      rw [hxk] at g0
      rw [hxy] at g1
      have g0 : Wr.cell? ⟨b1, o1 + n * 2, none⟩ = some (.int .u8 xk) := g0
      have g1 : Wr.cell? ⟨b1, o1 + n * 2 + 1, none⟩ = some (.int .i64 xy) := g1
      obtain ⟨d0, d1, d2, df, dl⟩ := blk3 NBr.out
      have HAV := hidd (show ∀ W, Below Wr.heap.size Wr W → Below Wr.heap.size Wr W ∧ W.cell? ⟨w.heap.size + 1, 0, none⟩ = some (.int .i64 524288) ∧ W.cell? ⟨w.heap.size + 1, 1, none⟩ = some (.int .i64 (1 + (n : Int))) ∧ W.cell? ⟨w.heap.size + 1, 2, none⟩ = some (.slice sv svn svc) ∧ W.cell? ⟨b1, o1 + n * 2, none⟩ = some (.int .u8 xk) ∧ W.cell? ⟨b1, o1 + n * 2 + 1, none⟩ = some (.int .i64 xy) from fun W hb => ⟨hb, cell_below d0 hb, cell_below d1 hb, cell_below d2 hb, cell_below g0 hb, cell_below g1 hb⟩)
      have kd0 := fun d os => cell_regrown d0 d os
      have kd1 := fun d os => cell_regrown d1 d os
      have kd2 := fun d os => cell_regrown d2 d os
      have kg0 := fun d os => cell_regrown g0 d os
      have kg1 := fun d os => cell_regrown g1 d os
      have HHAS := hidd (fun d os => Calls.regrown_of (d := d) (os := os) (w := Wr) (rhas_at 524288 (1 + (n : Int)) xk xy (.slice sv svn svc) L false _ (by have := HLN.out; omega) (RowOf.below R12.out (below_regrown Wr d os)) HHS.out))
      unfold calls at HHAS
      clear hx hr1 hrd hop hxk hxy hL hL' hnx' d0 d1 d2 g0 g1
      go_wp2
      refine wp_region_quiet_below (by kernel_rfl) (by kernel_rfl) ?_
      repeat (go_big_quiet_step (exact HHAS.out _ _))
      refine wpQuiet_nil ?_
      intro _ hw'
      obtain ⟨⟨dq, osq⟩, hw''⟩ := hw'
      subst hw''
      have hb := below_regrown Wr dq osq
      obtain ⟨V, hV⟩ : ∃ X, X = Sort.grow (redrawn Wr dq) osq := ⟨_, rfl⟩
      rw [← hV] at hb ⊢
      clear hV kd0 kd1 kd2 kg0 kg1 HHAS
      have HBV := hidd hb
      obtain ⟨_, d0, d1, d2, g0, g1⟩ := HAV.out V hb
      have HAV2 := hidd (show ∀ W, Below V.heap.size V W → Below V.heap.size V W ∧ W.cell? ⟨w.heap.size + 1, 0, none⟩ = some (.int .i64 524288) ∧ W.cell? ⟨w.heap.size + 1, 1, none⟩ = some (.int .i64 (1 + (n : Int))) ∧ W.cell? ⟨w.heap.size + 1, 2, none⟩ = some (.slice sv svn svc) ∧ W.cell? ⟨b1, o1 + n * 2, none⟩ = some (.int .u8 xk) ∧ W.cell? ⟨b1, o1 + n * 2 + 1, none⟩ = some (.int .i64 xy) from fun W hb => ⟨hb, cell_below d0 hb, cell_below d1 hb, cell_below d2 hb, cell_below g0 hb, cell_below g1 hb⟩)
      have R12V := hidd (RowOf.below R12.out hb)
      have HOPN := hidd (fun W h => ropen_any 524288 (1 + (n : Int)) xk xy now (.slice sv svn svc) L W (by have := HLN.out; omega) HWFL.out (RowOf.below R12V.out h))
      rw [HOF.out.1, HOF.out.2.1, HOF.out.2.2] at HOPN
      dsimp only at HOPN
      unfold calls at HOPN
      clear hb d0 d1 d2 g0 g1
      go_wp2_with fail
      go_region_held3 (fun W => Below V.heap.size V W ∧ W.cell? ⟨w.heap.size + 1, 0, none⟩ = some (.int .i64 524288) ∧ W.cell? ⟨w.heap.size + 1, 1, none⟩ = some (.int .i64 (1 + (n : Int))) ∧ W.cell? ⟨w.heap.size + 1, 2, none⟩ = some (.slice sv svn svc) ∧ W.cell? ⟨b1, o1 + n * 2, none⟩ = some (.int .u8 xk) ∧ W.cell? ⟨b1, o1 + n * 2 + 1, none⟩ = some (.int .i64 xy)) (first | exact HAV2.out _ (below_drewN (Below.refl _ _) 1) | exact HAV2.out _ hVX | exact HAV2.out _ (below_alloc hVX _) | exact HAV2.out _ (below3a hVX (Nat.le_refl _) _ _ _) | (go_split_ands; exact HAV2.out _ (below_call (by assumption) hbt1)) | (go_split_ands; exact HAV2.out _ (below_realloc (by assumption) hbs)) | (go_split_ands; exact HAV2.out _ (below3a (by assumption) (by first | omega | (simp; omega)) _ _ _)) | (go_split_ands; exact HAV2.out _ (below_alloc (by assumption) _))) ((go_at_call 57; go_split_ands; refine (HOPN.out _ (by assumption)).mono ?_; rintro e x1 ⟨v', rfl, hrow', hbt1⟩; have hbs := hbt1.size; have hVX : Below V.heap.size V x1 := below_call (by assumption) hbt1; obtain ⟨hcb, hfb⟩ := bcell hbt1; obtain ⟨va', vn', vc', rfl⟩ : ∃ a m c, v' = .slice a m c := row_any hrow'; have HROW := hidd hrow'; clear hrow'))
      all_goals
        go_split_ands
        first
          | (obtain ⟨X, hX⟩ : ∃ X, X = x1.alloc (.cells #[.int .i64 524288, .int .i64 nx', .slice va' vn' vc'] 33) := ⟨_, rfl⟩
             have hxb : Below V.heap.size V X := by rw [hX]; exact below_alloc hVX _
             have hxc : X.heap[x1.heap.size]? = some (.cells #[.int .i64 524288, .int .i64 nx', .slice va' vn' vc'] 33) := by rw [hX]; exact heap_new _ _
             have hxr : Row12 X (.slice va' vn' vc') L' := by rw [hX]; exact RowOf.below HROW.out ((Below.refl _ _).alloc (Nat.le_refl _) _)
             have hxt : V.heap.size ≤ x1.heap.size := hVX.size
             rw [← hX]
             obtain ⟨T11, hT⟩ : ∃ T, x1.heap.size = T := ⟨_, rfl⟩
             rw [hT] at hxc hxt ⊢)
          | (obtain ⟨X, hX⟩ : ∃ X, X = ((x1.setCell ⟨V.heap.size, 0, none⟩ (.int .i64 524288)).setCell ⟨V.heap.size, 1, none⟩ (.int .i64 nx')).setCell ⟨V.heap.size, 2, none⟩ (.slice va' vn' vc') := ⟨_, rfl⟩
             have hxb : Below V.heap.size V X := by rw [hX]; exact below3a hVX (Nat.le_refl _) _ _ _
             have hz : x1.heap[V.heap.size]? = some (.cells #[.int .i64 0, .int .i64 0, .slice none 0 0] 33) := blk_below (heap_new V.drew _) hbt1 (by simp)
             have hxc : X.heap[V.heap.size]? = some (.cells #[.int .i64 524288, .int .i64 nx', .slice va' vn' vc'] 33) := by rw [hX]; exact blk_set (blk_set (blk_set hz 0 _) 1 _) 2 _
             have hxr : Row12 X (.slice va' vn' vc') L' := by rw [hX]; exact row12_set3 HROW.out hz (by decide) _ _ _
             have hxt : V.heap.size ≤ V.heap.size := Nat.le_refl _
             rw [← hX]
             obtain ⟨T11, hT⟩ : ∃ T, V.heap.size = T := ⟨_, rfl⟩
             rw [hT] at hxc hxt ⊢
             clear hz)
        have HXB := hidd (HBV.out.trans (hxb.mono HBV.out.size))
        have BX := hidd (BBr.out.below HXB.out (blk_lt BBr.out))
        have NX := hidd (blk_below NBr.out HXB.out (blk_lt NBr.out))
        have MX := hidd (blk_below MBr.out HXB.out (blk_lt MBr.out))
        have CX := hidd hxc
        have RX := hidd hxr
        have HBX := hidd (HBr.out.trans (HXB.out.mono HBr.out.size))
        have HT := hidd (show w.heap.size + 1 + 1 < T11 by have h1 := blk_lt MBr.out; have h2 := HBV.out.size; omega)
        obtain ⟨_, _, _, _, g0, g1⟩ := HAV2.out X hxb
        have GX0 := hidd g0
        have GX1 := hidd g1
        clear hX hT hxb hxc hxr hxt hcb hfb hbs hbt1 hVX g0 g1
        obtain ⟨c0, c1, c2, cf, cl⟩ := blk3 CX.out
        obtain ⟨d0, d1, d2, df, dl⟩ := blk3 NX.out
        go_upto_region 11 with (fail)
        clear c0 c1 c2 cf cl d0 d1 d2 df dl
        obtain ⟨U, hU⟩ : ∃ U, U = ((X.setCell ⟨w.heap.size + 1, 0, none⟩ (.int .i64 524288)).setCell ⟨w.heap.size + 1, 1, none⟩ (.int .i64 nx')).setCell ⟨w.heap.size + 1, 2, none⟩ (.slice va' vn' vc') := ⟨_, rfl⟩
        have BU := hidd (show BB U w.heap.size bv by rw [hU]; exact blk_other (blk_other (blk_other BX.out (by simp) _) (by simp) _) (by simp) _)
        have NU := hidd (show U.heap[w.heap.size + 1]? = some (.cells #[.int .i64 524288, .int .i64 nx', .slice va' vn' vc'] 33) by rw [hU]; exact blk_set (blk_set (blk_set NX.out 0 _) 1 _) 2 _)
        have MU := hidd (show U.heap[w.heap.size + 1 + 1]? = some (.cells #[.int .i64 0, .int .i64 0, .slice none 0 0] 33) by rw [hU]; exact blk_other (blk_other (blk_other MX.out (by simp) _) (by simp) _) (by simp) _)
        have HBU := hidd (show Below w.heap.size w U by rw [hU]; exact below3a HBX.out (by omega) _ _ _)
        have RU := hidd (show Row12 U (.slice va' vn' vc') L' by rw [hU]; exact row12_set3 RX.out NX.out (Nat.le_refl 3) _ _ _)
        have g0 : U.cell? ⟨b1, o1 + n * 2, none⟩ = some (.int .u8 xk) := by rw [hU, World.cell?_setCell_far _ _ _ _ (by have := HB1W.out; simp; omega), World.cell?_setCell_far _ _ _ _ (by have := HB1W.out; simp; omega), World.cell?_setCell_far _ _ _ _ (by have := HB1W.out; simp; omega)]; exact GX0.out
        have g1 : U.cell? ⟨b1, o1 + n * 2 + 1, none⟩ = some (.int .i64 xy) := by rw [hU, World.cell?_setCell_far _ _ _ _ (by have := HB1W.out; simp; omega), World.cell?_setCell_far _ _ _ _ (by have := HB1W.out; simp; omega), World.cell?_setCell_far _ _ _ _ (by have := HB1W.out; simp; omega)]; exact GX1.out
        have hbu := BU.out
        have HAU := hidd (show ∀ W, Below U.heap.size U W → Below U.heap.size U W ∧ W.cell? ⟨b1, o1 + n * 2, none⟩ = some (.int .u8 xk) ∧ W.cell? ⟨b1, o1 + n * 2 + 1, none⟩ = some (.int .i64 xy) ∧ (loadVar 30 ⟨w.heap.size, 0, none⟩).run Tryz.prog W = .ok (.agg bv) W from fun W hb => ⟨hb, cell_below g0 hb, cell_below g1 hb, (var_of H0.out (hbu.below hb (blk_lt hbu)) (HBU.out.trans (hb.mono HBU.out.size))).load⟩)
        have HASK := hidd (fun W (h : Below U.heap.size U W) => rask20_letter B bv xk xy 549755813889 (by have := HKX.out; rw [HXK.out] at this; omega) (by rw [← HXK.out, ← HXY.out, HD.out]; exact decide_eq_true (mem_get HX.out)) W (var_of H0.out (hbu.below h (blk_lt hbu)) (HBU.out.trans (h.mono HBU.out.size))).is (by rw [HI.out]; simp) (by rw [HK.out]; simp))
        rw [← hU]
        clear hU hbu g0 g1
        have Q0 := hidd (HAU.out U.drew (below_drewN (Below.refl _ _) 1))
        have Q1 := hidd (HAU.out (U.drew.alloc (.cells #[.int .u8 0, .int .i64 0, .int .i64 0, .int .i64 0, .int .i64 0, .int .i64 0] 80)) ((below_drewN (Below.refl U.heap.size U) 1).alloc (Nat.le_refl _) _))
        go_region_held3 (fun W => Below U.heap.size U W ∧ W.cell? ⟨b1, o1 + n * 2, none⟩ = some (.int .u8 xk) ∧ W.cell? ⟨b1, o1 + n * 2 + 1, none⟩ = some (.int .i64 xy) ∧ (loadVar 30 ⟨w.heap.size, 0, none⟩).run Tryz.prog W = .ok (.agg bv) W) (first | exact Q0.out | exact Q1.out | exact Q2.out | exact Q3.out | exact Q4.out | exact Q5.out) ((go_at_call 58; go_split_ands; refine (HASK.out _ (by assumption)).mono ?_; rintro e x2 ⟨rv, rfl, HRV, h6, h1c, hbt2⟩; have hst1 := ask_store_new (y := x2) h6 h1c; have hUX : Below U.heap.size U x2 := below_call (by assumption) hbt2; have HUX := hidd hUX; have Q2 := hidd (HAU.out x2 hUX); have Q3 := hidd (HAU.out (x2.alloc (.cells #[.int .u8 0, .int .i64 0, .int .i64 0, .int .i64 0, .int .i64 0, .int .i64 0] 80)) (below_alloc hUX _)); have Q4 := hidd (HAU.out (x2.alloc (.cells rv 80)) (below_alloc hUX _)); try (have z := blk_below (heap_new U.drew (.cells #[.int .u8 0, .int .i64 0, .int .i64 0, .int .i64 0, .int .i64 0, .int .i64 0] 80)) hbt2 (by simp); have hst2 := ask_store (show x2.heap[U.heap.size]? = _ from z) rfl h6 h1c; have ZZ := hidd z; have zl : U.heap.size < x2.heap.size := blk_lt z; have Q5 := hidd (HAU.out (x2.setRow U.heap.size rv) (below_setRow hUX (Nat.le_refl _) rv)); clear z); clear h6 h1c hUX hbt2))
        all_goals
          go_split_ands
          first
            | (obtain ⟨Y, hY⟩ : ∃ Y, Y = x2.alloc (.cells rv 80) := ⟨_, rfl⟩
               have hyb : Below U.heap.size U Y := by rw [hY]; exact below_alloc HUX.out _
               have hyc : Y.heap[x2.heap.size]? = some (.cells rv 80) := by rw [hY]; exact heap_new _ _
               rw [← hY]
               obtain ⟨T14, hT⟩ : ∃ T, x2.heap.size = T := ⟨_, rfl⟩
               rw [hT] at hyc ⊢)
            | (obtain ⟨Y, hY⟩ : ∃ Y, Y = x2.setRow U.heap.size rv := ⟨_, rfl⟩
               have hyb : Below U.heap.size U Y := by rw [hY]; exact below_setRow HUX.out (Nat.le_refl _) rv
               have hyc : Y.heap[U.heap.size]? = some (.cells rv 80) := by rw [hY]; exact setRow_heap _ _ _ _ _ _ ZZ.out
               rw [← hY]
               obtain ⟨T14, hT⟩ : ∃ T, U.heap.size = T := ⟨_, rfl⟩
               rw [hT] at hyc ⊢)
          try clear hst2 ZZ zl Q5
          clear Q0 Q1 Q2 Q3 Q4 hst1 HUX
          rw [HRV.out] at hyc ⊢
          clear HRV
          obtain ⟨y0, y1, y2, y3, y4, y5, yf, yl⟩ := blk6 hyc
          have HYB := hidd hyb
          clear hY hT hyc hyb
          have e1 : ([] : List AskY).length + 1 ≤ maxLen := by unfold maxLen; simp
          have e2 : (([] : List AskY).length + 1) * 48 ≤ 140737488355328 := by simp
          have e3 : Y.heap.size ≤ (Y.alloc (.cells #[.int .u8 xk, .int .i64 549755813889, .int .i64 xy, .int .i64 0, .int .i64 0, .int .i64 0] 80)).heap.size := by simp
          go_wp2_with (at_builtin; refine append_one rfl _ _ 74 rfl Y.heap.size 80 j0 _ 48 Tryz.underlying74 hj hy0 hy1 hy2 rfl (by decide) encY_len encY_one (.slice none 0 0) ([] : List AskY) rfl (Owns.nil _ _) ⟨Y.heap.size, 0, none⟩ ⟨xk, 549755813889, xy⟩ rfl (new_cellsY Y ⟨xk, 549755813889, xy⟩ _) e1 e2 e3 ?_; intro lv' w5 hown hbw hgrow; have HOW5 := hidd hown; have HBW5 := hidd hbw; clear hown hbw hgrow)
          have hbq : Below U.heap.size U w5 := HYB.out.trans ((((Below.refl Y.heap.size Y).alloc (Nat.le_refl _) _).trans HBW5.out).mono HYB.out.size)
          have HAD := hidd (show asksD (D.take (n + 1)) = [⟨xk, 549755813889, xy⟩] by
            have h1 := HX.out
            have h2 := lt_get h1
            have h3 := HD1.out
            obtain rfl : n = 0 := by omega
            rw [List.take_add_one, h1, ← HXK.out, ← HXY.out]
            rfl)
          go_roundw
          case rel => exact ⟨n + 1, .slice va' vn' vc', by omega, by go_num, BU.out.below hbq (blk_lt BU.out), by rw [HNX'.out]; exact blk_below NU.out hbq (blk_lt NU.out), blk_below MU.out hbq (blk_lt MU.out), by rw [HL'.out]; exact RowOf.below RU.out hbq, by rw [HAD.out]; exact HOW5.out.row encY_len (by decide), fun h => absurd h (by omega), HBU.out.trans (hbq.mono HBU.out.size)⟩
          case measure => simp [intOf]; omega
    · obtain rfl : n = D.length := by omega
      rw [List.take_length] at R12 RA
      obtain ⟨sv, svn, svc, rfl⟩ := row_any R12.out
      have RA := RA
      obtain ⟨la, ln, lc, rfl⟩ := row_any RA.out
      obtain ⟨d0, d1, d2, df, dl⟩ := blk3 NBr.out
      obtain ⟨m0, m1, m2, mf, ml⟩ := blk3 MBr.out
      go_wp2
      refine bodyPost_ret (res_calls_t rfl rfl rfl (blk_set (blk_set (blk_set MBr.out 0 _) 1 _) 2 _)) rfl ?_
      refine ⟨_, _, rfl, row12_set3 R12.out MBr.out (Nat.le_refl 3) _ _ _, row6_set3 RA.out MBr.out (Nat.le_refl 3) _ _ _, below3a HBr.out (by omega) _ _ _⟩
end Go.Proofs.YthhgpiolcnojfaaGreatDoor
