import Derived.Test.YthhgpiolcnojfaaGreatDoorCtm
import Derived.Test.YthhgpiolcnojfaaGreatDoorRso
import Derived.Test.YthhgpiolcnojfaaGreatDoorRb7
import Derived.Deep.Cut
/- herdref22.Hear: what comes of an answer, by definition. Printed by gn_rhr.py. -/
namespace Go.Proofs.YthhgpiolcnojfaaGreatDoor
open Go.RowKit Go.Shelf
attribute [-go_sem] loadVar storeVar Instr.buildSlice
attribute [local go_sem] load_other store_other

theorem says_kinds {k d key id now kk : Int} {L : List Int} (h : saysL k d key id now = some (kk, L)) : (kk = 4 ∧ L.length = 3) ∨ (kk = 5 ∧ L.length = 1) ∨ (kk = 6 ∧ L.length = 3) ∨ (kk = 7 ∧ L.length = 1) := by
 unfold saysL at h
 repeat' split at h
 all_goals first | (cases h; simp) | cases h
theorem res_rhear {fn : Func} {tmps : Array Value} {r q : Tmp} {d : Nat} {v x y z : Value} {u : TypeId} {W : World} (hres : fn.results = #[.tmp r, .cell q 33]) (h : tmps.getD r undef = v) (h' : tmps.getD q undef = .pointer (some ⟨d, 0, none⟩)) (hd : W.heap[d]? = some (.cells #[x, y, z] u)) :
  (results fn tmps).run Tryz.prog W = .ok (.tuple #[v, .agg #[x, y, z]]) W := by
 have z0 := blk_cell hd 0
 have z1 := blk_cell hd 1
 have z2 := blk_cell hd 2
 simp only [List.getElem?_toArray, List.getElem?_cons_succ, List.getElem?_cons_zero] at z0 z1 z2
 rw [Array.getD_eq_getD_getElem?] at h h'
 simp [results, hres, go_sem, h, h', z0, z1, z2]
theorem set_row12h {W : World} {s : Value} {l : List CallV} {T : Nat} {c : Array Value} {t : TypeId} (h : Row12 W s l) (hT : W.heap[T]? = some (.cells c t)) (hc : c.size ≤ 3) (j : Nat) (u : Value) : Row12 (W.setCell ⟨T, j, none⟩ u) s l := by
 rcases h with h | ⟨h0, b, off, cc, rfl, h1, h2, hb, hr⟩
 ·exact .inl h
 ·obtain ⟨x, hx⟩ := get_lt h0
  have h3 := hr 0 x hx 3 _ rfl
  have hne : b ≠ T := by
   intro e
   subst e
   rw [blk_cell hT] at h3
   have := (Array.getElem?_eq_some_iff.1 h3).1
   omega
  refine .inr ⟨h0, b, off, cc, rfl, h1, h2, by simpa using hb, fun i x hx j' v hj => ?_⟩
  rw [World.cell?_setCell_far _ _ _ _ (by simpa using Ne.symm hne)]
  exact hr i x hx j' v hj
theorem set_calls {W : World} {s : Value} {l : List CallV} {T : Nat} {c0 c1 c2 : Value} {t : TypeId} (h : Row12 W s l) (hT : W.heap[T]? = some (.cells #[c0, c1, c2] t)) (x y z : Value) : Row12 (((W.setCell ⟨T, 0, none⟩ x).setCell ⟨T, 1, none⟩ y).setCell ⟨T, 2, none⟩ z) s l :=
 set_row12h (set_row12h (set_row12h h hT (by simp) 0 x) (blk_set hT 0 _) (by simp) 1 y) (blk_set (blk_set hT 0 _) 1 _) (by simp) 2 z
/-- Calls' box, stored; a step of fate behind it. -/
theorem rhear_out {V w : World} {T a : Nat} {c0 c1 c2 : Value} {u : TypeId} (h4 : V.heap[T]? = some (.cells #[c0, c1, c2] u)) (hb : Below a w V) (ha : a ≤ T) (x y z : Value) :
  (((V.setCell ⟨T, 0, none⟩ x).setCell ⟨T, 1, none⟩ y).setCell ⟨T, 2, none⟩ z).heap[T]? = some (.cells #[x, y, z] u) ∧ Below a w (((V.setCell ⟨T, 0, none⟩ x).setCell ⟨T, 1, none⟩ y).setCell ⟨T, 2, none⟩ z) :=
 ⟨set3 h4 x y z, ((hb.setCell (p := ⟨T, 0, none⟩) ha _).setCell (p := ⟨T, 1, none⟩) ha _).setCell (p := ⟨T, 2, none⟩) ha _⟩
set_option maxRecDepth 100000 in
set_option maxHeartbeats 4000000 in
theorem rhear_any (B : BrainV) (bv : Array Value) (ep nx c k d i now : Int) (s : Value) (L : List CallV) (sa : Option Addr) (sn sc : Nat) (m : Bool) (w : World) (hB : BrIs w B (.agg bv)) (hs : Row12 w s L) (hn : L.length ≤ 1000) (hwf : ∀ x ∈ L, x.wf)
  (hF : Fine B 900) (hlM : B.M.length ≤ 17592186043904) :
  Calls Tryz.prog 15 #[.agg bv, calls ep nx s, tellT c k d i (.slice sa sn sc) m, .int .i64 now] w (HEnd B ⟨ep, nx, L⟩ c k d i now w) := by
 obtain ⟨va, vc, rfl, _⟩ := hs.open
 obtain ⟨W1, hW1⟩ : ∃ W1, W1 = (((w.alloc (.cells bv 30)).alloc (.cells #[.int .i64 ep, .int .i64 nx, .slice va L.length vc] 33)).alloc (.cells #[.int .i64 c, .int .u8 k, .int .u8 d, .int .i64 i, .slice sa sn sc, .bool m] 36)).alloc (.cells #[.int .i64 0, .int .i64 0, .slice none 0 0] 33) := ⟨_, rfl⟩
 have hb1 : Below w.heap.size w W1 := by rw [hW1]; exact ((((Below.refl _ _).alloc (Nat.le_refl _) _).alloc (by simp) _).alloc (by simp; omega) _).alloc (by simp; omega) _
 have n0 : BB W1 w.heap.size bv := by rw [hW1]; exact blk_alloc (blk_alloc (blk_alloc (heap_new _ _) _) _) _
 have n1 : W1.heap[w.heap.size + 1]? = some (.cells #[.int .i64 ep, .int .i64 nx, .slice va L.length vc] 33) := by rw [hW1]; exact blk_alloc (blk_alloc (heap_new2 _ _ _) _) _
 have n2 : W1.heap[w.heap.size + 1 + 1]? = some (.cells #[.int .i64 c, .int .u8 k, .int .u8 d, .int .i64 i, .slice sa sn sc, .bool m] 36) := by rw [hW1]; exact blk_alloc (by simpa using heap_new2 (w.alloc _) _ _) _
 have n4 : W1.heap[w.heap.size + 1 + 1 + 1]? = some (.cells #[.int .i64 0, .int .i64 0, .slice none 0 0] 33) := by rw [hW1]; simpa using heap_new2 ((w.alloc _).alloc _) _ _
 have HH := hid (rheard_any ep nx c k d i _ L sa sn sc m W1 (by omega) (hs.below hb1))
 obtain ⟨mv, iv, kv, e, h1, h2, h3⟩ := hB
 have HV := hid (show VarIs W1 w.heap.size B (.agg bv) from by cases e; exact ⟨mv, iv, kv, rfl, n0, h1.below hb1, h2.below hb1, h3.below hb1⟩)
 have HB1 := hid hb1
 have N1 := hid n1
 have N2 := hid n2
 have N4 := hid n4
 have HS := hid hs
 have HF := hid hF
 have HWF := hid hwf
 clear e h1 h2 h3 n0 n1 n2 n4 hb1 hs hF hwf
 unfold calls tellT
 go_enter Tryz.func15, Tryz.ntmps15
 go_upto_region 1 with (fail)
 rw [← hW1]
 clear hW1
 obtain ⟨k0, k1, k2, kf, kl⟩ := blk3 N1.out
 have t0 : W1.cell? ⟨w.heap.size + 1 + 1, 0, none⟩ = some (.int .i64 c) := blk_cell N2.out 0
 have t1 : W1.cell? ⟨w.heap.size + 1 + 1, 1, none⟩ = some (.int .u8 k) := blk_cell N2.out 1
 have t2 : W1.cell? ⟨w.heap.size + 1 + 1, 2, none⟩ = some (.int .u8 d) := blk_cell N2.out 2
 have t3 : W1.cell? ⟨w.heap.size + 1 + 1, 3, none⟩ = some (.int .i64 i) := blk_cell N2.out 3
 have t4 : W1.cell? ⟨w.heap.size + 1 + 1, 4, none⟩ = some (.slice sa sn sc) := blk_cell N2.out 4
 have t5 : W1.cell? ⟨w.heap.size + 1 + 1, 5, none⟩ = some (.bool m) := blk_cell N2.out 5
 have tl := blk_lt N2.out
 go_wp2_with fail
 refine HH.out.mono ?_
 rintro e V ⟨rfl, hb⟩
 obtain ⟨⟨y, b⟩, hy⟩ : ∃ r, heardL L c k = r := ⟨_, rfl⟩
 have HY := hid hy
 rw [hy]
 obtain ⟨V2, hV2⟩ : ∃ V2, V2 = V.alloc (.cells #[.int .i64 y.id, .int .u8 y.kind, .int .i64 y.key, .int .i64 y.sent] 40) := ⟨_, rfl⟩
 have hb2 : Below W1.heap.size W1 V2 := hb.trans (by rw [hV2]; exact ((Below.refl _ _).alloc (Nat.le_refl _) _).mono hb.size)
 have HB2 := hid (HB1.out.trans (hb2.mono HB1.out.size))
 have HV2 := hid (HV.out.below hb2)
 have M1 := hid (blk_below N1.out hb2 (blk_lt N1.out))
 have M2 := hid (blk_below N2.out hb2 (blk_lt N2.out))
 have M4 := hid (blk_below N4.out hb2 (blk_lt N4.out))
 have QY0 : V2.heap[V.heap.size]? = some (.cells #[.int .i64 y.id, .int .u8 y.kind, .int .i64 y.key, .int .i64 y.sent] 40) := by rw [hV2]; exact heap_new _ _
 have HS2 := hid (HS.out.below HB2.out)
 clear hb hb2 hy HH k0 k1 k2 kf kl t0 t1 t2 t3 t4 t5 tl
 unfold encS
 go_upto_region 2 with (fail)
 rw [← hV2]
 obtain ⟨T10, hT10⟩ : ∃ T, V.heap.size = T := ⟨_, rfl⟩
 have QY := hid QY0
 rw [hT10] at QY ⊢
 clear hT10 QY0 hV2
 obtain ⟨y0, y1, y2, y3, yf, yl⟩ := blk4 QY.out
 obtain ⟨k0, k1, k2, kf, kl⟩ := blk3 M1.out
 obtain ⟨z0, z1, z2, zf, zl⟩ := blk3 M4.out
 cases b with
 | false =>
  have HE := hid (show hearL B ⟨ep, nx, L⟩ c k d i now = [] ∧ hearC ⟨ep, nx, L⟩ c k = L by unfold hearL hearC; rw [show (⟨ep, nx, L⟩ : CallsV).opens = L from rfl, HY.out]; exact ⟨if_neg (fun h => by cases h.1), if_neg (fun h => by cases h.1)⟩)
  go_wp2_with fail
  go_region
  obtain ⟨x4, xb⟩ := rhear_out M4.out HB2.out (by omega) (.int .i64 ep) (.int .i64 nx) (.slice va L.length vc)
  have x4 := blk_drew1 x4
  have xb := below_drew2 xb
  go_wp2
  exact bodyPost_ret (res_rhear rfl rfl rfl x4) rfl ⟨_, _, rfl, by rw [HE.out.1]; exact RecsL.nil _, by rw [HE.out.2]; exact HS.out.below xb, xb⟩
 | true =>
  by_cases h7 : y.kind = 7
  ·have HE := hid (show hearL B ⟨ep, nx, L⟩ c k d i now = [] ∧ hearC ⟨ep, nx, L⟩ c k = L by unfold hearL hearC; rw [show (⟨ep, nx, L⟩ : CallsV).opens = L from rfl, HY.out]; exact ⟨if_neg (fun h => h.2 h7), if_neg (fun h => h.2 h7)⟩)
   have e7 : (y.kind == 7) = true := by simpa using h7
   go_wp2_with fail
   go_region
   obtain ⟨x4, xb⟩ := rhear_out M4.out HB2.out (by omega) (.int .i64 ep) (.int .i64 nx) (.slice va L.length vc)
   have x4 := blk_drew1 x4
   have xb := below_drew2 xb
   go_wp2
   exact bodyPost_ret (res_rhear rfl rfl rfl x4) rfl ⟨_, _, rfl, by rw [HE.out.1]; exact RecsL.nil _, by rw [HE.out.2]; exact HS.out.below xb, xb⟩
  ·have HE := hid (show hearL B ⟨ep, nx, L⟩ c k d i now = countsL B y d i now ∧ hearC ⟨ep, nx, L⟩ c k = keptL ⟨ep, nx, L⟩ (fun x => x.id != y.id) by unfold hearL hearC; rw [show (⟨ep, nx, L⟩ : CallsV).opens = L from rfl, HY.out]; exact ⟨if_pos ⟨rfl, h7⟩, if_pos ⟨rfl, h7⟩⟩)
   have e7 : (y.kind == 7) = false := by simpa using h7
   clear h7
   have HC := hid (rclose_any ep nx y.id _ L V2 hn HWF.out HS2.out)
   unfold calls at HC
   go_wp2_with fail
   refine HC.out.mono ?_
   rintro e X ⟨cv, rfl, hrow, hb⟩
   obtain ⟨ca, cc, rfl, _⟩ := hrow.open
   obtain ⟨G, hG⟩ : ∃ G, keptL ⟨ep, nx, L⟩ (fun x => x.id != y.id) = G := ⟨_, rfl⟩
   rw [hG] at hrow HE ⊢
   obtain ⟨X2, hX2⟩ : ∃ X2, X2 = X.alloc (.cells #[.int .i64 ep, .int .i64 nx, .slice ca G.length cc] 33) := ⟨_, rfl⟩
   have hx2 : Below X.heap.size X X2 := by rw [hX2]; exact (Below.refl _ _).alloc (Nat.le_refl _) _
   have hb2 : Below V2.heap.size V2 X2 := hb.trans (hx2.mono hb.size)
   have HB3 := hid (HB2.out.trans (hb2.mono HB2.out.size))
   have HV3 := hid (HV2.out.below hb2)
   have P2 := hid (blk_below M2.out hb2 (blk_lt M2.out))
   have P4 := hid (blk_below M4.out hb2 (blk_lt M4.out))
   have PY := hid (blk_below QY.out hb2 (blk_lt QY.out))
   have HG := hid (show Row12 X2 (.slice ca G.length cc) G from RowOf.below hrow hx2)
   have QC0 : X2.heap[X.heap.size]? = some (.cells #[.int .i64 ep, .int .i64 nx, .slice ca G.length cc] 33) := by rw [hX2]; exact heap_new _ _
   clear hb hb2 hx2 hrow hG HC y0 y1 y2 y3 yf yl k0 k1 k2 kf kl z0 z1 z2 zf zl e7
   go_upto_region 5 with (fail)
   rw [← hX2]
   obtain ⟨T12, hT12⟩ : ∃ T, X.heap.size = T := ⟨_, rfl⟩
   have QC := hid QC0
   rw [hT12] at QC ⊢
   clear hT12 QC0 hX2
   have HSY := hid (rsays_any y c k d i now sa sn sc m X2)
   unfold encS tellT at HSY
   obtain ⟨y0, y1, y2, y3, yf, yl⟩ := blk4 PY.out
   have t0 : X2.cell? ⟨w.heap.size + 1 + 1, 0, none⟩ = some (.int .i64 c) := blk_cell P2.out 0
   have t1 : X2.cell? ⟨w.heap.size + 1 + 1, 1, none⟩ = some (.int .u8 k) := blk_cell P2.out 1
   have t2 : X2.cell? ⟨w.heap.size + 1 + 1, 2, none⟩ = some (.int .u8 d) := blk_cell P2.out 2
   have t3 : X2.cell? ⟨w.heap.size + 1 + 1, 3, none⟩ = some (.int .i64 i) := blk_cell P2.out 3
   have t4 : X2.cell? ⟨w.heap.size + 1 + 1, 4, none⟩ = some (.slice sa sn sc) := blk_cell P2.out 4
   have t5 : X2.cell? ⟨w.heap.size + 1 + 1, 5, none⟩ = some (.bool m) := blk_cell P2.out 5
   have tl := blk_lt P2.out
   go_wp2_with fail
   refine HSY.out.mono ?_
   clear y0 y1 y2 y3 yf yl t0 t1 t2 t3 t4 t5 tl
   rintro e Y (⟨hr, rfl, hb⟩ | ⟨kk, rl, rv, hr, rfl, ho, hb⟩)
   ·have HEN := hid (show countsL B y d i now = [] by unfold countsL; rw [hr])
    obtain ⟨Y2, hY2⟩ : ∃ Y2, Y2 = Y.alloc (.cells #[.int .u8 0, .slice none 0 0] 44) := ⟨_, rfl⟩
    have hb2 : Below X2.heap.size X2 Y2 := hb.trans (by rw [hY2]; exact ((Below.refl _ _).alloc (Nat.le_refl _) _).mono hb.size)
    have HB4 := hid (HB3.out.trans (hb2.mono HB3.out.size))
    have HBR := hid (HV3.out.below hb2)
    have R4 := hid (blk_below P4.out hb2 (blk_lt P4.out))
    have RY := hid (blk_below PY.out hb2 (blk_lt PY.out))
    have RC := hid (blk_below QC.out hb2 (blk_lt QC.out))
    have RG := hid (HG.out.below hb2)
    clear hr hb hb2
    go_upto_region 6 with (fail)
    rw [← hY2]
    clear hY2
    refine wp_region_held_drew (S := fun _ => True) (by kernel_rfl) trivial (fun _ => ?_)
    refine wpAnyH_grownG (w0 := Y2.drew) (spL [fun z _ => z = .bool false, fun z _ => z = .bool true, fun z _ => z = .bool true, fun z _ => z = undef, fun z _ => z = undef, fun z _ => z = undef, fun z _ => z = undef, fun z _ => z = undef, fun z _ => z = undef, fun z _ => z = undef, fun z _ => z = undef, fun z _ => z = .bool true, fun z _ => z = .bool true, fun z _ => z = undef, fun z _ => z = undef, fun z _ => z = undef, fun z _ => z = undef, fun z _ => z = undef, fun z _ => z = .bool true]) (spL_stays ⟨stays_eq _, stays_eq _, stays_eq _, stays_eq _, stays_eq _, stays_eq _, stays_eq _, stays_eq _, stays_eq _, stays_eq _, stays_eq _, stays_eq _, stays_eq _, stays_eq _, stays_eq _, stays_eq _, stays_eq _, stays_eq _, stays_eq _, trivial⟩) (by kernel_rfl) (by kernel_rfl) ?steps6 ?fin6 rfl
    case steps6 =>
     refine ⟨?_, ?_, ?_, ?_, ?_, ?_, ?_, ?_, ?_, ?_, ?_, ?_, ?_, ?_, ?_, ?_, ?_, ?_, ?_, trivial⟩
     ·intro a' w' hB hdep hoth K hK
      rw [if_pos (guard_none rfl)]
      have hbw : Below Y2.heap.size Y2 w' := (below_drewN (Below.refl _ _) 1).trans hB
      have t11 := hoth 11 (notDst_at (by kernel_rfl))
      simp only [List.getElem?_toArray, List.getElem?_cons_succ, List.getElem?_cons_zero] at t11
      clear hdep hoth
      go_simp
      exact hK _ _ (Below.refl _ _) rfl
     ·intro a' w' hB hdep hoth K hK
      rw [if_pos (guard_none rfl)]
      have hbw : Below Y2.heap.size Y2 w' := (below_drewN (Below.refl _ _) 1).trans hB
      obtain ⟨vx0, gx0, ex0⟩ := hdep ⟨0, .data⟩ (by simp) rfl
      have gx0 := gx0 39 rfl (by simp)
      obtain rfl : vx0 = .bool false := ex0
      clear hdep hoth
      go_simp
      exact hK _ _ (Below.refl _ _) rfl
     ·intro a' w' hB hdep hoth K hK
      rw [if_pos (guard_none rfl)]
      have hbw : Below Y2.heap.size Y2 w' := (below_drewN (Below.refl _ _) 1).trans hB
      obtain ⟨vx0, gx0, ex0⟩ := hdep ⟨1, .data⟩ (by simp) rfl
      have gx0 := gx0 40 rfl (by simp)
      obtain rfl : vx0 = .bool true := ex0
      clear hdep hoth
      go_simp
      exact hK _ _ (Below.refl _ _) rfl
     ·intro a' w' hB hdep hoth K hK
      obtain ⟨vg, gg, eg⟩ := hdep ⟨2, .guard⟩ (by simp) rfl
      have gg := gg 41 rfl (by simp)
      obtain rfl : vg = .bool true := eg
      rw [guard_is rfl rfl gg]
      rw [if_neg (by decide)]
      exact hK _ _ (Below.refl _ _) rfl
     ·intro a' w' hB hdep hoth K hK
      obtain ⟨vg, gg, eg⟩ := hdep ⟨2, .guard⟩ (by simp) rfl
      have gg := gg 41 rfl (by simp)
      obtain rfl : vg = .bool true := eg
      rw [guard_is rfl rfl gg]
      rw [if_neg (by decide)]
      exact hK _ _ (Below.refl _ _) rfl
     ·intro a' w' hB hdep hoth K hK
      obtain ⟨vg, gg, eg⟩ := hdep ⟨2, .guard⟩ (by simp) rfl
      have gg := gg 41 rfl (by simp)
      obtain rfl : vg = .bool true := eg
      rw [guard_is rfl rfl gg]
      rw [if_neg (by decide)]
      exact hK _ _ (Below.refl _ _) rfl
     ·intro a' w' hB hdep hoth K hK
      obtain ⟨vg, gg, eg⟩ := hdep ⟨2, .guard⟩ (by simp) rfl
      have gg := gg 41 rfl (by simp)
      obtain rfl : vg = .bool true := eg
      rw [guard_is rfl rfl gg]
      rw [if_neg (by decide)]
      exact hK _ _ (Below.refl _ _) rfl
     ·intro a' w' hB hdep hoth K hK
      obtain ⟨vg, gg, eg⟩ := hdep ⟨2, .guard⟩ (by simp) rfl
      have gg := gg 41 rfl (by simp)
      obtain rfl : vg = .bool true := eg
      rw [guard_is rfl rfl gg]
      rw [if_neg (by decide)]
      exact hK _ _ (Below.refl _ _) rfl
     ·intro a' w' hB hdep hoth K hK
      obtain ⟨vg, gg, eg⟩ := hdep ⟨2, .guard⟩ (by simp) rfl
      have gg := gg 41 rfl (by simp)
      obtain rfl : vg = .bool true := eg
      rw [guard_is rfl rfl gg]
      rw [if_neg (by decide)]
      exact hK _ _ (Below.refl _ _) rfl
     ·intro a' w' hB hdep hoth K hK
      obtain ⟨vg, gg, eg⟩ := hdep ⟨2, .guard⟩ (by simp) rfl
      have gg := gg 41 rfl (by simp)
      obtain rfl : vg = .bool true := eg
      rw [guard_is rfl rfl gg]
      rw [if_neg (by decide)]
      exact hK _ _ (Below.refl _ _) rfl
     ·intro a' w' hB hdep hoth K hK
      obtain ⟨vg, gg, eg⟩ := hdep ⟨2, .guard⟩ (by simp) rfl
      have gg := gg 41 rfl (by simp)
      obtain rfl : vg = .bool true := eg
      rw [guard_is rfl rfl gg]
      rw [if_neg (by decide)]
      exact hK _ _ (Below.refl _ _) rfl
     ·intro a' w' hB hdep hoth K hK
      rw [if_pos (guard_none rfl)]
      have hbw : Below Y2.heap.size Y2 w' := (below_drewN (Below.refl _ _) 1).trans hB
      obtain ⟨vx0, gx0, ex0⟩ := hdep ⟨2, .data⟩ (by simp) rfl
      have gx0 := gx0 41 rfl (by simp)
      obtain rfl : vx0 = .bool true := ex0
      clear hdep hoth
      go_simp
      exact hK _ _ (Below.refl _ _) rfl
     ·intro a' w' hB hdep hoth K hK
      rw [if_pos (guard_none rfl)]
      have hbw : Below Y2.heap.size Y2 w' := (below_drewN (Below.refl _ _) 1).trans hB
      obtain ⟨vx0, gx0, ex0⟩ := hdep ⟨11, .data⟩ (by simp) rfl
      have gx0 := gx0 50 rfl (by simp)
      obtain rfl : vx0 = .bool true := ex0
      clear hdep hoth
      go_simp
      exact hK _ _ (Below.refl _ _) rfl
     ·intro a' w' hB hdep hoth K hK
      obtain ⟨vg, gg, eg⟩ := hdep ⟨12, .guard⟩ (by simp) rfl
      have gg := gg 51 rfl (by simp)
      obtain rfl : vg = .bool true := eg
      rw [guard_is rfl rfl gg]
      rw [if_neg (by decide)]
      exact hK _ _ (Below.refl _ _) rfl
     ·intro a' w' hB hdep hoth K hK
      obtain ⟨vg, gg, eg⟩ := hdep ⟨12, .guard⟩ (by simp) rfl
      have gg := gg 51 rfl (by simp)
      obtain rfl : vg = .bool true := eg
      rw [guard_is rfl rfl gg]
      rw [if_neg (by decide)]
      exact hK _ _ (Below.refl _ _) rfl
     ·intro a' w' hB hdep hoth K hK
      obtain ⟨vg, gg, eg⟩ := hdep ⟨12, .guard⟩ (by simp) rfl
      have gg := gg 51 rfl (by simp)
      obtain rfl : vg = .bool true := eg
      rw [guard_is rfl rfl gg]
      rw [if_neg (by decide)]
      exact hK _ _ (Below.refl _ _) rfl
     ·intro a' w' hB hdep hoth K hK
      obtain ⟨vg, gg, eg⟩ := hdep ⟨12, .guard⟩ (by simp) rfl
      have gg := gg 51 rfl (by simp)
      obtain rfl : vg = .bool true := eg
      rw [guard_is rfl rfl gg]
      rw [if_neg (by decide)]
      exact hK _ _ (Below.refl _ _) rfl
     ·intro a' w' hB hdep hoth K hK
      obtain ⟨vg, gg, eg⟩ := hdep ⟨12, .guard⟩ (by simp) rfl
      have gg := gg 51 rfl (by simp)
      obtain rfl : vg = .bool true := eg
      rw [guard_is rfl rfl gg]
      rw [if_neg (by decide)]
      exact hK _ _ (Below.refl _ _) rfl
     ·intro a' w' hB hdep hoth K hK
      rw [if_pos (guard_none rfl)]
      have hbw : Below Y2.heap.size Y2 w' := (below_drewN (Below.refl _ _) 1).trans hB
      obtain ⟨vx0, gx0, ex0⟩ := hdep ⟨12, .data⟩ (by simp) rfl
      have gx0 := gx0 51 rfl (by simp)
      obtain rfl : vx0 = .bool true := ex0
      clear hdep hoth
      go_simp
      exact hK _ _ (Below.refl _ _) rfl
    case fin6 =>
     intro vs U hB hs
     have hbw : Below Y2.heap.size Y2 U := (below_drewN (Below.refl _ _) 1).trans hB
     have ev : vs 18 = .bool true := hs 18 (by decide)
     clear hs
     simp only [actOf, dstAt, if_true, List.getElem?_toArray, List.getElem?_cons_succ, List.getElem?_cons_zero, Option.bind_some, Act.put, List.setIfInBounds_toArray, List.set_cons_zero, List.set_cons_succ, List.length_cons, List.length_nil, Nat.reduceAdd]
     rw [ev]
     clear ev hB
     have HB5 := hid (HB4.out.trans (hbw.mono HB4.out.size))
     have S4 := hid (blk_below R4.out hbw (blk_lt R4.out))
     have SC := hid (blk_below RC.out hbw (blk_lt RC.out))
     have SG := hid (RG.out.below hbw)
     clear hbw
     obtain ⟨k0, k1, k2, kf, kl⟩ := blk3 SC.out
     obtain ⟨z0, z1, z2, zf, zl⟩ := blk3 S4.out
     go_wp2_with fail
     go_region
     obtain ⟨x4, xb⟩ := rhear_out S4.out HB5.out (by omega) (.int .i64 ep) (.int .i64 nx) (.slice ca G.length cc)
     have sg := set_calls SG.out S4.out (.int .i64 ep) (.int .i64 nx) (.slice ca G.length cc)
     have x4 := blk_drew1 x4
     have xb := below_drew2 xb
     go_wp2
     exact bodyPost_ret (res_rhear rfl rfl rfl x4) rfl ⟨_, _, rfl, by rw [HE.out.1, HEN.out]; exact RecsL.nil _, by rw [HE.out.2]; exact sg, xb⟩
   ·obtain ⟨ra, rn, rc, rfl⟩ := ho.shape
    obtain ⟨Y2, hY2⟩ : ∃ Y2, Y2 = Y.alloc (.cells #[.int .u8 kk, .slice ra rn rc] 44) := ⟨_, rfl⟩
    have hb2 : Below X2.heap.size X2 Y2 := hb.trans (by rw [hY2]; exact ((Below.refl _ _).alloc (Nat.le_refl _) _).mono hb.size)
    have HB4 := hid (HB3.out.trans (hb2.mono HB3.out.size))
    have HBR := hid (HV3.out.below hb2)
    have R4 := hid (blk_below P4.out hb2 (blk_lt P4.out))
    have RY := hid (blk_below PY.out hb2 (blk_lt PY.out))
    have RC := hid (blk_below QC.out hb2 (blk_lt QC.out))
    have RG := hid (HG.out.below hb2)
    have HRB0 : Y2.heap[Y.heap.size]? = some (.cells #[.int .u8 kk, .slice ra rn rc] 44) := by rw [hY2]; exact heap_new _ _
    have hrw : RowOf 1 encI Y (.slice ra rn rc) rl := ho.row (fun _ => rfl) (by decide)
    have HOW := hid (show OwnI Y2 X2.heap.size (.slice ra rn rc) rl from Owns.below ho (by rw [hY2]; exact (Below.refl _ _).alloc (Nat.le_refl _) _))
    have HRW := hid (show RowOf 1 encI Y2 (.slice ra rn rc) rl from hrw.below (by rw [hY2]; exact (Below.refl _ _).alloc (Nat.le_refl _) _))
    have HLN := hid (says_len hr)
    have hT4 := blk_lt P4.out
    have HSR := hid hr
    clear hr hb hb2 hrw ho
    obtain ⟨iq, hiq⟩ : ∃ q, decide ((⟨y.kind, y.key⟩ : DutyV) ∈ dutiesL B.I B.K) = q := ⟨_, rfl⟩
    obtain ⟨sb, hsb⟩ : ∃ q, sameB (applyB B kk rl) B = q := ⟨_, rfl⟩
    have HIQ := hid hiq
    have HSB := hid hsb
    clear hiq hsb
    go_upto_region 6 with (fail)
    rw [← hY2]
    obtain ⟨T13, hT13⟩ : ∃ T, Y.heap.size = T := ⟨_, rfl⟩
    have HRB := hid HRB0
    rw [hT13] at HRB ⊢
    clear hT13 HRB0 hY2
    cases iq with
    | false =>
     have HEN := hid (show countsL B y d i now = [] by unfold countsL; rw [HSR.out]; exact if_neg (fun h => by have := HIQ.out; rw [decide_eq_true h.1] at this; cases this))
     refine wp_region_held_drew (S := fun _ => True) (by kernel_rfl) trivial (fun _ => ?_)
     refine wpAnyH_grownG (w0 := Y2.drew) (spL [fun z _ => z = .bool true, fun z _ => z = .bool false, fun z _ => z = .bool false, fun z _ => z = (.agg bv), fun z _ => z = .pointer (some ⟨T10, 1, none⟩), fun z _ => z = .int .u8 y.kind, fun z _ => z = .pointer (some ⟨T10, 2, none⟩), fun z _ => z = .int .i64 y.key, fun z _ => z = .agg #[.int .u8 y.kind, .int .i64 y.key], fun z _ => z = .bool false, fun z _ => z = .bool true, fun z _ => z = .bool true, fun z _ => z = .bool true, fun z _ => z = undef, fun z _ => z = undef, fun z _ => z = undef, fun z _ => z = undef, fun z _ => z = undef, fun z _ => z = .bool true]) (spL_stays ⟨stays_eq _, stays_eq _, stays_eq _, stays_eq _, stays_eq _, stays_eq _, stays_eq _, stays_eq _, stays_eq _, stays_eq _, stays_eq _, stays_eq _, stays_eq _, stays_eq _, stays_eq _, stays_eq _, stays_eq _, stays_eq _, stays_eq _, trivial⟩) (by kernel_rfl) (by kernel_rfl) ?steps6 ?fin6 rfl
     case steps6 =>
      refine ⟨?_, ?_, ?_, ?_, ?_, ?_, ?_, ?_, ?_, ?_, ?_, ?_, ?_, ?_, ?_, ?_, ?_, ?_, ?_, trivial⟩
      ·intro a' w' hB hdep hoth K hK
       rw [if_pos (guard_none rfl)]
       have hbw : Below Y2.heap.size Y2 w' := (below_drewN (Below.refl _ _) 1).trans hB
       have t11 := hoth 11 (notDst_at (by kernel_rfl))
       simp only [List.getElem?_toArray, List.getElem?_cons_succ, List.getElem?_cons_zero] at t11
       clear hdep hoth
       go_simp
       exact hK _ _ (Below.refl _ _) rfl
      ·intro a' w' hB hdep hoth K hK
       rw [if_pos (guard_none rfl)]
       have hbw : Below Y2.heap.size Y2 w' := (below_drewN (Below.refl _ _) 1).trans hB
       obtain ⟨vx0, gx0, ex0⟩ := hdep ⟨0, .data⟩ (by simp) rfl
       have gx0 := gx0 39 rfl (by simp)
       obtain rfl : vx0 = .bool true := ex0
       clear hdep hoth
       go_simp
       exact hK _ _ (Below.refl _ _) rfl
      ·intro a' w' hB hdep hoth K hK
       rw [if_pos (guard_none rfl)]
       have hbw : Below Y2.heap.size Y2 w' := (below_drewN (Below.refl _ _) 1).trans hB
       obtain ⟨vx0, gx0, ex0⟩ := hdep ⟨1, .data⟩ (by simp) rfl
       have gx0 := gx0 40 rfl (by simp)
       obtain rfl : vx0 = .bool false := ex0
       clear hdep hoth
       go_simp
       exact hK _ _ (Below.refl _ _) rfl
      ·intro a' w' hB hdep hoth K hK
       obtain ⟨vg, gg, eg⟩ := hdep ⟨2, .guard⟩ (by simp) rfl
       have gg := gg 41 rfl (by simp)
       obtain rfl : vg = .bool false := eg
       rw [guard_is rfl rfl gg]
       rw [if_pos (by decide)]
       have hbw : Below Y2.heap.size Y2 w' := (below_drewN (Below.refl _ _) 1).trans hB
       have t4 := hoth 4 (notDst_at (by kernel_rfl))
       simp only [List.getElem?_toArray, List.getElem?_cons_succ, List.getElem?_cons_zero] at t4
       have hld := (HBR.out.below hbw).load
       clear hdep hoth
       go_simp
       exact hK _ _ (Below.refl _ _) rfl
      ·intro a' w' hB hdep hoth K hK
       obtain ⟨vg, gg, eg⟩ := hdep ⟨2, .guard⟩ (by simp) rfl
       have gg := gg 41 rfl (by simp)
       obtain rfl : vg = .bool false := eg
       rw [guard_is rfl rfl gg]
       rw [if_pos (by decide)]
       have hbw : Below Y2.heap.size Y2 w' := (below_drewN (Below.refl _ _) 1).trans hB
       have t10 := hoth 10 (notDst_at (by kernel_rfl))
       simp only [List.getElem?_toArray, List.getElem?_cons_succ, List.getElem?_cons_zero] at t10
       clear hdep hoth
       go_simp
       exact hK _ _ (Below.refl _ _) rfl
      ·intro a' w' hB hdep hoth K hK
       obtain ⟨vg, gg, eg⟩ := hdep ⟨2, .guard⟩ (by simp) rfl
       have gg := gg 41 rfl (by simp)
       obtain rfl : vg = .bool false := eg
       rw [guard_is rfl rfl gg]
       rw [if_pos (by decide)]
       have hbw : Below Y2.heap.size Y2 w' := (below_drewN (Below.refl _ _) 1).trans hB
       obtain ⟨vx0, gx0, ex0⟩ := hdep ⟨4, .data⟩ (by simp) rfl
       have gx0 := gx0 43 rfl (by simp)
       obtain rfl : vx0 = .pointer (some ⟨T10, 1, none⟩) := ex0
       have q1 : w'.cell? ⟨T10, 1, none⟩ = some (.int .u8 y.kind) := blk_cell (blk_below RY.out hbw (blk_lt RY.out)) 1
       have q2 : w'.cell? ⟨T10, 2, none⟩ = some (.int .i64 y.key) := blk_cell (blk_below RY.out hbw (blk_lt RY.out)) 2
       have lq := blk_lt (blk_below RY.out hbw (blk_lt RY.out))
       clear hdep hoth
       go_simp
       exact hK _ _ (Below.refl _ _) rfl
      ·intro a' w' hB hdep hoth K hK
       obtain ⟨vg, gg, eg⟩ := hdep ⟨2, .guard⟩ (by simp) rfl
       have gg := gg 41 rfl (by simp)
       obtain rfl : vg = .bool false := eg
       rw [guard_is rfl rfl gg]
       rw [if_pos (by decide)]
       have hbw : Below Y2.heap.size Y2 w' := (below_drewN (Below.refl _ _) 1).trans hB
       have t10 := hoth 10 (notDst_at (by kernel_rfl))
       simp only [List.getElem?_toArray, List.getElem?_cons_succ, List.getElem?_cons_zero] at t10
       clear hdep hoth
       go_simp
       exact hK _ _ (Below.refl _ _) rfl
      ·intro a' w' hB hdep hoth K hK
       obtain ⟨vg, gg, eg⟩ := hdep ⟨2, .guard⟩ (by simp) rfl
       have gg := gg 41 rfl (by simp)
       obtain rfl : vg = .bool false := eg
       rw [guard_is rfl rfl gg]
       rw [if_pos (by decide)]
       have hbw : Below Y2.heap.size Y2 w' := (below_drewN (Below.refl _ _) 1).trans hB
       obtain ⟨vx0, gx0, ex0⟩ := hdep ⟨6, .data⟩ (by simp) rfl
       have gx0 := gx0 45 rfl (by simp)
       obtain rfl : vx0 = .pointer (some ⟨T10, 2, none⟩) := ex0
       have q1 : w'.cell? ⟨T10, 1, none⟩ = some (.int .u8 y.kind) := blk_cell (blk_below RY.out hbw (blk_lt RY.out)) 1
       have q2 : w'.cell? ⟨T10, 2, none⟩ = some (.int .i64 y.key) := blk_cell (blk_below RY.out hbw (blk_lt RY.out)) 2
       have lq := blk_lt (blk_below RY.out hbw (blk_lt RY.out))
       clear hdep hoth
       go_simp
       exact hK _ _ (Below.refl _ _) rfl
      ·intro a' w' hB hdep hoth K hK
       obtain ⟨vg, gg, eg⟩ := hdep ⟨2, .guard⟩ (by simp) rfl
       have gg := gg 41 rfl (by simp)
       obtain rfl : vg = .bool false := eg
       rw [guard_is rfl rfl gg]
       rw [if_pos (by decide)]
       have hbw : Below Y2.heap.size Y2 w' := (below_drewN (Below.refl _ _) 1).trans hB
       obtain ⟨vx0, gx0, ex0⟩ := hdep ⟨5, .data⟩ (by simp) rfl
       have gx0 := gx0 44 rfl (by simp)
       obtain rfl : vx0 = .int .u8 y.kind := ex0
       obtain ⟨vx1, gx1, ex1⟩ := hdep ⟨7, .data⟩ (by simp) rfl
       have gx1 := gx1 46 rfl (by simp)
       obtain rfl : vx1 = .int .i64 y.key := ex1
       clear hdep hoth
       go_simp
       exact hK _ _ (Below.refl _ _) rfl
      ·intro a' w' hB hdep hoth K hK
       obtain ⟨vg, gg, eg⟩ := hdep ⟨2, .guard⟩ (by simp) rfl
       have gg := gg 41 rfl (by simp)
       obtain rfl : vg = .bool false := eg
       rw [guard_is rfl rfl gg]
       rw [if_pos (by decide)]
       have hbw : Below Y2.heap.size Y2 w' := (below_drewN (Below.refl _ _) 1).trans hB
       obtain ⟨vx0, gx0, ex0⟩ := hdep ⟨3, .data⟩ (by simp) rfl
       have gx0 := gx0 42 rfl (by simp)
       obtain rfl : vx0 = (.agg bv) := ex0
       obtain ⟨vx1, gx1, ex1⟩ := hdep ⟨8, .data⟩ (by simp) rfl
       have gx1 := gx1 47 rfl (by simp)
       obtain rfl : vx1 = .agg #[.int .u8 y.kind, .int .i64 y.key] := ex1
       have HA := hid (dis20_is false y.kind y.key HIQ.out (HBR.out.below hbw).is (by have := HF.out.1; omega) (by have := HF.out.2.1; omega))
       clear hdep hoth
       go_simp
       refine HA.out.mono ?_
       rintro e w'' ⟨rfl, hb⟩
       exact hK _ _ hb rfl
      ·intro a' w' hB hdep hoth K hK
       obtain ⟨vg, gg, eg⟩ := hdep ⟨2, .guard⟩ (by simp) rfl
       have gg := gg 41 rfl (by simp)
       obtain rfl : vg = .bool false := eg
       rw [guard_is rfl rfl gg]
       rw [if_pos (by decide)]
       have hbw : Below Y2.heap.size Y2 w' := (below_drewN (Below.refl _ _) 1).trans hB
       obtain ⟨vx0, gx0, ex0⟩ := hdep ⟨9, .data⟩ (by simp) rfl
       have gx0 := gx0 48 rfl (by simp)
       obtain rfl : vx0 = .bool false := ex0
       clear hdep hoth
       go_simp
       exact hK _ _ (Below.refl _ _) rfl
      ·intro a' w' hB hdep hoth K hK
       rw [if_pos (guard_none rfl)]
       have hbw : Below Y2.heap.size Y2 w' := (below_drewN (Below.refl _ _) 1).trans hB
       obtain ⟨vx0, gx0, ex0⟩ := hdep ⟨2, .data⟩ (by simp) rfl
       have gx0 := gx0 41 rfl (by simp)
       obtain rfl : vx0 = .bool false := ex0
       obtain ⟨vx1, gx1, ex1⟩ := hdep ⟨10, .data⟩ (by simp) rfl
       have gx1 := gx1 49 rfl (by simp)
       obtain rfl : vx1 = .bool true := ex1
       clear hdep hoth
       go_simp
       exact hK _ _ (Below.refl _ _) rfl
      ·intro a' w' hB hdep hoth K hK
       rw [if_pos (guard_none rfl)]
       have hbw : Below Y2.heap.size Y2 w' := (below_drewN (Below.refl _ _) 1).trans hB
       obtain ⟨vx0, gx0, ex0⟩ := hdep ⟨11, .data⟩ (by simp) rfl
       have gx0 := gx0 50 rfl (by simp)
       obtain rfl : vx0 = .bool true := ex0
       clear hdep hoth
       go_simp
       exact hK _ _ (Below.refl _ _) rfl
      ·intro a' w' hB hdep hoth K hK
       obtain ⟨vg, gg, eg⟩ := hdep ⟨12, .guard⟩ (by simp) rfl
       have gg := gg 51 rfl (by simp)
       obtain rfl : vg = .bool true := eg
       rw [guard_is rfl rfl gg]
       rw [if_neg (by decide)]
       exact hK _ _ (Below.refl _ _) rfl
      ·intro a' w' hB hdep hoth K hK
       obtain ⟨vg, gg, eg⟩ := hdep ⟨12, .guard⟩ (by simp) rfl
       have gg := gg 51 rfl (by simp)
       obtain rfl : vg = .bool true := eg
       rw [guard_is rfl rfl gg]
       rw [if_neg (by decide)]
       exact hK _ _ (Below.refl _ _) rfl
      ·intro a' w' hB hdep hoth K hK
       obtain ⟨vg, gg, eg⟩ := hdep ⟨12, .guard⟩ (by simp) rfl
       have gg := gg 51 rfl (by simp)
       obtain rfl : vg = .bool true := eg
       rw [guard_is rfl rfl gg]
       rw [if_neg (by decide)]
       exact hK _ _ (Below.refl _ _) rfl
      ·intro a' w' hB hdep hoth K hK
       obtain ⟨vg, gg, eg⟩ := hdep ⟨12, .guard⟩ (by simp) rfl
       have gg := gg 51 rfl (by simp)
       obtain rfl : vg = .bool true := eg
       rw [guard_is rfl rfl gg]
       rw [if_neg (by decide)]
       exact hK _ _ (Below.refl _ _) rfl
      ·intro a' w' hB hdep hoth K hK
       obtain ⟨vg, gg, eg⟩ := hdep ⟨12, .guard⟩ (by simp) rfl
       have gg := gg 51 rfl (by simp)
       obtain rfl : vg = .bool true := eg
       rw [guard_is rfl rfl gg]
       rw [if_neg (by decide)]
       exact hK _ _ (Below.refl _ _) rfl
      ·intro a' w' hB hdep hoth K hK
       rw [if_pos (guard_none rfl)]
       have hbw : Below Y2.heap.size Y2 w' := (below_drewN (Below.refl _ _) 1).trans hB
       obtain ⟨vx0, gx0, ex0⟩ := hdep ⟨12, .data⟩ (by simp) rfl
       have gx0 := gx0 51 rfl (by simp)
       obtain rfl : vx0 = .bool true := ex0
       clear hdep hoth
       go_simp
       exact hK _ _ (Below.refl _ _) rfl
     case fin6 =>
      intro vs U hB hs
      have hbw : Below Y2.heap.size Y2 U := (below_drewN (Below.refl _ _) 1).trans hB
      have ev : vs 18 = .bool true := hs 18 (by decide)
      clear hs
      simp only [actOf, dstAt, if_true, List.getElem?_toArray, List.getElem?_cons_succ, List.getElem?_cons_zero, Option.bind_some, Act.put, List.setIfInBounds_toArray, List.set_cons_zero, List.set_cons_succ, List.length_cons, List.length_nil, Nat.reduceAdd]
      rw [ev]
      clear ev hB
      have HB5 := hid (HB4.out.trans (hbw.mono HB4.out.size))
      have S4 := hid (blk_below R4.out hbw (blk_lt R4.out))
      have SC := hid (blk_below RC.out hbw (blk_lt RC.out))
      have SG := hid (RG.out.below hbw)
      clear hbw
      obtain ⟨k0, k1, k2, kf, kl⟩ := blk3 SC.out
      obtain ⟨z0, z1, z2, zf, zl⟩ := blk3 S4.out
      go_wp2_with fail
      go_region
      obtain ⟨x4, xb⟩ := rhear_out S4.out HB5.out (by omega) (.int .i64 ep) (.int .i64 nx) (.slice ca G.length cc)
      have sg := set_calls SG.out S4.out (.int .i64 ep) (.int .i64 nx) (.slice ca G.length cc)
      have x4 := blk_drew1 x4
      have xb := below_drew2 xb
      go_wp2
      exact bodyPost_ret (res_rhear rfl rfl rfl x4) rfl ⟨_, _, rfl, by rw [HE.out.1, HEN.out]; exact RecsL.nil _, by rw [HE.out.2]; exact sg, xb⟩
    | true =>
     cases sb with
     | true =>
      have HEN := hid (show countsL B y d i now = [] by unfold countsL; rw [HSR.out]; exact if_neg (fun h => by have := HSB.out; rw [h.2] at this; cases this))
      refine wp_region_held_drew (S := fun _ => True) (by kernel_rfl) trivial (fun _ => ?_)
      refine wpAnyH_grownG (w0 := Y2.drew) (spL [fun z _ => z = .bool true, fun z _ => z = .bool false, fun z _ => z = .bool false, fun z _ => z = (.agg bv), fun z _ => z = .pointer (some ⟨T10, 1, none⟩), fun z _ => z = .int .u8 y.kind, fun z _ => z = .pointer (some ⟨T10, 2, none⟩), fun z _ => z = .int .i64 y.key, fun z _ => z = .agg #[.int .u8 y.kind, .int .i64 y.key], fun z _ => z = .bool true, fun z _ => z = .bool false, fun z _ => z = .bool false, fun z _ => z = .bool false, fun z _ => z = (.agg bv), fun z _ => z = .agg #[.int .u8 kk, .slice ra rn rc], fun z w => BrEnd Y2 (applyB B kk (rl)) z w, fun z _ => z = (.agg bv), fun z _ => z = .bool true, fun z _ => z = .bool true]) (spL_stays ⟨stays_eq _, stays_eq _, stays_eq _, stays_eq _, stays_eq _, stays_eq _, stays_eq _, stays_eq _, stays_eq _, stays_eq _, stays_eq _, stays_eq _, stays_eq _, stays_eq _, stays_eq _, stays_brEnd _ _, stays_eq _, stays_eq _, stays_eq _, trivial⟩) (by kernel_rfl) (by kernel_rfl) ?steps6 ?fin6 rfl
      case steps6 =>
       refine ⟨?_, ?_, ?_, ?_, ?_, ?_, ?_, ?_, ?_, ?_, ?_, ?_, ?_, ?_, ?_, ?_, ?_, ?_, ?_, trivial⟩
       ·intro a' w' hB hdep hoth K hK
        rw [if_pos (guard_none rfl)]
        have hbw : Below Y2.heap.size Y2 w' := (below_drewN (Below.refl _ _) 1).trans hB
        have t11 := hoth 11 (notDst_at (by kernel_rfl))
        simp only [List.getElem?_toArray, List.getElem?_cons_succ, List.getElem?_cons_zero] at t11
        clear hdep hoth
        go_simp
        exact hK _ _ (Below.refl _ _) rfl
       ·intro a' w' hB hdep hoth K hK
        rw [if_pos (guard_none rfl)]
        have hbw : Below Y2.heap.size Y2 w' := (below_drewN (Below.refl _ _) 1).trans hB
        obtain ⟨vx0, gx0, ex0⟩ := hdep ⟨0, .data⟩ (by simp) rfl
        have gx0 := gx0 39 rfl (by simp)
        obtain rfl : vx0 = .bool true := ex0
        clear hdep hoth
        go_simp
        exact hK _ _ (Below.refl _ _) rfl
       ·intro a' w' hB hdep hoth K hK
        rw [if_pos (guard_none rfl)]
        have hbw : Below Y2.heap.size Y2 w' := (below_drewN (Below.refl _ _) 1).trans hB
        obtain ⟨vx0, gx0, ex0⟩ := hdep ⟨1, .data⟩ (by simp) rfl
        have gx0 := gx0 40 rfl (by simp)
        obtain rfl : vx0 = .bool false := ex0
        clear hdep hoth
        go_simp
        exact hK _ _ (Below.refl _ _) rfl
       ·intro a' w' hB hdep hoth K hK
        obtain ⟨vg, gg, eg⟩ := hdep ⟨2, .guard⟩ (by simp) rfl
        have gg := gg 41 rfl (by simp)
        obtain rfl : vg = .bool false := eg
        rw [guard_is rfl rfl gg]
        rw [if_pos (by decide)]
        have hbw : Below Y2.heap.size Y2 w' := (below_drewN (Below.refl _ _) 1).trans hB
        have t4 := hoth 4 (notDst_at (by kernel_rfl))
        simp only [List.getElem?_toArray, List.getElem?_cons_succ, List.getElem?_cons_zero] at t4
        have hld := (HBR.out.below hbw).load
        clear hdep hoth
        go_simp
        exact hK _ _ (Below.refl _ _) rfl
       ·intro a' w' hB hdep hoth K hK
        obtain ⟨vg, gg, eg⟩ := hdep ⟨2, .guard⟩ (by simp) rfl
        have gg := gg 41 rfl (by simp)
        obtain rfl : vg = .bool false := eg
        rw [guard_is rfl rfl gg]
        rw [if_pos (by decide)]
        have hbw : Below Y2.heap.size Y2 w' := (below_drewN (Below.refl _ _) 1).trans hB
        have t10 := hoth 10 (notDst_at (by kernel_rfl))
        simp only [List.getElem?_toArray, List.getElem?_cons_succ, List.getElem?_cons_zero] at t10
        clear hdep hoth
        go_simp
        exact hK _ _ (Below.refl _ _) rfl
       ·intro a' w' hB hdep hoth K hK
        obtain ⟨vg, gg, eg⟩ := hdep ⟨2, .guard⟩ (by simp) rfl
        have gg := gg 41 rfl (by simp)
        obtain rfl : vg = .bool false := eg
        rw [guard_is rfl rfl gg]
        rw [if_pos (by decide)]
        have hbw : Below Y2.heap.size Y2 w' := (below_drewN (Below.refl _ _) 1).trans hB
        obtain ⟨vx0, gx0, ex0⟩ := hdep ⟨4, .data⟩ (by simp) rfl
        have gx0 := gx0 43 rfl (by simp)
        obtain rfl : vx0 = .pointer (some ⟨T10, 1, none⟩) := ex0
        have q1 : w'.cell? ⟨T10, 1, none⟩ = some (.int .u8 y.kind) := blk_cell (blk_below RY.out hbw (blk_lt RY.out)) 1
        have q2 : w'.cell? ⟨T10, 2, none⟩ = some (.int .i64 y.key) := blk_cell (blk_below RY.out hbw (blk_lt RY.out)) 2
        have lq := blk_lt (blk_below RY.out hbw (blk_lt RY.out))
        clear hdep hoth
        go_simp
        exact hK _ _ (Below.refl _ _) rfl
       ·intro a' w' hB hdep hoth K hK
        obtain ⟨vg, gg, eg⟩ := hdep ⟨2, .guard⟩ (by simp) rfl
        have gg := gg 41 rfl (by simp)
        obtain rfl : vg = .bool false := eg
        rw [guard_is rfl rfl gg]
        rw [if_pos (by decide)]
        have hbw : Below Y2.heap.size Y2 w' := (below_drewN (Below.refl _ _) 1).trans hB
        have t10 := hoth 10 (notDst_at (by kernel_rfl))
        simp only [List.getElem?_toArray, List.getElem?_cons_succ, List.getElem?_cons_zero] at t10
        clear hdep hoth
        go_simp
        exact hK _ _ (Below.refl _ _) rfl
       ·intro a' w' hB hdep hoth K hK
        obtain ⟨vg, gg, eg⟩ := hdep ⟨2, .guard⟩ (by simp) rfl
        have gg := gg 41 rfl (by simp)
        obtain rfl : vg = .bool false := eg
        rw [guard_is rfl rfl gg]
        rw [if_pos (by decide)]
        have hbw : Below Y2.heap.size Y2 w' := (below_drewN (Below.refl _ _) 1).trans hB
        obtain ⟨vx0, gx0, ex0⟩ := hdep ⟨6, .data⟩ (by simp) rfl
        have gx0 := gx0 45 rfl (by simp)
        obtain rfl : vx0 = .pointer (some ⟨T10, 2, none⟩) := ex0
        have q1 : w'.cell? ⟨T10, 1, none⟩ = some (.int .u8 y.kind) := blk_cell (blk_below RY.out hbw (blk_lt RY.out)) 1
        have q2 : w'.cell? ⟨T10, 2, none⟩ = some (.int .i64 y.key) := blk_cell (blk_below RY.out hbw (blk_lt RY.out)) 2
        have lq := blk_lt (blk_below RY.out hbw (blk_lt RY.out))
        clear hdep hoth
        go_simp
        exact hK _ _ (Below.refl _ _) rfl
       ·intro a' w' hB hdep hoth K hK
        obtain ⟨vg, gg, eg⟩ := hdep ⟨2, .guard⟩ (by simp) rfl
        have gg := gg 41 rfl (by simp)
        obtain rfl : vg = .bool false := eg
        rw [guard_is rfl rfl gg]
        rw [if_pos (by decide)]
        have hbw : Below Y2.heap.size Y2 w' := (below_drewN (Below.refl _ _) 1).trans hB
        obtain ⟨vx0, gx0, ex0⟩ := hdep ⟨5, .data⟩ (by simp) rfl
        have gx0 := gx0 44 rfl (by simp)
        obtain rfl : vx0 = .int .u8 y.kind := ex0
        obtain ⟨vx1, gx1, ex1⟩ := hdep ⟨7, .data⟩ (by simp) rfl
        have gx1 := gx1 46 rfl (by simp)
        obtain rfl : vx1 = .int .i64 y.key := ex1
        clear hdep hoth
        go_simp
        exact hK _ _ (Below.refl _ _) rfl
       ·intro a' w' hB hdep hoth K hK
        obtain ⟨vg, gg, eg⟩ := hdep ⟨2, .guard⟩ (by simp) rfl
        have gg := gg 41 rfl (by simp)
        obtain rfl : vg = .bool false := eg
        rw [guard_is rfl rfl gg]
        rw [if_pos (by decide)]
        have hbw : Below Y2.heap.size Y2 w' := (below_drewN (Below.refl _ _) 1).trans hB
        obtain ⟨vx0, gx0, ex0⟩ := hdep ⟨3, .data⟩ (by simp) rfl
        have gx0 := gx0 42 rfl (by simp)
        obtain rfl : vx0 = (.agg bv) := ex0
        obtain ⟨vx1, gx1, ex1⟩ := hdep ⟨8, .data⟩ (by simp) rfl
        have gx1 := gx1 47 rfl (by simp)
        obtain rfl : vx1 = .agg #[.int .u8 y.kind, .int .i64 y.key] := ex1
        have HA := hid (dis20_is true y.kind y.key HIQ.out (HBR.out.below hbw).is (by have := HF.out.1; omega) (by have := HF.out.2.1; omega))
        clear hdep hoth
        go_simp
        refine HA.out.mono ?_
        rintro e w'' ⟨rfl, hb⟩
        exact hK _ _ hb rfl
       ·intro a' w' hB hdep hoth K hK
        obtain ⟨vg, gg, eg⟩ := hdep ⟨2, .guard⟩ (by simp) rfl
        have gg := gg 41 rfl (by simp)
        obtain rfl : vg = .bool false := eg
        rw [guard_is rfl rfl gg]
        rw [if_pos (by decide)]
        have hbw : Below Y2.heap.size Y2 w' := (below_drewN (Below.refl _ _) 1).trans hB
        obtain ⟨vx0, gx0, ex0⟩ := hdep ⟨9, .data⟩ (by simp) rfl
        have gx0 := gx0 48 rfl (by simp)
        obtain rfl : vx0 = .bool true := ex0
        clear hdep hoth
        go_simp
        exact hK _ _ (Below.refl _ _) rfl
       ·intro a' w' hB hdep hoth K hK
        rw [if_pos (guard_none rfl)]
        have hbw : Below Y2.heap.size Y2 w' := (below_drewN (Below.refl _ _) 1).trans hB
        obtain ⟨vx0, gx0, ex0⟩ := hdep ⟨2, .data⟩ (by simp) rfl
        have gx0 := gx0 41 rfl (by simp)
        obtain rfl : vx0 = .bool false := ex0
        obtain ⟨vx1, gx1, ex1⟩ := hdep ⟨10, .data⟩ (by simp) rfl
        have gx1 := gx1 49 rfl (by simp)
        obtain rfl : vx1 = .bool false := ex1
        clear hdep hoth
        go_simp
        exact hK _ _ (Below.refl _ _) rfl
       ·intro a' w' hB hdep hoth K hK
        rw [if_pos (guard_none rfl)]
        have hbw : Below Y2.heap.size Y2 w' := (below_drewN (Below.refl _ _) 1).trans hB
        obtain ⟨vx0, gx0, ex0⟩ := hdep ⟨11, .data⟩ (by simp) rfl
        have gx0 := gx0 50 rfl (by simp)
        obtain rfl : vx0 = .bool false := ex0
        clear hdep hoth
        go_simp
        exact hK _ _ (Below.refl _ _) rfl
       ·intro a' w' hB hdep hoth K hK
        obtain ⟨vg, gg, eg⟩ := hdep ⟨12, .guard⟩ (by simp) rfl
        have gg := gg 51 rfl (by simp)
        obtain rfl : vg = .bool false := eg
        rw [guard_is rfl rfl gg]
        rw [if_pos (by decide)]
        have hbw : Below Y2.heap.size Y2 w' := (below_drewN (Below.refl _ _) 1).trans hB
        have t4 := hoth 4 (notDst_at (by kernel_rfl))
        simp only [List.getElem?_toArray, List.getElem?_cons_succ, List.getElem?_cons_zero] at t4
        have hld := (HBR.out.below hbw).load
        clear hdep hoth
        go_simp
        exact hK _ _ (Below.refl _ _) rfl
       ·intro a' w' hB hdep hoth K hK
        obtain ⟨vg, gg, eg⟩ := hdep ⟨12, .guard⟩ (by simp) rfl
        have gg := gg 51 rfl (by simp)
        obtain rfl : vg = .bool false := eg
        rw [guard_is rfl rfl gg]
        rw [if_pos (by decide)]
        have hbw : Below Y2.heap.size Y2 w' := (below_drewN (Below.refl _ _) 1).trans hB
        have t13 := hoth 13 (notDst_at (by kernel_rfl))
        simp only [List.getElem?_toArray, List.getElem?_cons_succ, List.getElem?_cons_zero] at t13
        have q1 : w'.cell? ⟨T13, 0, none⟩ = some (.int .u8 kk) := blk_cell (blk_below HRB.out hbw (blk_lt HRB.out)) 0
        have q2 : w'.cell? ⟨T13, 1, none⟩ = some (.slice ra rn rc) := blk_cell (blk_below HRB.out hbw (blk_lt HRB.out)) 1
        have lq := blk_lt (blk_below HRB.out hbw (blk_lt HRB.out))
        clear hdep hoth
        go_simp
        exact hK _ _ (Below.refl _ _) rfl
       ·intro a' w' hB hdep hoth K hK
        obtain ⟨vg, gg, eg⟩ := hdep ⟨12, .guard⟩ (by simp) rfl
        have gg := gg 51 rfl (by simp)
        obtain rfl : vg = .bool false := eg
        rw [guard_is rfl rfl gg]
        rw [if_pos (by decide)]
        have hbw : Below Y2.heap.size Y2 w' := (below_drewN (Below.refl _ _) 1).trans hB
        obtain ⟨v0, g0, e0⟩ := hdep ⟨13, .data⟩ (by simp) rfl
        have g0 := g0 52 rfl (by simp)
        obtain rfl : v0 = (.agg bv) := e0
        obtain ⟨v1, g1, e1⟩ := hdep ⟨14, .data⟩ (by simp) rfl
        have g1 := g1 53 rfl (by simp)
        obtain rfl : v1 = .agg #[.int .u8 kk, .slice ra rn rc] := e1
        have HA := hid (rapply_is kk rl 900 (HBR.out.below hbw).is ⟨_, rfl, HRW.out.below hbw⟩ HF.out (by omega) hlM (by have := HLN.out; omega) (says_kinds HSR.out))
        clear hdep hoth
        go_simp
        refine HA.out.mono ?_
        rintro e w'' ⟨v, rfl, he, hb⟩
        exact hK v _ hb (he.base hbw.size)
       ·intro a' w' hB hdep hoth K hK
        obtain ⟨vg, gg, eg⟩ := hdep ⟨12, .guard⟩ (by simp) rfl
        have gg := gg 51 rfl (by simp)
        obtain rfl : vg = .bool false := eg
        rw [guard_is rfl rfl gg]
        rw [if_pos (by decide)]
        have hbw : Below Y2.heap.size Y2 w' := (below_drewN (Below.refl _ _) 1).trans hB
        have t4 := hoth 4 (notDst_at (by kernel_rfl))
        simp only [List.getElem?_toArray, List.getElem?_cons_succ, List.getElem?_cons_zero] at t4
        have hld := (HBR.out.below hbw).load
        clear hdep hoth
        go_simp
        exact hK _ _ (Below.refl _ _) rfl
       ·intro a' w' hB hdep hoth K hK
        obtain ⟨vg, gg, eg⟩ := hdep ⟨12, .guard⟩ (by simp) rfl
        have gg := gg 51 rfl (by simp)
        obtain rfl : vg = .bool false := eg
        rw [guard_is rfl rfl gg]
        rw [if_pos (by decide)]
        have hbw : Below Y2.heap.size Y2 w' := (below_drewN (Below.refl _ _) 1).trans hB
        obtain ⟨v0, q0, e0⟩ := hdep ⟨15, .data⟩ (by simp) rfl
        have q0 := q0 54 rfl (by simp)
        have e0 : BrEnd Y2 (applyB B kk rl) v0 w' := e0
        obtain ⟨v1, q1, e1⟩ := hdep ⟨16, .data⟩ (by simp) rfl
        have q1 := q1 55 rfl (by simp)
        obtain rfl : v1 = .agg bv := e1
        have HA := hid (rsame_is true HSB.out e0.is (HBR.out.below hbw).is)
        clear hdep hoth e0
        go_simp
        refine HA.out.mono ?_
        rintro e w'' ⟨rfl, hb⟩
        exact hK _ _ hb rfl
       ·intro a' w' hB hdep hoth K hK
        rw [if_pos (guard_none rfl)]
        have hbw : Below Y2.heap.size Y2 w' := (below_drewN (Below.refl _ _) 1).trans hB
        obtain ⟨vx0, gx0, ex0⟩ := hdep ⟨12, .data⟩ (by simp) rfl
        have gx0 := gx0 51 rfl (by simp)
        obtain rfl : vx0 = .bool false := ex0
        obtain ⟨vx1, gx1, ex1⟩ := hdep ⟨17, .data⟩ (by simp) rfl
        have gx1 := gx1 56 rfl (by simp)
        obtain rfl : vx1 = .bool true := ex1
        clear hdep hoth
        go_simp
        exact hK _ _ (Below.refl _ _) rfl
      case fin6 =>
       intro vs U hB hs
       have hbw : Below Y2.heap.size Y2 U := (below_drewN (Below.refl _ _) 1).trans hB
       have ev : vs 18 = .bool true := hs 18 (by decide)
       clear hs
       simp only [actOf, dstAt, if_true, List.getElem?_toArray, List.getElem?_cons_succ, List.getElem?_cons_zero, Option.bind_some, Act.put, List.setIfInBounds_toArray, List.set_cons_zero, List.set_cons_succ, List.length_cons, List.length_nil, Nat.reduceAdd]
       rw [ev]
       clear ev hB
       have HB5 := hid (HB4.out.trans (hbw.mono HB4.out.size))
       have S4 := hid (blk_below R4.out hbw (blk_lt R4.out))
       have SC := hid (blk_below RC.out hbw (blk_lt RC.out))
       have SG := hid (RG.out.below hbw)
       clear hbw
       obtain ⟨k0, k1, k2, kf, kl⟩ := blk3 SC.out
       obtain ⟨z0, z1, z2, zf, zl⟩ := blk3 S4.out
       go_wp2_with fail
       go_region
       obtain ⟨x4, xb⟩ := rhear_out S4.out HB5.out (by omega) (.int .i64 ep) (.int .i64 nx) (.slice ca G.length cc)
       have sg := set_calls SG.out S4.out (.int .i64 ep) (.int .i64 nx) (.slice ca G.length cc)
       have x4 := blk_drew1 x4
       have xb := below_drew2 xb
       go_wp2
       exact bodyPost_ret (res_rhear rfl rfl rfl x4) rfl ⟨_, _, rfl, by rw [HE.out.1, HEN.out]; exact RecsL.nil _, by rw [HE.out.2]; exact sg, xb⟩
     | false =>
      have HEN := hid (show countsL B y d i now = [(kk, rl)] by unfold countsL; rw [HSR.out]; exact if_pos ⟨of_decide_eq_true HIQ.out, HSB.out⟩)
      refine wp_region_held_drew (S := fun _ => True) (by kernel_rfl) trivial (fun _ => ?_)
      refine wpAnyH_grownG (w0 := Y2.drew) (spL [fun z _ => z = .bool true, fun z _ => z = .bool false, fun z _ => z = .bool false, fun z _ => z = (.agg bv), fun z _ => z = .pointer (some ⟨T10, 1, none⟩), fun z _ => z = .int .u8 y.kind, fun z _ => z = .pointer (some ⟨T10, 2, none⟩), fun z _ => z = .int .i64 y.key, fun z _ => z = .agg #[.int .u8 y.kind, .int .i64 y.key], fun z _ => z = .bool true, fun z _ => z = .bool false, fun z _ => z = .bool false, fun z _ => z = .bool false, fun z _ => z = (.agg bv), fun z _ => z = .agg #[.int .u8 kk, .slice ra rn rc], fun z w => BrEnd Y2 (applyB B kk (rl)) z w, fun z _ => z = (.agg bv), fun z _ => z = .bool false, fun z _ => z = .bool false]) (spL_stays ⟨stays_eq _, stays_eq _, stays_eq _, stays_eq _, stays_eq _, stays_eq _, stays_eq _, stays_eq _, stays_eq _, stays_eq _, stays_eq _, stays_eq _, stays_eq _, stays_eq _, stays_eq _, stays_brEnd _ _, stays_eq _, stays_eq _, stays_eq _, trivial⟩) (by kernel_rfl) (by kernel_rfl) ?steps6 ?fin6 rfl
      case steps6 =>
       refine ⟨?_, ?_, ?_, ?_, ?_, ?_, ?_, ?_, ?_, ?_, ?_, ?_, ?_, ?_, ?_, ?_, ?_, ?_, ?_, trivial⟩
       ·intro a' w' hB hdep hoth K hK
        rw [if_pos (guard_none rfl)]
        have hbw : Below Y2.heap.size Y2 w' := (below_drewN (Below.refl _ _) 1).trans hB
        have t11 := hoth 11 (notDst_at (by kernel_rfl))
        simp only [List.getElem?_toArray, List.getElem?_cons_succ, List.getElem?_cons_zero] at t11
        clear hdep hoth
        go_simp
        exact hK _ _ (Below.refl _ _) rfl
       ·intro a' w' hB hdep hoth K hK
        rw [if_pos (guard_none rfl)]
        have hbw : Below Y2.heap.size Y2 w' := (below_drewN (Below.refl _ _) 1).trans hB
        obtain ⟨vx0, gx0, ex0⟩ := hdep ⟨0, .data⟩ (by simp) rfl
        have gx0 := gx0 39 rfl (by simp)
        obtain rfl : vx0 = .bool true := ex0
        clear hdep hoth
        go_simp
        exact hK _ _ (Below.refl _ _) rfl
       ·intro a' w' hB hdep hoth K hK
        rw [if_pos (guard_none rfl)]
        have hbw : Below Y2.heap.size Y2 w' := (below_drewN (Below.refl _ _) 1).trans hB
        obtain ⟨vx0, gx0, ex0⟩ := hdep ⟨1, .data⟩ (by simp) rfl
        have gx0 := gx0 40 rfl (by simp)
        obtain rfl : vx0 = .bool false := ex0
        clear hdep hoth
        go_simp
        exact hK _ _ (Below.refl _ _) rfl
       ·intro a' w' hB hdep hoth K hK
        obtain ⟨vg, gg, eg⟩ := hdep ⟨2, .guard⟩ (by simp) rfl
        have gg := gg 41 rfl (by simp)
        obtain rfl : vg = .bool false := eg
        rw [guard_is rfl rfl gg]
        rw [if_pos (by decide)]
        have hbw : Below Y2.heap.size Y2 w' := (below_drewN (Below.refl _ _) 1).trans hB
        have t4 := hoth 4 (notDst_at (by kernel_rfl))
        simp only [List.getElem?_toArray, List.getElem?_cons_succ, List.getElem?_cons_zero] at t4
        have hld := (HBR.out.below hbw).load
        clear hdep hoth
        go_simp
        exact hK _ _ (Below.refl _ _) rfl
       ·intro a' w' hB hdep hoth K hK
        obtain ⟨vg, gg, eg⟩ := hdep ⟨2, .guard⟩ (by simp) rfl
        have gg := gg 41 rfl (by simp)
        obtain rfl : vg = .bool false := eg
        rw [guard_is rfl rfl gg]
        rw [if_pos (by decide)]
        have hbw : Below Y2.heap.size Y2 w' := (below_drewN (Below.refl _ _) 1).trans hB
        have t10 := hoth 10 (notDst_at (by kernel_rfl))
        simp only [List.getElem?_toArray, List.getElem?_cons_succ, List.getElem?_cons_zero] at t10
        clear hdep hoth
        go_simp
        exact hK _ _ (Below.refl _ _) rfl
       ·intro a' w' hB hdep hoth K hK
        obtain ⟨vg, gg, eg⟩ := hdep ⟨2, .guard⟩ (by simp) rfl
        have gg := gg 41 rfl (by simp)
        obtain rfl : vg = .bool false := eg
        rw [guard_is rfl rfl gg]
        rw [if_pos (by decide)]
        have hbw : Below Y2.heap.size Y2 w' := (below_drewN (Below.refl _ _) 1).trans hB
        obtain ⟨vx0, gx0, ex0⟩ := hdep ⟨4, .data⟩ (by simp) rfl
        have gx0 := gx0 43 rfl (by simp)
        obtain rfl : vx0 = .pointer (some ⟨T10, 1, none⟩) := ex0
        have q1 : w'.cell? ⟨T10, 1, none⟩ = some (.int .u8 y.kind) := blk_cell (blk_below RY.out hbw (blk_lt RY.out)) 1
        have q2 : w'.cell? ⟨T10, 2, none⟩ = some (.int .i64 y.key) := blk_cell (blk_below RY.out hbw (blk_lt RY.out)) 2
        have lq := blk_lt (blk_below RY.out hbw (blk_lt RY.out))
        clear hdep hoth
        go_simp
        exact hK _ _ (Below.refl _ _) rfl
       ·intro a' w' hB hdep hoth K hK
        obtain ⟨vg, gg, eg⟩ := hdep ⟨2, .guard⟩ (by simp) rfl
        have gg := gg 41 rfl (by simp)
        obtain rfl : vg = .bool false := eg
        rw [guard_is rfl rfl gg]
        rw [if_pos (by decide)]
        have hbw : Below Y2.heap.size Y2 w' := (below_drewN (Below.refl _ _) 1).trans hB
        have t10 := hoth 10 (notDst_at (by kernel_rfl))
        simp only [List.getElem?_toArray, List.getElem?_cons_succ, List.getElem?_cons_zero] at t10
        clear hdep hoth
        go_simp
        exact hK _ _ (Below.refl _ _) rfl
       ·intro a' w' hB hdep hoth K hK
        obtain ⟨vg, gg, eg⟩ := hdep ⟨2, .guard⟩ (by simp) rfl
        have gg := gg 41 rfl (by simp)
        obtain rfl : vg = .bool false := eg
        rw [guard_is rfl rfl gg]
        rw [if_pos (by decide)]
        have hbw : Below Y2.heap.size Y2 w' := (below_drewN (Below.refl _ _) 1).trans hB
        obtain ⟨vx0, gx0, ex0⟩ := hdep ⟨6, .data⟩ (by simp) rfl
        have gx0 := gx0 45 rfl (by simp)
        obtain rfl : vx0 = .pointer (some ⟨T10, 2, none⟩) := ex0
        have q1 : w'.cell? ⟨T10, 1, none⟩ = some (.int .u8 y.kind) := blk_cell (blk_below RY.out hbw (blk_lt RY.out)) 1
        have q2 : w'.cell? ⟨T10, 2, none⟩ = some (.int .i64 y.key) := blk_cell (blk_below RY.out hbw (blk_lt RY.out)) 2
        have lq := blk_lt (blk_below RY.out hbw (blk_lt RY.out))
        clear hdep hoth
        go_simp
        exact hK _ _ (Below.refl _ _) rfl
       ·intro a' w' hB hdep hoth K hK
        obtain ⟨vg, gg, eg⟩ := hdep ⟨2, .guard⟩ (by simp) rfl
        have gg := gg 41 rfl (by simp)
        obtain rfl : vg = .bool false := eg
        rw [guard_is rfl rfl gg]
        rw [if_pos (by decide)]
        have hbw : Below Y2.heap.size Y2 w' := (below_drewN (Below.refl _ _) 1).trans hB
        obtain ⟨vx0, gx0, ex0⟩ := hdep ⟨5, .data⟩ (by simp) rfl
        have gx0 := gx0 44 rfl (by simp)
        obtain rfl : vx0 = .int .u8 y.kind := ex0
        obtain ⟨vx1, gx1, ex1⟩ := hdep ⟨7, .data⟩ (by simp) rfl
        have gx1 := gx1 46 rfl (by simp)
        obtain rfl : vx1 = .int .i64 y.key := ex1
        clear hdep hoth
        go_simp
        exact hK _ _ (Below.refl _ _) rfl
       ·intro a' w' hB hdep hoth K hK
        obtain ⟨vg, gg, eg⟩ := hdep ⟨2, .guard⟩ (by simp) rfl
        have gg := gg 41 rfl (by simp)
        obtain rfl : vg = .bool false := eg
        rw [guard_is rfl rfl gg]
        rw [if_pos (by decide)]
        have hbw : Below Y2.heap.size Y2 w' := (below_drewN (Below.refl _ _) 1).trans hB
        obtain ⟨vx0, gx0, ex0⟩ := hdep ⟨3, .data⟩ (by simp) rfl
        have gx0 := gx0 42 rfl (by simp)
        obtain rfl : vx0 = (.agg bv) := ex0
        obtain ⟨vx1, gx1, ex1⟩ := hdep ⟨8, .data⟩ (by simp) rfl
        have gx1 := gx1 47 rfl (by simp)
        obtain rfl : vx1 = .agg #[.int .u8 y.kind, .int .i64 y.key] := ex1
        have HA := hid (dis20_is true y.kind y.key HIQ.out (HBR.out.below hbw).is (by have := HF.out.1; omega) (by have := HF.out.2.1; omega))
        clear hdep hoth
        go_simp
        refine HA.out.mono ?_
        rintro e w'' ⟨rfl, hb⟩
        exact hK _ _ hb rfl
       ·intro a' w' hB hdep hoth K hK
        obtain ⟨vg, gg, eg⟩ := hdep ⟨2, .guard⟩ (by simp) rfl
        have gg := gg 41 rfl (by simp)
        obtain rfl : vg = .bool false := eg
        rw [guard_is rfl rfl gg]
        rw [if_pos (by decide)]
        have hbw : Below Y2.heap.size Y2 w' := (below_drewN (Below.refl _ _) 1).trans hB
        obtain ⟨vx0, gx0, ex0⟩ := hdep ⟨9, .data⟩ (by simp) rfl
        have gx0 := gx0 48 rfl (by simp)
        obtain rfl : vx0 = .bool true := ex0
        clear hdep hoth
        go_simp
        exact hK _ _ (Below.refl _ _) rfl
       ·intro a' w' hB hdep hoth K hK
        rw [if_pos (guard_none rfl)]
        have hbw : Below Y2.heap.size Y2 w' := (below_drewN (Below.refl _ _) 1).trans hB
        obtain ⟨vx0, gx0, ex0⟩ := hdep ⟨2, .data⟩ (by simp) rfl
        have gx0 := gx0 41 rfl (by simp)
        obtain rfl : vx0 = .bool false := ex0
        obtain ⟨vx1, gx1, ex1⟩ := hdep ⟨10, .data⟩ (by simp) rfl
        have gx1 := gx1 49 rfl (by simp)
        obtain rfl : vx1 = .bool false := ex1
        clear hdep hoth
        go_simp
        exact hK _ _ (Below.refl _ _) rfl
       ·intro a' w' hB hdep hoth K hK
        rw [if_pos (guard_none rfl)]
        have hbw : Below Y2.heap.size Y2 w' := (below_drewN (Below.refl _ _) 1).trans hB
        obtain ⟨vx0, gx0, ex0⟩ := hdep ⟨11, .data⟩ (by simp) rfl
        have gx0 := gx0 50 rfl (by simp)
        obtain rfl : vx0 = .bool false := ex0
        clear hdep hoth
        go_simp
        exact hK _ _ (Below.refl _ _) rfl
       ·intro a' w' hB hdep hoth K hK
        obtain ⟨vg, gg, eg⟩ := hdep ⟨12, .guard⟩ (by simp) rfl
        have gg := gg 51 rfl (by simp)
        obtain rfl : vg = .bool false := eg
        rw [guard_is rfl rfl gg]
        rw [if_pos (by decide)]
        have hbw : Below Y2.heap.size Y2 w' := (below_drewN (Below.refl _ _) 1).trans hB
        have t4 := hoth 4 (notDst_at (by kernel_rfl))
        simp only [List.getElem?_toArray, List.getElem?_cons_succ, List.getElem?_cons_zero] at t4
        have hld := (HBR.out.below hbw).load
        clear hdep hoth
        go_simp
        exact hK _ _ (Below.refl _ _) rfl
       ·intro a' w' hB hdep hoth K hK
        obtain ⟨vg, gg, eg⟩ := hdep ⟨12, .guard⟩ (by simp) rfl
        have gg := gg 51 rfl (by simp)
        obtain rfl : vg = .bool false := eg
        rw [guard_is rfl rfl gg]
        rw [if_pos (by decide)]
        have hbw : Below Y2.heap.size Y2 w' := (below_drewN (Below.refl _ _) 1).trans hB
        have t13 := hoth 13 (notDst_at (by kernel_rfl))
        simp only [List.getElem?_toArray, List.getElem?_cons_succ, List.getElem?_cons_zero] at t13
        have q1 : w'.cell? ⟨T13, 0, none⟩ = some (.int .u8 kk) := blk_cell (blk_below HRB.out hbw (blk_lt HRB.out)) 0
        have q2 : w'.cell? ⟨T13, 1, none⟩ = some (.slice ra rn rc) := blk_cell (blk_below HRB.out hbw (blk_lt HRB.out)) 1
        have lq := blk_lt (blk_below HRB.out hbw (blk_lt HRB.out))
        clear hdep hoth
        go_simp
        exact hK _ _ (Below.refl _ _) rfl
       ·intro a' w' hB hdep hoth K hK
        obtain ⟨vg, gg, eg⟩ := hdep ⟨12, .guard⟩ (by simp) rfl
        have gg := gg 51 rfl (by simp)
        obtain rfl : vg = .bool false := eg
        rw [guard_is rfl rfl gg]
        rw [if_pos (by decide)]
        have hbw : Below Y2.heap.size Y2 w' := (below_drewN (Below.refl _ _) 1).trans hB
        obtain ⟨v0, g0, e0⟩ := hdep ⟨13, .data⟩ (by simp) rfl
        have g0 := g0 52 rfl (by simp)
        obtain rfl : v0 = (.agg bv) := e0
        obtain ⟨v1, g1, e1⟩ := hdep ⟨14, .data⟩ (by simp) rfl
        have g1 := g1 53 rfl (by simp)
        obtain rfl : v1 = .agg #[.int .u8 kk, .slice ra rn rc] := e1
        have HA := hid (rapply_is kk rl 900 (HBR.out.below hbw).is ⟨_, rfl, HRW.out.below hbw⟩ HF.out (by omega) hlM (by have := HLN.out; omega) (says_kinds HSR.out))
        clear hdep hoth
        go_simp
        refine HA.out.mono ?_
        rintro e w'' ⟨v, rfl, he, hb⟩
        exact hK v _ hb (he.base hbw.size)
       ·intro a' w' hB hdep hoth K hK
        obtain ⟨vg, gg, eg⟩ := hdep ⟨12, .guard⟩ (by simp) rfl
        have gg := gg 51 rfl (by simp)
        obtain rfl : vg = .bool false := eg
        rw [guard_is rfl rfl gg]
        rw [if_pos (by decide)]
        have hbw : Below Y2.heap.size Y2 w' := (below_drewN (Below.refl _ _) 1).trans hB
        have t4 := hoth 4 (notDst_at (by kernel_rfl))
        simp only [List.getElem?_toArray, List.getElem?_cons_succ, List.getElem?_cons_zero] at t4
        have hld := (HBR.out.below hbw).load
        clear hdep hoth
        go_simp
        exact hK _ _ (Below.refl _ _) rfl
       ·intro a' w' hB hdep hoth K hK
        obtain ⟨vg, gg, eg⟩ := hdep ⟨12, .guard⟩ (by simp) rfl
        have gg := gg 51 rfl (by simp)
        obtain rfl : vg = .bool false := eg
        rw [guard_is rfl rfl gg]
        rw [if_pos (by decide)]
        have hbw : Below Y2.heap.size Y2 w' := (below_drewN (Below.refl _ _) 1).trans hB
        obtain ⟨v0, q0, e0⟩ := hdep ⟨15, .data⟩ (by simp) rfl
        have q0 := q0 54 rfl (by simp)
        have e0 : BrEnd Y2 (applyB B kk rl) v0 w' := e0
        obtain ⟨v1, q1, e1⟩ := hdep ⟨16, .data⟩ (by simp) rfl
        have q1 := q1 55 rfl (by simp)
        obtain rfl : v1 = .agg bv := e1
        have HA := hid (rsame_is false HSB.out e0.is (HBR.out.below hbw).is)
        clear hdep hoth e0
        go_simp
        refine HA.out.mono ?_
        rintro e w'' ⟨rfl, hb⟩
        exact hK _ _ hb rfl
       ·intro a' w' hB hdep hoth K hK
        rw [if_pos (guard_none rfl)]
        have hbw : Below Y2.heap.size Y2 w' := (below_drewN (Below.refl _ _) 1).trans hB
        obtain ⟨vx0, gx0, ex0⟩ := hdep ⟨12, .data⟩ (by simp) rfl
        have gx0 := gx0 51 rfl (by simp)
        obtain rfl : vx0 = .bool false := ex0
        obtain ⟨vx1, gx1, ex1⟩ := hdep ⟨17, .data⟩ (by simp) rfl
        have gx1 := gx1 56 rfl (by simp)
        obtain rfl : vx1 = .bool false := ex1
        clear hdep hoth
        go_simp
        exact hK _ _ (Below.refl _ _) rfl
      case fin6 =>
       intro vs U hB hs
       have hbw : Below Y2.heap.size Y2 U := (below_drewN (Below.refl _ _) 1).trans hB
       have ev : vs 18 = .bool false := hs 18 (by decide)
       clear hs
       simp only [actOf, dstAt, if_true, List.getElem?_toArray, List.getElem?_cons_succ, List.getElem?_cons_zero, Option.bind_some, Act.put, List.setIfInBounds_toArray, List.set_cons_zero, List.set_cons_succ, List.length_cons, List.length_nil, Nat.reduceAdd]
       rw [ev]
       clear ev hB
       have HB5 := hid (HB4.out.trans (hbw.mono HB4.out.size))
       have S4 := hid (blk_below R4.out hbw (blk_lt R4.out))
       have SC := hid (blk_below RC.out hbw (blk_lt RC.out))
       have SG := hid (RG.out.below hbw)
       have SR := hid (blk_below HRB.out hbw (blk_lt HRB.out))
       have SO := hid (Owns.below HOW.out hbw)
       clear hbw
       obtain ⟨k0, k1, k2, kf, kl⟩ := blk3 SC.out
       obtain ⟨z0, z1, z2, zf, zl⟩ := blk3 S4.out
       obtain ⟨r0, r1, rf, rl1⟩ := blk2 SR.out
       have hbs := bs_recA kk ra rn rc
       go_wp2_with fail
       go_region
       obtain ⟨x4, xb⟩ := rhear_out S4.out HB5.out (by omega) (.int .i64 ep) (.int .i64 nx) (.slice ca G.length cc)
       have sg := set_calls SG.out S4.out (.int .i64 ep) (.int .i64 nx) (.slice ca G.length cc)
       have so := Owns.other (Owns.other (Owns.other SO.out (p := ⟨w.heap.size + 1 + 1 + 1, 0, none⟩) hT4 (.int .i64 ep)) (p := ⟨w.heap.size + 1 + 1 + 1, 1, none⟩) hT4 (.int .i64 nx)) (p := ⟨w.heap.size + 1 + 1 + 1, 2, none⟩) hT4 (.slice ca G.length cc)
       have hr1 := RecsR.one (k := kk) (so.row (fun _ => rfl) (by decide))
       have hq := below_drew2 ((Below.refl _ (((U.setCell ⟨w.heap.size + 1 + 1 + 1, 0, none⟩ (.int .i64 ep)).setCell ⟨w.heap.size + 1 + 1 + 1, 1, none⟩ (.int .i64 nx)).setCell ⟨w.heap.size + 1 + 1 + 1, 2, none⟩ (.slice ca G.length cc))).alloc (Nat.le_refl _) (.cells #[.int .u8 kk, .slice ra rn rc] 44))
       simp only [World.size_setCell] at hr1
       have x4 := blk_drew1 (blk_alloc x4 (.cells #[.int .u8 kk, .slice ra rn rc] 44))
       go_wp2
       exact bodyPost_ret (res_rhear rfl rfl rfl x4) rfl ⟨_, _, rfl, by rw [HE.out.1, HEN.out]; exact ⟨[⟨kk, .slice ra rn rc, rl⟩], rfl, hr1.below (below_drew2 (Below.refl _ _))⟩, by rw [HE.out.2]; exact sg.below hq, xb.trans (hq.mono xb.size)⟩
end Go.Proofs.YthhgpiolcnojfaaGreatDoor
