import Derived.Test.YtgcajfglidflnaaGreatDoorPga
import Derived.Test.YtgcajfglidflnaaGreatDoorRdr
import Derived.Deep.WholeRow
/- herdlaw21.wakes. Printed by gn_wkr.py. -/
namespace Go.Proofs.YtgcajfglidflnaaGreatDoor
open Go.RowKit Go.Shelf
attribute [-go_sem] loadVar storeVar Instr.buildSlice
attribute [local go_sem] load_other store_other

def bWk : BrainV := ⟨fun _ => 0, fun i => i == 2, [], [], [⟨1, 0, 0, 0, 2, 3, false, false⟩, ⟨2, 0, 0, 0, 4, 3, false, false⟩]⟩
theorem wk_recs : recordsL bWk [⟨2, 0, 0, 0, true, false, true⟩, ⟨4, 0, 7, 0, false, false, false⟩] 5 9 = [(7, [1]), (6, [2, 5, 9]), (8, [4, 0, 7, 0, 9])] := by decide +kernel
theorem RecsL.three {w : World} {k0 k1 k2 : Int} {l0 l1 l2 : List Int} {v : Value} (h : RecsL w [(k0, l0), (k1, l1), (k2, l2)] v) : ∃ b o c a0 c0 a1 c1 a2 c2, v = .slice (some ⟨b, o, none⟩) 3 c ∧ b < w.heap.size ∧
  w.cell? ⟨b, o, none⟩ = some (.int .u8 k0) ∧ w.cell? ⟨b, o + 1, none⟩ = some (.slice a0 l0.length c0) ∧ w.cell? ⟨b, o + 2, none⟩ = some (.int .u8 k1) ∧ w.cell? ⟨b, o + 2 + 1, none⟩ = some (.slice a1 l1.length c1) ∧ w.cell? ⟨b, o + 4, none⟩ = some (.int .u8 k2) ∧ w.cell? ⟨b, o + 4 + 1, none⟩ = some (.slice a2 l2.length c2) ∧
  RowOf 1 encI w (.slice a0 l0.length c0) l0 ∧ RowOf 1 encI w (.slice a1 l1.length c1) l1 ∧ RowOf 1 encI w (.slice a2 l2.length c2) l2 := by
 obtain ⟨R, h1, h2, h3⟩ := h
 match R, h1, h2, h3 with
 | [r0, r1, r2], h1, h2, h3 =>
  simp only [List.map_cons, List.map_nil, List.cons.injEq, klR, Prod.mk.injEq, and_true] at h1
  obtain ⟨⟨e0, f0⟩, ⟨e1, f1⟩, e2, f2⟩ := h1
  obtain ⟨a, c, rfl, _, _, _, hop⟩ := h2.open
  obtain ⟨b, off, rfl, hb, hrow⟩ := hop (by simp)
  obtain ⟨a0, c0, q0, _⟩ := (h3 r0 (by simp)).open
  obtain ⟨a1, c1, q1, _⟩ := (h3 r1 (by simp)).open
  obtain ⟨a2, c2, q2, _⟩ := (h3 r2 (by simp)).open
  obtain ⟨g0, g1⟩ := rowR hrow (i := 0) rfl
  obtain ⟨g2, g3⟩ := rowR hrow (i := 1) rfl
  obtain ⟨g4, g5⟩ := rowR hrow (i := 2) rfl
  have p0 := h3 r0 (by simp)
  have p1 := h3 r1 (by simp)
  have p2 := h3 r2 (by simp)
  rw [q0] at g1 p0
  rw [q1] at g3 p1
  rw [q2] at g5 p2
  rw [f0] at g1 p0
  rw [f1] at g3 p1
  rw [f2] at g5 p2
  rw [e0] at g0
  rw [e1] at g2
  rw [e2] at g4
  exact ⟨b, off, c, a0, c0, a1, c1, a2, c2, rfl, hb, by simpa using g0, by simpa using g1, by simpa using g2, by simpa using g3, by simpa using g4, by simpa using g5, p0, p1, p2⟩
theorem br_store_new {y : World} {zs bs : Array Value} (hz : zs.size = 27) (hs : bs.size = 27) (h1 : bs.all (·.oneCell') = true) :
  (storeVar 33 ⟨y.heap.size, 0, none⟩ (.agg bs)).run Tryz.prog (y.alloc (.cells zs 33)) = .ok () (y.alloc (.cells bs 33)) := by
 rw [run_storeVar_row _ _ 33 33 zs bs (heap_new y _) (by rw [hs]; kernel_rfl) (by rw [hz, hs]) h1, World.setRow_alloc_new]
set_option maxRecDepth 100000 in
set_option maxHeartbeats 8000000 in
theorem wakes21_any (w : World) (hC : Changes w) (hL : Limits w) : Calls Tryz.prog 7 #[] w fun e w' => e = .returned (.bool true) ∧ Below w.heap.size w w' := by
 have hb1 : ∀ (w : World), (Instr.buildSlice 29 2 #[(0, .agg #[.int .i64 1, .int .i64 0, .int .i64 0, .int .i64 0, .int .u8 2, .int .i64 3, .bool false, .bool false]), (1, .agg #[.int .i64 2, .int .i64 0, .int .i64 0, .int .i64 0, .int .u8 4, .int .i64 3, .bool false, .bool false])]).run Tryz.prog w = .ok (.slice (some ⟨w.heap.size, 0, none⟩) 2 2) (w.alloc (.cells #[.int .i64 1, .int .i64 0, .int .i64 0, .int .i64 0, .int .u8 2, .int .i64 3, .bool false, .bool false, .int .i64 2, .int .i64 0, .int .i64 0, .int .i64 0, .int .u8 4, .int .i64 3, .bool false, .bool false] 51)) := fun w => by kernel_rfl
 have hb2 : ∀ (w : World), (Instr.buildSlice 37 2 #[(0, .agg #[.int .i64 2, .int .i64 0, .int .i64 0, .int .i64 0, .bool true, .bool false, .bool true]), (1, .agg #[.int .i64 4, .int .i64 0, .int .i64 7, .int .i64 0, .bool false, .bool false, .bool false])]).run Tryz.prog w = .ok (.slice (some ⟨w.heap.size, 0, none⟩) 2 2) (w.alloc (.cells #[.int .i64 2, .int .i64 0, .int .i64 0, .int .i64 0, .bool true, .bool false, .bool true, .int .i64 4, .int .i64 0, .int .i64 7, .int .i64 0, .bool false, .bool false, .bool false] 49)) := fun w => by kernel_rfl
 have hst : (storeVar 33 ⟨w.heap.size + 1, 0, none⟩ (.agg #[.int .i64 0, .int .i64 0, .bool true, .int .i64 0, .int .i64 0, .int .i64 0, .int .i64 0, .int .i64 0, .int .i64 0, .int .i64 0, .int .i64 0, .int .i64 0, .int .i64 0, .int .i64 0, .int .i64 0, .int .i64 0, .bool false, .slice none 0 0, .slice none 0 0, .slice (some ⟨w.heap.size, 0, none⟩) 2 2, .int .u8 0, .int .i64 0, .int .i64 0, .int .i64 0, .bool false, .int .i64 0, .int .i64 0])).run Tryz.prog ((w.alloc (.cells #[.int .i64 1, .int .i64 0, .int .i64 0, .int .i64 0, .int .u8 2, .int .i64 3, .bool false, .bool false, .int .i64 2, .int .i64 0, .int .i64 0, .int .i64 0, .int .u8 4, .int .i64 3, .bool false, .bool false] 51)).alloc (.cells #[.int .i64 0, .int .i64 0, .bool false, .int .i64 0, .int .i64 0, .int .i64 0, .int .i64 0, .int .i64 0, .int .i64 0, .int .i64 0, .int .i64 0, .int .i64 0, .int .i64 0, .int .i64 0, .int .i64 0, .int .i64 0, .bool false, .slice none 0 0, .slice none 0 0, .slice none 0 0, .int .u8 0, .int .i64 0, .int .i64 0, .int .i64 0, .bool false, .int .i64 0, .int .i64 0] 33)) = .ok () ((w.alloc (.cells #[.int .i64 1, .int .i64 0, .int .i64 0, .int .i64 0, .int .u8 2, .int .i64 3, .bool false, .bool false, .int .i64 2, .int .i64 0, .int .i64 0, .int .i64 0, .int .u8 4, .int .i64 3, .bool false, .bool false] 51)).alloc (.cells #[.int .i64 0, .int .i64 0, .bool true, .int .i64 0, .int .i64 0, .int .i64 0, .int .i64 0, .int .i64 0, .int .i64 0, .int .i64 0, .int .i64 0, .int .i64 0, .int .i64 0, .int .i64 0, .int .i64 0, .int .i64 0, .bool false, .slice none 0 0, .slice none 0 0, .slice (some ⟨w.heap.size, 0, none⟩) 2 2, .int .u8 0, .int .i64 0, .int .i64 0, .int .i64 0, .bool false, .int .i64 0, .int .i64 0] 33)) := by
  have := br_store_new (y := w.alloc (.cells #[.int .i64 1, .int .i64 0, .int .i64 0, .int .i64 0, .int .u8 2, .int .i64 3, .bool false, .bool false, .int .i64 2, .int .i64 0, .int .i64 0, .int .i64 0, .int .u8 4, .int .i64 3, .bool false, .bool false] 51)) (zs := #[.int .i64 0, .int .i64 0, .bool false, .int .i64 0, .int .i64 0, .int .i64 0, .int .i64 0, .int .i64 0, .int .i64 0, .int .i64 0, .int .i64 0, .int .i64 0, .int .i64 0, .int .i64 0, .int .i64 0, .int .i64 0, .bool false, .slice none 0 0, .slice none 0 0, .slice none 0 0, .int .u8 0, .int .i64 0, .int .i64 0, .int .i64 0, .bool false, .int .i64 0, .int .i64 0]) (bs := #[.int .i64 0, .int .i64 0, .bool true, .int .i64 0, .int .i64 0, .int .i64 0, .int .i64 0, .int .i64 0, .int .i64 0, .int .i64 0, .int .i64 0, .int .i64 0, .int .i64 0, .int .i64 0, .int .i64 0, .int .i64 0, .bool false, .slice none 0 0, .slice none 0 0, .slice (some ⟨w.heap.size, 0, none⟩) 2 2, .int .u8 0, .int .i64 0, .int .i64 0, .int .i64 0, .bool false, .int .i64 0, .int .i64 0]) rfl rfl (by simp [Value.oneCell'])
  rw [World.size_alloc] at this
  exact this
 obtain ⟨W2, hW2⟩ : ∃ W2, W2 = (w.alloc (.cells #[.int .i64 1, .int .i64 0, .int .i64 0, .int .i64 0, .int .u8 2, .int .i64 3, .bool false, .bool false, .int .i64 2, .int .i64 0, .int .i64 0, .int .i64 0, .int .u8 4, .int .i64 3, .bool false, .bool false] 51)).alloc (.cells #[.int .i64 0, .int .i64 0, .bool true, .int .i64 0, .int .i64 0, .int .i64 0, .int .i64 0, .int .i64 0, .int .i64 0, .int .i64 0, .int .i64 0, .int .i64 0, .int .i64 0, .int .i64 0, .int .i64 0, .int .i64 0, .bool false, .slice none 0 0, .slice none 0 0, .slice (some ⟨w.heap.size, 0, none⟩) 2 2, .int .u8 0, .int .i64 0, .int .i64 0, .int .i64 0, .bool false, .int .i64 0, .int .i64 0] 33) := ⟨_, rfl⟩
 have hbw : Below w.heap.size w W2 := by rw [hW2]; exact ((Below.refl _ _).alloc (Nat.le_refl _) _).alloc (by simp) _
 have n0 : W2.heap[w.heap.size]? = some (.cells #[.int .i64 1, .int .i64 0, .int .i64 0, .int .i64 0, .int .u8 2, .int .i64 3, .bool false, .bool false, .int .i64 2, .int .i64 0, .int .i64 0, .int .i64 0, .int .u8 4, .int .i64 3, .bool false, .bool false] 51) := by rw [hW2]; exact blk_alloc (heap_new _ _) _
 have n1 : W2.heap[w.heap.size + 1]? = some (.cells #[.int .i64 0, .int .i64 0, .bool true, .int .i64 0, .int .i64 0, .int .i64 0, .int .i64 0, .int .i64 0, .int .i64 0, .int .i64 0, .int .i64 0, .int .i64 0, .int .i64 0, .int .i64 0, .int .i64 0, .int .i64 0, .bool false, .slice none 0 0, .slice none 0 0, .slice (some ⟨w.heap.size, 0, none⟩) 2 2, .int .u8 0, .int .i64 0, .int .i64 0, .int .i64 0, .bool false, .int .i64 0, .int .i64 0] 33) := by rw [hW2]; exact heap_new2 _ _ _
 have hkp : RowOf 8 encKp W2 (.slice (some ⟨w.heap.size, 0, none⟩) 2 2) bWk.K := row_blk (l := bWk.K) encKp_len n0 (by simp [bWk]) (show 2 ≤ maxLen by decide)
 have hv : VarIs W2 (w.heap.size + 1) bWk (.agg #[.int .i64 0, .int .i64 0, .bool true, .int .i64 0, .int .i64 0, .int .i64 0, .int .i64 0, .int .i64 0, .int .i64 0, .int .i64 0, .int .i64 0, .int .i64 0, .int .i64 0, .int .i64 0, .int .i64 0, .int .i64 0, .bool false, .slice none 0 0, .slice none 0 0, .slice (some ⟨w.heap.size, 0, none⟩) 2 2, .int .u8 0, .int .i64 0, .int .i64 0, .int .i64 0, .bool false, .int .i64 0, .int .i64 0]) := ⟨_, _, _, rfl, n1, row_nil _, row_nil _, hkp⟩
 have HF := hid (show Fine bWk 100 from ⟨by decide, by decide, fun x hx => by simp only [bWk, List.mem_cons, List.not_mem_nil, or_false] at hx; rcases hx with rfl | rfl <;> exact ⟨by decide, by decide⟩⟩)
 have HC := hid hC
 have HL := hid hL
 have HW2 := hid hW2
 have HB0 := hid hbw
 have V0 := hid hv
 clear hbw n0 n1 hkp hv hW2 hC hL
 obtain ⟨BW, hBW⟩ : ∃ v : Array Value, v = #[.int .i64 0, .int .i64 0, .bool true, .int .i64 0, .int .i64 0, .int .i64 0, .int .i64 0, .int .i64 0, .int .i64 0, .int .i64 0, .int .i64 0, .int .i64 0, .int .i64 0, .int .i64 0, .int .i64 0, .int .i64 0, .bool false, .slice none 0 0, .slice none 0 0, .slice (some ⟨w.heap.size, 0, none⟩) 2 2, .int .u8 0, .int .i64 0, .int .i64 0, .int .i64 0, .bool false, .int .i64 0, .int .i64 0] := ⟨_, rfl⟩
 have HBW := hid hBW
 go_enter Tryz.func7, Tryz.ntmps7
 go_wp2_with fail
 rw [← HW2.out, ← HBW.out]
 rw [← HBW.out] at V0
 clear hst hb1 hBW HW2 HBW
 refine (begin_any 5 W2).mono ?_
 rintro e Y1 ⟨rfl, hb⟩
 have V1 := hid (V0.out.below hb)
 have HB1 := hid (HB0.out.trans (hb.mono HB0.out.size))
 clear hb V0
 unfold scanV
 go_wp2_with fail
 have hal : Below Y1.heap.size Y1 (Y1.alloc (.cells #[.int .i64 2, .int .i64 0, .int .i64 0, .int .i64 0, .bool true, .bool false, .bool true, .int .i64 4, .int .i64 0, .int .i64 7, .int .i64 0, .bool false, .bool false, .bool false] 49)) := (Below.refl _ _).alloc (Nat.le_refl _) _
 have hsn : RowS (Y1.alloc (.cells #[.int .i64 2, .int .i64 0, .int .i64 0, .int .i64 0, .bool true, .bool false, .bool true, .int .i64 4, .int .i64 0, .int .i64 7, .int .i64 0, .bool false, .bool false, .bool false] 49)) (.slice (some ⟨Y1.heap.size, 0, none⟩) 2 2) [⟨2, 0, 0, 0, true, false, true⟩, ⟨4, 0, 7, 0, false, false, false⟩] := row_blk (l := ([⟨2, 0, 0, 0, true, false, true⟩, ⟨4, 0, 7, 0, false, false, false⟩] : List SeenV)) encSn_len (heap_new Y1 _) (by decide) (show 2 ≤ maxLen by decide)
 refine (page_any true 5 0 0 7 1 0 (.slice none 0 0) (.slice (some ⟨Y1.heap.size, 0, none⟩) 2 2) false [] [⟨2, 0, 0, 0, true, false, true⟩, ⟨4, 0, 7, 0, false, false, false⟩] _ (row_nil _) hsn (by decide) (by decide) false true 4 [⟨2, 0, 0, 0, true, false, true⟩, ⟨4, 0, 7, 0, false, false, false⟩] (.inl ⟨⟨rfl, rfl, rfl, rfl⟩, rfl, by decide, rfl, rfl⟩)).mono ?_
 have V2 := hid (V1.out.below hal)
 have HB2 := hid (HB1.out.trans (hal.mono HB1.out.size))
 clear hal hsn V1 hb2
 generalize Y1.alloc (.cells #[.int .i64 2, .int .i64 0, .int .i64 0, .int .i64 0, .bool true, .bool false, .bool true, .int .i64 4, .int .i64 0, .int .i64 7, .int .i64 0, .bool false, .bool false, .bool false] 49) = Y2 at V2 HB2 ⊢
 rintro e Y3 ⟨sv, rfl, ho, hb⟩
 obtain ⟨va, vn, vc, rfl⟩ := ho.shape
 obtain ⟨Y4, hY4⟩ : ∃ Y4, Y4 = Y3.alloc (.cells #[.bool false, .int .i64 5, .int .i64 4, .slice va vn vc] 39) := ⟨_, rfl⟩
 have hal : Below Y3.heap.size Y3 Y4 := by rw [hY4]; exact (Below.refl _ _).alloc (Nat.le_refl _) _
 have hb4 := hb.trans (hal.mono hb.size)
 have V4 := hid (V2.out.below hb4)
 have HB4 := hid (HB2.out.trans (hb4.mono HB2.out.size))
 have S40 := (show Y4.heap[Y3.heap.size]? = some (.cells #[.bool false, .int .i64 5, .int .i64 4, .slice va vn vc] 39) by rw [hY4]; exact heap_new _ _)
 have HSN := hid ((Owns.row ho encSn_len (by decide)).below hal)
 have HY4 := hid hY4
 clear ho hb hal hb4 hY4 V2 HB2
 unfold scanV
 go_upto_region 3 with (fail)
 rw [← HY4.out]
 obtain ⟨T2, hT2⟩ : ∃ T, Y3.heap.size = T := ⟨_, rfl⟩
 rw [hT2] at S40 ⊢
 have S4 := hid S40
 clear hT2 HY4 S40
 have hld := V4.out.load
 obtain ⟨s0, s1, s2, s3, sf, sl⟩ := blk4 S4.out
 go_wp2_with fail
 clear hld s0 s1 s2 s3 sf sl
 refine (reap_any bWk BW false 5 4 9 (.slice va vn vc) [⟨2, 0, 0, 0, true, false, true⟩, ⟨4, 0, 7, 0, false, false, false⟩] Y4 V4.out.is HSN.out HF.out (by decide) (by decide) (HC.out.below HB4.out) (HL.out.below HB4.out)).mono ?_
 rintro e Y5 ⟨lv, rfl, hr, hb⟩
 rw [wk_recs] at hr
 obtain ⟨lb, lo, lc, a0, c0, a1, c1, a2, c2, rfl, hlb, g0, g1, g2, g3, g4, g5, p0, p1, p2⟩ := hr.three
 have HB5 := hid (HB4.out.trans (hb.mono HB4.out.size))
 have S5 := hid (blk_below S4.out hb (blk_lt S4.out))
 have HG := hid (And.intro g0 (And.intro g1 (And.intro g2 (And.intro g3 (And.intro g4 g5)))))
 have P0 := hid p0
 have P1 := hid p1
 have P2 := hid p2
 have HLB := hid hlb
 clear hb hr S4 V4 HB4 HSN g0 g1 g2 g3 g4 g5 p0 p1 p2 hlb HF HC HL
 go_wp2_with fail
 refine (begin_any 5 Y5).mono ?_
 rintro e Y6 ⟨rfl, hb⟩
 have HB6 := hid (HB5.out.trans (hb.mono HB5.out.size))
 have HK6 := hid hb
 clear hb
 go_wp2_with fail
 refine (ask21_any true 5 0 77 none 0 0 Y6).mono ?_
 rintro e Y7 ⟨rfl, hb⟩
 obtain ⟨Y8, hY8⟩ : ∃ Y8, Y8 = Y7.alloc (.cells #[.int .u8 7, .int .i64 77, .int .i64 0, .int .i64 0, .int .i64 0, .int .i64 0] 66) := ⟨_, rfl⟩
 have hal : Below Y7.heap.size Y7 Y8 := by rw [hY8]; exact (Below.refl _ _).alloc (Nat.le_refl _) _
 have hb7 := HK6.out.trans ((hb.trans (hal.mono hb.size)).mono HK6.out.size)
 have HB8 := hid (HB5.out.trans (hb7.mono HB5.out.size))
 have S8 := hid (blk_below S5.out hb7 (blk_lt S5.out))
 have A80 := (show Y8.heap[Y7.heap.size]? = some (.cells #[.int .u8 7, .int .i64 77, .int .i64 0, .int .i64 0, .int .i64 0, .int .i64 0] 66) by rw [hY8]; exact heap_new _ _)
 have G8 := hid (show (Y8.cell? ⟨lb, lo, none⟩ = some (.int .u8 7) ∧ Y8.cell? ⟨lb, lo + 1, none⟩ = some (.slice a0 1 c0) ∧ Y8.cell? ⟨lb, lo + 2, none⟩ = some (.int .u8 6) ∧ Y8.cell? ⟨lb, lo + 2 + 1, none⟩ = some (.slice a1 3 c1) ∧ Y8.cell? ⟨lb, lo + 4, none⟩ = some (.int .u8 8) ∧ Y8.cell? ⟨lb, lo + 4 + 1, none⟩ = some (.slice a2 5 c2)) ∧ lb < Y8.heap.size from ⟨⟨cell_below HG.out.1 hb7, cell_below HG.out.2.1 hb7, cell_below HG.out.2.2.1 hb7, cell_below HG.out.2.2.2.1 hb7, cell_below HG.out.2.2.2.2.1 hb7, cell_below HG.out.2.2.2.2.2 hb7⟩, Nat.lt_of_lt_of_le HLB.out hb7.size⟩)
 have P08 := hid (P0.out.below hb7)
 have P18 := hid (P1.out.below hb7)
 have P28 := hid (P2.out.below hb7)
 have HY8 := hid hY8
 clear hb hal hb7 hY8 HK6 HB5 HB6 S5 HG P0 P1 P2 HLB
 go_upto_region 5 with (fail)
 rw [← HY8.out]
 obtain ⟨T5, hT5⟩ : ∃ T, Y7.heap.size = T := ⟨_, rfl⟩
 rw [hT5] at A80 ⊢
 have A8 := hid A80
 clear hT5 HY8 A80
 have h1 := bsI1
 have h3 := bsI3
 have h5 := bsI5
 obtain ⟨s0, s1, s2, s3, sf, sl⟩ := blk4 S8.out
 obtain ⟨⟨g0, g1, g2, g3, g4, g5⟩, gl⟩ := G8.out
 have k0 : Y8.cell? ⟨T5, 0, none⟩ = some (.int .u8 7) := blk_cell A8.out 0
 have k1 : Y8.cell? ⟨T5, 1, none⟩ = some (.int .i64 77) := blk_cell A8.out 1
 have k2 : Y8.cell? ⟨T5, 2, none⟩ = some (.int .i64 0) := blk_cell A8.out 2
 have kl := blk_lt A8.out
 go_wp2_with fail
 clear s0 s1 s2 s3 sf sl g0 g1 g2 g3 g4 g5 gl k0 k1 k2 kl
 have hal : Below Y8.heap.size Y8 (Y8.alloc (.cells #[.int .i64 1] 3)) := (Below.refl _ _).alloc (Nat.le_refl _) _
 refine (rrec_same 7 _ _ [1] _ (P08.out.below hal) (Owns.row (own_ints (base := 0) (L := [1]) (cs := #[.int .i64 1]) (n := 1) (Nat.zero_le _) rfl rfl rfl (by decide)) (fun _ => rfl) (by decide)) (by decide)).mono ?_
 rintro e Y9 ⟨rfl, hb⟩
 have hbn := hal.trans (hb.mono hal.size)
 have S9 := hid (blk_below S8.out hbn (blk_lt S8.out))
 have A9 := hid (blk_below A8.out hbn (blk_lt A8.out))
 have G9 := hid (show (Y9.cell? ⟨lb, lo, none⟩ = some (.int .u8 7) ∧ Y9.cell? ⟨lb, lo + 1, none⟩ = some (.slice a0 1 c0) ∧ Y9.cell? ⟨lb, lo + 2, none⟩ = some (.int .u8 6) ∧ Y9.cell? ⟨lb, lo + 2 + 1, none⟩ = some (.slice a1 3 c1) ∧ Y9.cell? ⟨lb, lo + 4, none⟩ = some (.int .u8 8) ∧ Y9.cell? ⟨lb, lo + 4 + 1, none⟩ = some (.slice a2 5 c2)) ∧ lb < Y9.heap.size from by
  obtain ⟨⟨g0, g1, g2, g3, g4, g5⟩, gl⟩ := G8.out
  exact ⟨⟨cell_below g0 hbn, cell_below g1 hbn, cell_below g2 hbn, cell_below g3 hbn, cell_below g4 hbn, cell_below g5 hbn⟩, Nat.lt_of_lt_of_le gl hbn.size⟩)
 have P09 := hid (P08.out.below hbn)
 have P19 := hid (P18.out.below hbn)
 have P29 := hid (P28.out.below hbn)
 have HB9 := hid (HB8.out.trans (hbn.mono HB8.out.size))
 clear hal hb hbn
 obtain ⟨s0, s1, s2, s3, sf, sl⟩ := blk4 S9.out
 obtain ⟨⟨g0, g1, g2, g3, g4, g5⟩, gl⟩ := G9.out
 have k0 : Y9.cell? ⟨T5, 0, none⟩ = some (.int .u8 7) := blk_cell A9.out 0
 have k1 : Y9.cell? ⟨T5, 1, none⟩ = some (.int .i64 77) := blk_cell A9.out 1
 have k2 : Y9.cell? ⟨T5, 2, none⟩ = some (.int .i64 0) := blk_cell A9.out 2
 have kl := blk_lt A9.out
 go_wp2_with fail
 clear s0 s1 s2 s3 sf sl g0 g1 g2 g3 g4 g5 gl k0 k1 k2 kl
 have hal : Below Y9.heap.size Y9 (Y9.alloc (.cells #[.int .i64 2, .int .i64 5, .int .i64 9] 3)) := (Below.refl _ _).alloc (Nat.le_refl _) _
 refine (rrec_same 6 _ _ [2, 5, 9] _ (P19.out.below hal) (Owns.row (own_ints (base := 0) (L := [2, 5, 9]) (cs := #[.int .i64 2, .int .i64 5, .int .i64 9]) (n := 3) (Nat.zero_le _) rfl rfl rfl (by decide)) (fun _ => rfl) (by decide)) (by decide)).mono ?_
 rintro e Y10 ⟨rfl, hb⟩
 have hbn := hal.trans (hb.mono hal.size)
 have S10 := hid (blk_below S9.out hbn (blk_lt S9.out))
 have A10 := hid (blk_below A9.out hbn (blk_lt A9.out))
 have G10 := hid (show (Y10.cell? ⟨lb, lo, none⟩ = some (.int .u8 7) ∧ Y10.cell? ⟨lb, lo + 1, none⟩ = some (.slice a0 1 c0) ∧ Y10.cell? ⟨lb, lo + 2, none⟩ = some (.int .u8 6) ∧ Y10.cell? ⟨lb, lo + 2 + 1, none⟩ = some (.slice a1 3 c1) ∧ Y10.cell? ⟨lb, lo + 4, none⟩ = some (.int .u8 8) ∧ Y10.cell? ⟨lb, lo + 4 + 1, none⟩ = some (.slice a2 5 c2)) ∧ lb < Y10.heap.size from by
  obtain ⟨⟨g0, g1, g2, g3, g4, g5⟩, gl⟩ := G9.out
  exact ⟨⟨cell_below g0 hbn, cell_below g1 hbn, cell_below g2 hbn, cell_below g3 hbn, cell_below g4 hbn, cell_below g5 hbn⟩, Nat.lt_of_lt_of_le gl hbn.size⟩)
 have P010 := hid (P09.out.below hbn)
 have P110 := hid (P19.out.below hbn)
 have P210 := hid (P29.out.below hbn)
 have HB10 := hid (HB9.out.trans (hbn.mono HB9.out.size))
 clear hal hb hbn
 obtain ⟨s0, s1, s2, s3, sf, sl⟩ := blk4 S10.out
 obtain ⟨⟨g0, g1, g2, g3, g4, g5⟩, gl⟩ := G10.out
 have k0 : Y10.cell? ⟨T5, 0, none⟩ = some (.int .u8 7) := blk_cell A10.out 0
 have k1 : Y10.cell? ⟨T5, 1, none⟩ = some (.int .i64 77) := blk_cell A10.out 1
 have k2 : Y10.cell? ⟨T5, 2, none⟩ = some (.int .i64 0) := blk_cell A10.out 2
 have kl := blk_lt A10.out
 go_wp2_with fail
 clear s0 s1 s2 s3 sf sl g0 g1 g2 g3 g4 g5 gl k0 k1 k2 kl
 have hal : Below Y10.heap.size Y10 (Y10.alloc (.cells #[.int .i64 4, .int .i64 0, .int .i64 7, .int .i64 0, .int .i64 9] 3)) := (Below.refl _ _).alloc (Nat.le_refl _) _
 refine (rrec_same 8 _ _ [4, 0, 7, 0, 9] _ (P210.out.below hal) (Owns.row (own_ints (base := 0) (L := [4, 0, 7, 0, 9]) (cs := #[.int .i64 4, .int .i64 0, .int .i64 7, .int .i64 0, .int .i64 9]) (n := 5) (Nat.zero_le _) rfl rfl rfl (by decide)) (fun _ => rfl) (by decide)) (by decide)).mono ?_
 rintro e Y11 ⟨rfl, hb⟩
 have hbn := hal.trans (hb.mono hal.size)
 have S11 := hid (blk_below S10.out hbn (blk_lt S10.out))
 have A11 := hid (blk_below A10.out hbn (blk_lt A10.out))
 have G11 := hid (show (Y11.cell? ⟨lb, lo, none⟩ = some (.int .u8 7) ∧ Y11.cell? ⟨lb, lo + 1, none⟩ = some (.slice a0 1 c0) ∧ Y11.cell? ⟨lb, lo + 2, none⟩ = some (.int .u8 6) ∧ Y11.cell? ⟨lb, lo + 2 + 1, none⟩ = some (.slice a1 3 c1) ∧ Y11.cell? ⟨lb, lo + 4, none⟩ = some (.int .u8 8) ∧ Y11.cell? ⟨lb, lo + 4 + 1, none⟩ = some (.slice a2 5 c2)) ∧ lb < Y11.heap.size from by
  obtain ⟨⟨g0, g1, g2, g3, g4, g5⟩, gl⟩ := G10.out
  exact ⟨⟨cell_below g0 hbn, cell_below g1 hbn, cell_below g2 hbn, cell_below g3 hbn, cell_below g4 hbn, cell_below g5 hbn⟩, Nat.lt_of_lt_of_le gl hbn.size⟩)
 have P011 := hid (P010.out.below hbn)
 have P111 := hid (P110.out.below hbn)
 have P211 := hid (P210.out.below hbn)
 have HB11 := hid (HB10.out.trans (hbn.mono HB10.out.size))
 clear hal hb hbn
 obtain ⟨s0, s1, s2, s3, sf, sl⟩ := blk4 S11.out
 obtain ⟨⟨g0, g1, g2, g3, g4, g5⟩, gl⟩ := G11.out
 have k0 : Y11.cell? ⟨T5, 0, none⟩ = some (.int .u8 7) := blk_cell A11.out 0
 have k1 : Y11.cell? ⟨T5, 1, none⟩ = some (.int .i64 77) := blk_cell A11.out 1
 have k2 : Y11.cell? ⟨T5, 2, none⟩ = some (.int .i64 0) := blk_cell A11.out 2
 have kl := blk_lt A11.out
 go_wp2_with fail
 clear s0 s1 s2 s3 sf sl g0 g1 g2 g3 g4 g5 gl k0 k1 k2 kl
 refine (due7_any 4 va vn vc Y11).mono ?_
 rintro e Y12 ⟨rfl, hb⟩
 have S12 := hid (blk_below S11.out hb (blk_lt S11.out))
 have A12 := hid (blk_below A11.out hb (blk_lt A11.out))
 have G12 := hid (show (Y12.cell? ⟨lb, lo, none⟩ = some (.int .u8 7) ∧ Y12.cell? ⟨lb, lo + 1, none⟩ = some (.slice a0 1 c0) ∧ Y12.cell? ⟨lb, lo + 2, none⟩ = some (.int .u8 6) ∧ Y12.cell? ⟨lb, lo + 2 + 1, none⟩ = some (.slice a1 3 c1) ∧ Y12.cell? ⟨lb, lo + 4, none⟩ = some (.int .u8 8) ∧ Y12.cell? ⟨lb, lo + 4 + 1, none⟩ = some (.slice a2 5 c2)) ∧ lb < Y12.heap.size from by
  obtain ⟨⟨g0, g1, g2, g3, g4, g5⟩, gl⟩ := G11.out
  exact ⟨⟨cell_below g0 hb, cell_below g1 hb, cell_below g2 hb, cell_below g3 hb, cell_below g4 hb, cell_below g5 hb⟩, Nat.lt_of_lt_of_le gl hb.size⟩)
 have P012 := hid (P011.out.below hb)
 have P112 := hid (P111.out.below hb)
 have P212 := hid (P211.out.below hb)
 have HB12 := hid (HB11.out.trans (hb.mono HB11.out.size))
 clear hb
 obtain ⟨s0, s1, s2, s3, sf, sl⟩ := blk4 S12.out
 obtain ⟨⟨g0, g1, g2, g3, g4, g5⟩, gl⟩ := G12.out
 have k0 : Y12.cell? ⟨T5, 0, none⟩ = some (.int .u8 7) := blk_cell A12.out 0
 have k1 : Y12.cell? ⟨T5, 1, none⟩ = some (.int .i64 77) := blk_cell A12.out 1
 have k2 : Y12.cell? ⟨T5, 2, none⟩ = some (.int .i64 0) := blk_cell A12.out 2
 have kl := blk_lt A12.out
 go_wp2_with fail
 clear s0 s1 s2 s3 sf sl g0 g1 g2 g3 g4 g5 gl k0 k1 k2 kl
 refine (due6_any 4 va vn vc Y12).mono ?_
 rintro e Y13 ⟨rfl, hb⟩
 have S13 := hid (blk_below S12.out hb (blk_lt S12.out))
 have A13 := hid (blk_below A12.out hb (blk_lt A12.out))
 have G13 := hid (show (Y13.cell? ⟨lb, lo, none⟩ = some (.int .u8 7) ∧ Y13.cell? ⟨lb, lo + 1, none⟩ = some (.slice a0 1 c0) ∧ Y13.cell? ⟨lb, lo + 2, none⟩ = some (.int .u8 6) ∧ Y13.cell? ⟨lb, lo + 2 + 1, none⟩ = some (.slice a1 3 c1) ∧ Y13.cell? ⟨lb, lo + 4, none⟩ = some (.int .u8 8) ∧ Y13.cell? ⟨lb, lo + 4 + 1, none⟩ = some (.slice a2 5 c2)) ∧ lb < Y13.heap.size from by
  obtain ⟨⟨g0, g1, g2, g3, g4, g5⟩, gl⟩ := G12.out
  exact ⟨⟨cell_below g0 hb, cell_below g1 hb, cell_below g2 hb, cell_below g3 hb, cell_below g4 hb, cell_below g5 hb⟩, Nat.lt_of_lt_of_le gl hb.size⟩)
 have P013 := hid (P012.out.below hb)
 have P113 := hid (P112.out.below hb)
 have P213 := hid (P212.out.below hb)
 have HB13 := hid (HB12.out.trans (hb.mono HB12.out.size))
 clear hb
 obtain ⟨s0, s1, s2, s3, sf, sl⟩ := blk4 S13.out
 obtain ⟨⟨g0, g1, g2, g3, g4, g5⟩, gl⟩ := G13.out
 have k0 : Y13.cell? ⟨T5, 0, none⟩ = some (.int .u8 7) := blk_cell A13.out 0
 have k1 : Y13.cell? ⟨T5, 1, none⟩ = some (.int .i64 77) := blk_cell A13.out 1
 have k2 : Y13.cell? ⟨T5, 2, none⟩ = some (.int .i64 0) := blk_cell A13.out 2
 have kl := blk_lt A13.out
 go_wp2
 go_ret
 exact ⟨rfl, HB13.out⟩
end Go.Proofs.YtgcajfglidflnaaGreatDoor
