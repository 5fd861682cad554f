/- herdlaw22.wakes. Printed by gn_wh.py. -/
import Derived.Test.YthhgpiolcnojfaaGreatDoorCtm
namespace Go.Proofs.YthhgpiolcnojfaaGreatDoor
open Go.RowKit Go.Shelf
attribute [-go_sem] loadVar storeVar Instr.buildSlice
attribute [local go_sem] load_other store_other

def bWk : BrainV := ⟨fun _ => 0, fun i => i == 2, [], [], [⟨7, 0, 0, 0, 8, 0, false, false⟩]⟩
theorem RecsL.len {w : World} {l : List (Int × List Int)} {v : Value} (h : RecsL w l v) : ∃ a c, v = .slice a l.length c := by
 obtain ⟨R, h1, h2⟩ := h
 obtain ⟨a, c, rfl, _⟩ := h2.1.open
 exact ⟨a, c, by rw [← h1, List.length_map]⟩
theorem RecsL.one {w : World} {k : Int} {L : List Int} {v : Value} (h : RecsL w [(k, L)] v) : ∃ b o c, v = .slice (some ⟨b, o, none⟩) 1 c ∧ w.cell? ⟨b, o, none⟩ = some (.int .u8 k) := by
 obtain ⟨R, h1, h2⟩ := h
 match R, h1, h2 with
 | [r], h1, h2 =>
  simp only [List.map_cons, List.map_nil, List.cons.injEq, Prod.mk.injEq, and_true] at h1
  obtain ⟨a, c, rfl, _, _, _, hop⟩ := h2.1.open
  obtain ⟨b, off, rfl, hb, hrow⟩ := hop (by simp)
  refine ⟨b, off, c, rfl, ?_⟩
  rw [← h1.1]
  simpa using (rowR hrow (i := 0) rfl).1
theorem len12 {w : World} {s : Value} {l : List CallV} (h : Row12 w s l) : ∃ a c, s = .slice a l.length c := by
 obtain ⟨a, c, rfl, _⟩ := h.open
 exact ⟨a, c, rfl⟩
theorem br_store_new {y : World} {zs bs : Array Value} (hz : zs.size = 27) (hs : bs.size = 27) (h1 : bs.all (·.oneCell') = true) :
  (storeVar 30 ⟨y.heap.size, 0, none⟩ (.agg bs)).run Tryz.prog (y.alloc (.cells zs 30)) = .ok () (y.alloc (.cells bs 30)) := by
 rw [run_storeVar_row _ _ 30 30 zs bs (heap_new y _) (by rw [hs]; kernel_rfl) (by rw [hz, hs]) h1, World.setRow_alloc_new]
theorem wk_h1 : hearL bWk ⟨0, 3, [⟨2, 6, 7, 1⟩]⟩ 2 6 (1 : Nat) 7 9 = [(7, [7])] ∧ hearC ⟨0, 3, [⟨2, 6, 7, 1⟩]⟩ 2 6 = [] := by decide +kernel
theorem wk_h2 : hearL bWk ⟨0, 3, [⟨2, 6, 7, 1⟩]⟩ 1 6 (1 : Nat) 7 9 = [] ∧ hearC ⟨0, 3, [⟨2, 6, 7, 1⟩]⟩ 1 6 = [⟨2, 6, 7, 1⟩] := by decide +kernel
theorem wk_h3 : hearL bWk ⟨0, 3, [⟨2, 6, 7, 1⟩]⟩ 2 6 (3 : Nat) 7 9 = [] ∧ hearC ⟨0, 3, [⟨2, 6, 7, 1⟩]⟩ 2 6 = [] := by decide +kernel
theorem wk_says : saysL 6 (2 : Nat) 7 0 9 = some (7, [7]) := by decide +kernel
theorem wk_heard : heardL [⟨2, 6, 7, 1⟩] 2 4 = (⟨0, 0, 0, 0⟩, false) := by decide +kernel
set_option maxRecDepth 100000 in
set_option maxHeartbeats 4000000 in
theorem wakes_any (w : World) (hA : Asked w) (hC : Changes w) (hL : Limits w) : Calls Tryz.prog 8 #[] w fun e w' => e = .returned (.bool true) ∧ Below w.heap.size w w' := by
 have hb1 : ∀ (w : World), (Instr.buildSlice 31 1 #[(0, .agg #[.int .i64 2, .int .u8 6, .int .i64 7, .int .i64 1])]).run Tryz.prog w = .ok (.slice (some ⟨w.heap.size, 0, none⟩) 1 1) (w.alloc (.cells #[.int .i64 2, .int .u8 6, .int .i64 7, .int .i64 1] 40)) := fun w => by kernel_rfl
 have hb2 : ∀ (w : World), (Instr.buildSlice 26 1 #[(0, .agg #[.int .i64 7, .int .i64 0, .int .i64 0, .int .i64 0, .int .u8 8, .int .i64 0, .bool false, .bool false])]).run Tryz.prog w = .ok (.slice (some ⟨w.heap.size, 0, none⟩) 1 1) (w.alloc (.cells #[.int .i64 7, .int .i64 0, .int .i64 0, .int .i64 0, .int .u8 8, .int .i64 0, .bool false, .bool false] 63)) := fun w => by kernel_rfl
 have hst : (storeVar 30 ⟨w.heap.size + 1 + 1 + 1, 0, none⟩ (.agg #[.int .i64 0, .int .i64 0, .bool true, .int .i64 0, .int .i64 0, .int .i64 0, .int .i64 0, .int .i64 0, .int .i64 0, .int .i64 0, .int .i64 0, .int .i64 0, .int .i64 0, .int .i64 0, .int .i64 0, .int .i64 0, .bool false, .slice none 0 0, .slice none 0 0, .slice (some ⟨w.heap.size + 1 + 1, 0, none⟩) 1 1, .int .u8 0, .int .i64 0, .int .i64 0, .int .i64 0, .bool false, .int .i64 0, .int .i64 0])).run Tryz.prog ((((w.alloc (.cells #[.int .i64 2, .int .u8 6, .int .i64 7, .int .i64 1] 40)).alloc (.cells #[.int .i64 0, .int .i64 3, .slice (some ⟨w.heap.size, 0, none⟩) 1 1] 33)).alloc (.cells #[.int .i64 7, .int .i64 0, .int .i64 0, .int .i64 0, .int .u8 8, .int .i64 0, .bool false, .bool false] 63)).alloc (.cells #[.int .i64 0, .int .i64 0, .bool false, .int .i64 0, .int .i64 0, .int .i64 0, .int .i64 0, .int .i64 0, .int .i64 0, .int .i64 0, .int .i64 0, .int .i64 0, .int .i64 0, .int .i64 0, .int .i64 0, .int .i64 0, .bool false, .slice none 0 0, .slice none 0 0, .slice none 0 0, .int .u8 0, .int .i64 0, .int .i64 0, .int .i64 0, .bool false, .int .i64 0, .int .i64 0] 30)) = .ok () ((((w.alloc (.cells #[.int .i64 2, .int .u8 6, .int .i64 7, .int .i64 1] 40)).alloc (.cells #[.int .i64 0, .int .i64 3, .slice (some ⟨w.heap.size, 0, none⟩) 1 1] 33)).alloc (.cells #[.int .i64 7, .int .i64 0, .int .i64 0, .int .i64 0, .int .u8 8, .int .i64 0, .bool false, .bool false] 63)).alloc (.cells #[.int .i64 0, .int .i64 0, .bool true, .int .i64 0, .int .i64 0, .int .i64 0, .int .i64 0, .int .i64 0, .int .i64 0, .int .i64 0, .int .i64 0, .int .i64 0, .int .i64 0, .int .i64 0, .int .i64 0, .int .i64 0, .bool false, .slice none 0 0, .slice none 0 0, .slice (some ⟨w.heap.size + 1 + 1, 0, none⟩) 1 1, .int .u8 0, .int .i64 0, .int .i64 0, .int .i64 0, .bool false, .int .i64 0, .int .i64 0] 30)) := by
  have hs : (((w.alloc (.cells #[.int .i64 2, .int .u8 6, .int .i64 7, .int .i64 1] 40)).alloc (.cells #[.int .i64 0, .int .i64 3, .slice (some ⟨w.heap.size, 0, none⟩) 1 1] 33)).alloc (.cells #[.int .i64 7, .int .i64 0, .int .i64 0, .int .i64 0, .int .u8 8, .int .i64 0, .bool false, .bool false] 63)).heap.size = w.heap.size + 1 + 1 + 1 := by simp
  have := br_store_new (y := ((w.alloc (.cells #[.int .i64 2, .int .u8 6, .int .i64 7, .int .i64 1] 40)).alloc (.cells #[.int .i64 0, .int .i64 3, .slice (some ⟨w.heap.size, 0, none⟩) 1 1] 33)).alloc (.cells #[.int .i64 7, .int .i64 0, .int .i64 0, .int .i64 0, .int .u8 8, .int .i64 0, .bool false, .bool false] 63)) (zs := #[.int .i64 0, .int .i64 0, .bool false, .int .i64 0, .int .i64 0, .int .i64 0, .int .i64 0, .int .i64 0, .int .i64 0, .int .i64 0, .int .i64 0, .int .i64 0, .int .i64 0, .int .i64 0, .int .i64 0, .int .i64 0, .bool false, .slice none 0 0, .slice none 0 0, .slice none 0 0, .int .u8 0, .int .i64 0, .int .i64 0, .int .i64 0, .bool false, .int .i64 0, .int .i64 0]) (bs := #[.int .i64 0, .int .i64 0, .bool true, .int .i64 0, .int .i64 0, .int .i64 0, .int .i64 0, .int .i64 0, .int .i64 0, .int .i64 0, .int .i64 0, .int .i64 0, .int .i64 0, .int .i64 0, .int .i64 0, .int .i64 0, .bool false, .slice none 0 0, .slice none 0 0, .slice (some ⟨w.heap.size + 1 + 1, 0, none⟩) 1 1, .int .u8 0, .int .i64 0, .int .i64 0, .int .i64 0, .bool false, .int .i64 0, .int .i64 0]) rfl rfl (by simp [Value.oneCell'])
  rw [hs] at this
  exact this
 obtain ⟨W3, hW3⟩ : ∃ W3, W3 = (((w.alloc (.cells #[.int .i64 2, .int .u8 6, .int .i64 7, .int .i64 1] 40)).alloc (.cells #[.int .i64 0, .int .i64 3, .slice (some ⟨w.heap.size, 0, none⟩) 1 1] 33)).alloc (.cells #[.int .i64 7, .int .i64 0, .int .i64 0, .int .i64 0, .int .u8 8, .int .i64 0, .bool false, .bool false] 63)).alloc (.cells #[.int .i64 0, .int .i64 0, .bool true, .int .i64 0, .int .i64 0, .int .i64 0, .int .i64 0, .int .i64 0, .int .i64 0, .int .i64 0, .int .i64 0, .int .i64 0, .int .i64 0, .int .i64 0, .int .i64 0, .int .i64 0, .bool false, .slice none 0 0, .slice none 0 0, .slice (some ⟨w.heap.size + 1 + 1, 0, none⟩) 1 1, .int .u8 0, .int .i64 0, .int .i64 0, .int .i64 0, .bool false, .int .i64 0, .int .i64 0] 30) := ⟨_, rfl⟩
 have hb3 : Below w.heap.size w W3 := by rw [hW3]; exact ((((Below.refl _ _).alloc (Nat.le_refl _) _).alloc (by simp) _).alloc (by simp; omega) _).alloc (by simp; omega) _
 have n0 : W3.heap[w.heap.size]? = some (.cells #[.int .i64 2, .int .u8 6, .int .i64 7, .int .i64 1] 40) := by rw [hW3]; exact blk_alloc (blk_alloc (blk_alloc (heap_new _ _) _) _) _
 have n1 : W3.heap[w.heap.size + 1]? = some (.cells #[.int .i64 0, .int .i64 3, .slice (some ⟨w.heap.size, 0, none⟩) 1 1] 33) := by rw [hW3]; exact blk_alloc (blk_alloc (heap_new2 _ _ _) _) _
 have n2 : W3.heap[w.heap.size + 1 + 1]? = some (.cells #[.int .i64 7, .int .i64 0, .int .i64 0, .int .i64 0, .int .u8 8, .int .i64 0, .bool false, .bool false] 63) := by rw [hW3]; exact blk_alloc (by simpa using heap_new2 (w.alloc _) _ _) _
 have n3 : W3.heap[w.heap.size + 1 + 1 + 1]? = some (.cells #[.int .i64 0, .int .i64 0, .bool true, .int .i64 0, .int .i64 0, .int .i64 0, .int .i64 0, .int .i64 0, .int .i64 0, .int .i64 0, .int .i64 0, .int .i64 0, .int .i64 0, .int .i64 0, .int .i64 0, .int .i64 0, .bool false, .slice none 0 0, .slice none 0 0, .slice (some ⟨w.heap.size + 1 + 1, 0, none⟩) 1 1, .int .u8 0, .int .i64 0, .int .i64 0, .int .i64 0, .bool false, .int .i64 0, .int .i64 0] 30) := by rw [hW3]; simpa using heap_new2 ((w.alloc _).alloc _) _ _
 have hrow : Row12 W3 (.slice (some ⟨w.heap.size, 0, none⟩) 1 1) [⟨2, 6, 7, 1⟩] := row_blk (l := ([⟨2, 6, 7, 1⟩] : List CallV)) (fun _ => rfl) n0 (by simp) (show 1 ≤ maxLen by decide)
 have hkp : RowOf 8 encKp W3 (.slice (some ⟨w.heap.size + 1 + 1, 0, none⟩) 1 1) [⟨7, 0, 0, 0, 8, 0, false, false⟩] := row_blk (l := [(⟨7, 0, 0, 0, 8, 0, false, false⟩ : KeptV)]) encKp_len n2 (by simp) (show 1 ≤ maxLen by decide)
 have hv : VarIs W3 (w.heap.size + 1 + 1 + 1) bWk (.agg #[.int .i64 0, .int .i64 0, .bool true, .int .i64 0, .int .i64 0, .int .i64 0, .int .i64 0, .int .i64 0, .int .i64 0, .int .i64 0, .int .i64 0, .int .i64 0, .int .i64 0, .int .i64 0, .int .i64 0, .int .i64 0, .bool false, .slice none 0 0, .slice none 0 0, .slice (some ⟨w.heap.size + 1 + 1, 0, none⟩) 1 1, .int .u8 0, .int .i64 0, .int .i64 0, .int .i64 0, .bool false, .int .i64 0, .int .i64 0]) := ⟨.slice none 0 0, .slice none 0 0, .slice (some ⟨w.heap.size + 1 + 1, 0, none⟩) 1 1, rfl, n3, row_nil _, row_nil _, hkp⟩
 have HF := hid (show Fine bWk 900 from ⟨by decide, by decide, fun x hx => by simp only [bWk, List.mem_singleton] at hx; rw [hx]; exact ⟨by decide, by decide⟩⟩)
 have HA := hid hA
 have HC := hid hC
 have HL := hid hL
 have HW3 := hid hW3
 have HB0 := hid hb3
 have N0 := hid n1
 have R0 := hid hrow
 have V0 := hid hv
 have K0 := hid n0
 have hld := hv.load
 rw [hW3] at hld
 clear hb3 n0 n1 n2 n3 hrow hkp hv hW3 hA hC hL
 obtain ⟨BW, hBW⟩ : ∃ v, v = (#[.int .i64 0, .int .i64 0, .bool true, .int .i64 0, .int .i64 0, .int .i64 0, .int .i64 0, .int .i64 0, .int .i64 0, .int .i64 0, .int .i64 0, .int .i64 0, .int .i64 0, .int .i64 0, .int .i64 0, .int .i64 0, .bool false, .slice none 0 0, .slice none 0 0, .slice (some ⟨w.heap.size + 1 + 1, 0, none⟩) 1 1, .int .u8 0, .int .i64 0, .int .i64 0, .int .i64 0, .bool false, .int .i64 0, .int .i64 0] : Array Value) := ⟨_, rfl⟩
 have HBW := hid hBW
 go_enter Tryz.func8, Tryz.ntmps8
 go_wp2_with fail
 rw [← HW3.out, ← HBW.out]
 rw [← HBW.out] at V0
 clear hst hld hb1 hb2 hBW HW3 HBW
 refine (hear_any bWk BW 0 3 2 6 7 9 1 (.slice (some ⟨w.heap.size, 0, none⟩) 1 1) [⟨2, 6, 7, 1⟩] none 0 0 false W3 V0.out.is R0.out (by decide) (by decide) HF.out (by decide) (HA.out.below HB0.out) (HC.out.below HB0.out) (HL.out.below HB0.out)).mono ?_
 rintro e Y1 ⟨v1, s1, rfl, hr, hs, hb⟩
 rw [wk_h1.1] at hr
 rw [wk_h1.2] at hs
 obtain ⟨sa1, sc1, rfl⟩ : ∃ a c, s1 = .slice a 0 c := len12 hs
 obtain ⟨rb, ro, rc, rfl, hrc⟩ := RecsL.one hr
 have C1 := hid hrc
 clear hrc
 obtain ⟨Z1, hZ⟩ : ∃ Z, Z = Y1.alloc (.cells #[.int .i64 0, .int .i64 3, .slice sa1 (0) sc1] 33) := ⟨_, rfl⟩
 have hbz : Below Y1.heap.size Y1 Z1 := by rw [hZ]; exact (Below.refl _ _).alloc (Nat.le_refl _) _
 have hbq := hb.trans (hbz.mono hb.size)
 have N1 := hid (blk_below N0.out hbq (blk_lt N0.out))
 have K1 := hid (blk_below K0.out hbq (blk_lt K0.out))
 have R1 := hid (R0.out.below hbq)
 have V1 := hid (V0.out.below hbq)
 have HB1 := hid (HB0.out.trans (hbq.mono HB0.out.size))
 have C1 := hid (cell_below C1.out hbz)
 have D1 := hid (show Z1.heap[Y1.heap.size]? = some (.cells #[.int .i64 0, .int .i64 3, .slice sa1 (0) sc1] 33) by rw [hZ]; exact heap_new _ _)
 have HZ := hid hZ
 have hld := V1.out.load
 have kc0 : Z1.cell? ⟨w.heap.size + 1, 0, none⟩ = some (.int .i64 0) := blk_cell N1.out 0
 have kc1 : Z1.cell? ⟨w.heap.size + 1, 1, none⟩ = some (.int .i64 3) := blk_cell N1.out 1
 have kc2 : Z1.cell? ⟨w.heap.size + 1, 2, none⟩ = some (.slice (some ⟨w.heap.size, 0, none⟩) 1 1) := blk_cell N1.out 2
 have kl := blk_lt N1.out
 rw [hZ] at hld kc0 kc1 kc2 kl
 unfold calls
 dsimp only
 clear hb hr hs hbz hbq hZ
 go_wp2_with fail
 rw [← HZ.out]
 clear hld kc0 kc1 kc2 kl HZ
 obtain ⟨T1, hT⟩ : ∃ T, Y1.heap.size = T := ⟨_, rfl⟩
 rw [hT] at D1 ⊢
 clear hT
 refine (hear_any bWk BW 0 3 1 6 7 9 1 (.slice (some ⟨w.heap.size, 0, none⟩) 1 1) [⟨2, 6, 7, 1⟩] none 0 0 false Z1 V1.out.is R1.out (by decide) (by decide) HF.out (by decide) (HA.out.below HB1.out) (HC.out.below HB1.out) (HL.out.below HB1.out)).mono ?_
 rintro e Y2 ⟨v2, s2, rfl, hr, hs, hb⟩
 rw [wk_h2.1] at hr
 rw [wk_h2.2] at hs
 obtain ⟨sa2, sc2, rfl⟩ : ∃ a c, s2 = .slice a 1 c := len12 hs
 obtain ⟨va2, vc2, rfl⟩ : ∃ a c, v2 = .slice a 0 c := RecsL.len hr
 obtain ⟨Z2, hZ⟩ : ∃ Z, Z = Y2.alloc (.cells #[.int .i64 0, .int .i64 3, .slice sa2 (1) sc2] 33) := ⟨_, rfl⟩
 have hbz : Below Y2.heap.size Y2 Z2 := by rw [hZ]; exact (Below.refl _ _).alloc (Nat.le_refl _) _
 have hbq := hb.trans (hbz.mono hb.size)
 have N2 := hid (blk_below N1.out hbq (blk_lt N1.out))
 have K2 := hid (blk_below K1.out hbq (blk_lt K1.out))
 have R2 := hid (R1.out.below hbq)
 have V2 := hid (V1.out.below hbq)
 have HB2 := hid (HB1.out.trans (hbq.mono HB1.out.size))
 have D1 := hid (blk_below D1.out hbq (blk_lt D1.out))
 have C1 := hid (cell_below C1.out hbq)
 have D2 := hid (show Z2.heap[Y2.heap.size]? = some (.cells #[.int .i64 0, .int .i64 3, .slice sa2 (1) sc2] 33) by rw [hZ]; exact heap_new _ _)
 have HZ := hid hZ
 have hld := V2.out.load
 have kc0 : Z2.cell? ⟨w.heap.size + 1, 0, none⟩ = some (.int .i64 0) := blk_cell N2.out 0
 have kc1 : Z2.cell? ⟨w.heap.size + 1, 1, none⟩ = some (.int .i64 3) := blk_cell N2.out 1
 have kc2 : Z2.cell? ⟨w.heap.size + 1, 2, none⟩ = some (.slice (some ⟨w.heap.size, 0, none⟩) 1 1) := blk_cell N2.out 2
 have kl := blk_lt N2.out
 rw [hZ] at hld kc0 kc1 kc2 kl
 unfold calls
 dsimp only
 clear hb hr hs hbz hbq hZ
 go_wp2_with fail
 rw [← HZ.out]
 clear hld kc0 kc1 kc2 kl HZ
 obtain ⟨T2, hT⟩ : ∃ T, Y2.heap.size = T := ⟨_, rfl⟩
 rw [hT] at D2 ⊢
 clear hT
 refine (hear_any bWk BW 0 3 2 6 7 9 3 (.slice (some ⟨w.heap.size, 0, none⟩) 1 1) [⟨2, 6, 7, 1⟩] none 0 0 false Z2 V2.out.is R2.out (by decide) (by decide) HF.out (by decide) (HA.out.below HB2.out) (HC.out.below HB2.out) (HL.out.below HB2.out)).mono ?_
 rintro e Y3 ⟨v3, s3, rfl, hr, hs, hb⟩
 rw [wk_h3.1] at hr
 rw [wk_h3.2] at hs
 obtain ⟨sa3, sc3, rfl⟩ : ∃ a c, s3 = .slice a 0 c := len12 hs
 obtain ⟨va3, vc3, rfl⟩ : ∃ a c, v3 = .slice a 0 c := RecsL.len hr
 obtain ⟨Z3, hZ⟩ : ∃ Z, Z = Y3.alloc (.cells #[.int .i64 0, .int .i64 3, .slice sa3 (0) sc3] 33) := ⟨_, rfl⟩
 have hbz : Below Y3.heap.size Y3 Z3 := by rw [hZ]; exact (Below.refl _ _).alloc (Nat.le_refl _) _
 have hbq := hb.trans (hbz.mono hb.size)
 have N3 := hid (blk_below N2.out hbq (blk_lt N2.out))
 have K3 := hid (blk_below K2.out hbq (blk_lt K2.out))
 have R3 := hid (R2.out.below hbq)
 have V3 := hid (V2.out.below hbq)
 have HB3 := hid (HB2.out.trans (hbq.mono HB2.out.size))
 have D1 := hid (blk_below D1.out hbq (blk_lt D1.out))
 have D2 := hid (blk_below D2.out hbq (blk_lt D2.out))
 have C1 := hid (cell_below C1.out hbq)
 have D3 := hid (show Z3.heap[Y3.heap.size]? = some (.cells #[.int .i64 0, .int .i64 3, .slice sa3 (0) sc3] 33) by rw [hZ]; exact heap_new _ _)
 have HZ := hid hZ
 have hld := V3.out.load
 have kc0 : Z3.cell? ⟨w.heap.size + 1, 0, none⟩ = some (.int .i64 0) := blk_cell N3.out 0
 have kc1 : Z3.cell? ⟨w.heap.size + 1, 1, none⟩ = some (.int .i64 3) := blk_cell N3.out 1
 have kc2 : Z3.cell? ⟨w.heap.size + 1, 2, none⟩ = some (.slice (some ⟨w.heap.size, 0, none⟩) 1 1) := blk_cell N3.out 2
 have kl := blk_lt N3.out
 have cc0 : Z3.cell? ⟨w.heap.size, 0, none⟩ = some (.int .i64 2) := blk_cell K3.out 0
 have cc1 : Z3.cell? ⟨w.heap.size, 1, none⟩ = some (.int .u8 6) := blk_cell K3.out 1
 have cc2 : Z3.cell? ⟨w.heap.size, 2, none⟩ = some (.int .i64 7) := blk_cell K3.out 2
 have cc3 : Z3.cell? ⟨w.heap.size, 3, none⟩ = some (.int .i64 1) := blk_cell K3.out 3
 have cl := blk_lt K3.out
 rw [hZ] at hld kc0 kc1 kc2 kl cc0 cc1 cc2 cc3 cl
 unfold calls
 dsimp only
 clear hb hr hs hbz hbq hZ
 go_wp2_with fail
 rw [← HZ.out]
 clear hld kc0 kc1 kc2 kl HZ cc0 cc1 cc2 cc3 cl
 obtain ⟨T3, hT⟩ : ∃ T, Y3.heap.size = T := ⟨_, rfl⟩
 rw [hT] at D3 ⊢
 clear hT
 refine (says_any ⟨2, 6, 7, 1⟩ 0 0 0 9 2 none 0 0 false Z3 (by decide)).mono ?_
 rintro e Y4 (⟨h, _⟩ | ⟨kk, l, v4, hs, rfl, ho, hb⟩)
 ·rw [wk_says] at h
  cases h
 rw [wk_says] at hs
 cases hs
 obtain ⟨v4a, v4n, v4c, rfl⟩ := ho.shape
 obtain ⟨Z4, hZ⟩ : ∃ Z, Z = Y4.alloc (.cells #[.int .u8 7, .slice v4a v4n v4c] 44) := ⟨_, rfl⟩
 have hbz : Below Y4.heap.size Y4 Z4 := by rw [hZ]; exact (Below.refl _ _).alloc (Nat.le_refl _) _
 have hbq := hb.trans (hbz.mono hb.size)
 have N4 := hid (blk_below N3.out hbq (blk_lt N3.out))
 have K4 := hid (blk_below K3.out hbq (blk_lt K3.out))
 have R4 := hid (R3.out.below hbq)
 have V4 := hid (V3.out.below hbq)
 have HB4 := hid (HB3.out.trans (hbq.mono HB3.out.size))
 have D1 := hid (blk_below D1.out hbq (blk_lt D1.out))
 have D2 := hid (blk_below D2.out hbq (blk_lt D2.out))
 have D3 := hid (blk_below D3.out hbq (blk_lt D3.out))
 have C1 := hid (cell_below C1.out hbq)
 have D4 := hid (show Z4.heap[Y4.heap.size]? = some (.cells #[.int .u8 7, .slice v4a v4n v4c] 44) by rw [hZ]; exact heap_new _ _)
 have HZ := hid hZ
 have kc0 : Z4.cell? ⟨w.heap.size + 1, 0, none⟩ = some (.int .i64 0) := blk_cell N4.out 0
 have kc1 : Z4.cell? ⟨w.heap.size + 1, 1, none⟩ = some (.int .i64 3) := blk_cell N4.out 1
 have kc2 : Z4.cell? ⟨w.heap.size + 1, 2, none⟩ = some (.slice (some ⟨w.heap.size, 0, none⟩) 1 1) := blk_cell N4.out 2
 have kl := blk_lt N4.out
 rw [hZ] at kc0 kc1 kc2 kl
 clear hb ho hbz hbq hZ
 go_wp2_with fail
 rw [← HZ.out]
 clear kc0 kc1 kc2 kl HZ
 obtain ⟨T4, hT⟩ : ∃ T, Y4.heap.size = T := ⟨_, rfl⟩
 rw [hT] at D4 ⊢
 clear hT
 refine (heard_any 0 3 2 4 0 0 (.slice (some ⟨w.heap.size, 0, none⟩) 1 1) [⟨2, 6, 7, 1⟩] none 0 0 false Z4 (by decide) R4.out).mono ?_
 rintro e Y5 ⟨rfl, hb⟩
 rw [wk_heard]
 obtain ⟨Z5, hZ⟩ : ∃ Z, Z = Y5.alloc (.cells #[.int .i64 0, .int .u8 0, .int .i64 0, .int .i64 0] 40) := ⟨_, rfl⟩
 have hbz : Below Y5.heap.size Y5 Z5 := by rw [hZ]; exact (Below.refl _ _).alloc (Nat.le_refl _) _
 have hbq := hb.trans (hbz.mono hb.size)
 have HB5 := hid (HB4.out.trans (hbq.mono HB4.out.size))
 have d1 : Z5.cell? ⟨T1, 2, none⟩ = some (.slice sa1 0 sc1) := blk_cell (blk_below D1.out hbq (blk_lt D1.out)) 2
 have d2 : Z5.cell? ⟨T2, 2, none⟩ = some (.slice sa2 1 sc2) := blk_cell (blk_below D2.out hbq (blk_lt D2.out)) 2
 have d3 : Z5.cell? ⟨T3, 2, none⟩ = some (.slice sa3 0 sc3) := blk_cell (blk_below D3.out hbq (blk_lt D3.out)) 2
 have d4 : Z5.cell? ⟨T4, 0, none⟩ = some (.int .u8 7) := blk_cell (blk_below D4.out hbq (blk_lt D4.out)) 0
 have e1 := blk_lt (blk_below D1.out hbq (blk_lt D1.out))
 have e2 := blk_lt (blk_below D2.out hbq (blk_lt D2.out))
 have e3 := blk_lt (blk_below D3.out hbq (blk_lt D3.out))
 have e4 := blk_lt (blk_below D4.out hbq (blk_lt D4.out))
 have c1 := cell_below C1.out hbq
 have c1l := lt_of_cell c1
 dsimp only at c1l
 rw [hZ] at d1 d2 d3 d4 e1 e2 e3 e4 c1 c1l
 have HZ := hid hZ
 clear hb hbz hbq hZ
 unfold encS
 dsimp only
 go_wp2
 go_ret
 rw [← HZ.out]
 exact ⟨rfl, HB5.out⟩
end Go.Proofs.YthhgpiolcnojfaaGreatDoor
