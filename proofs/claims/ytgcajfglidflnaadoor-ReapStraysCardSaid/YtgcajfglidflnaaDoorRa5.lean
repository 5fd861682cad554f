/- herdref07.Of: a group's row taken in. Printed by gn_ra5.py. -/
import Derived.Test.YtgcajfglidflnaaDoorRbm
import Derived.Test.YtgcajfglidflnaaDoorCk7
namespace Go.Proofs.YtgcajfglidflnaaDoor
open Go.RowKit Go.Shelf
attribute [-go_sem] loadVar storeVar Instr.buildSlice sliced run_sliceAt_slice
attribute [local go_sem] load_other2 store_other2

theorem from_i14 (a : Option Addr) (n c : Nat) (hm : 14 ≤ n) (w : World) : (Instr.sliceAt 22 (.slice a n c) (some (.int .i64 14)) none none).run Tryd.prog w = .ok (sliced a 14 n c 1) w := by
 obtain ⟨k0, hk0, _, hk2, _⟩ := info_parts infoI
 exact run_from _ 3 k0 (by kernel_rfl) (by kernel_rfl) hk0 hk2 a n c 14 hm w
theorem of_no {L : List Int} {w X : World} (hb : Below w.heap.size w X) (h : ofB L = false) : OfEnd L w (.returned (.tuple #[.agg (confA zf false (.slice none 0 0)), .int .i64 70])) X := ⟨hb, .inr ⟨h, _, _, _, _, _, rfl⟩⟩
def NewCf (base : World) (v : Value) (w : World) : Prop := ∃ T, v = .pointer (some ⟨T, 0, none⟩) ∧ base.heap.size ≤ T ∧ w.heap[T]? = some (.cells #[.int .i64 0, .int .i64 0, .int .i64 0, .int .i64 0, .int .i64 0, .int .i64 0, .int .i64 0, .int .i64 0, .int .i64 0, .int .i64 0, .int .i64 0, .int .i64 0, .int .i64 0, .bool false, .slice none 0 0] 24)
theorem stays_newCf (base : World) : Stays (NewCf base) := by
 rintro v w w' ⟨T, h1, h2, h3⟩ hb
 exact ⟨T, h1, h2, blk_below h3 hb (blk_lt h3)⟩
theorem encI_one5 (m : List Int) : ∀ y ∈ m, ∀ u ∈ encI y, u.oneCell' = true := by
 intro y _ u hu
 simp only [encI, List.mem_singleton] at hu
 rw [hu]; rfl
/-- The result, when it is none. -/
theorem of_fail {X : World} {T : Nat} {c : Array Value} (h : X.heap[T]? = some (.cells c 24)) (hc : c.size = 15) : (storeVar 24 ⟨T, 0, none⟩ (.agg #[.int .i64 0, .int .i64 0, .int .i64 0, .int .i64 0, .int .i64 0, .int .i64 0, .int .i64 0, .int .i64 0, .int .i64 0, .int .i64 0, .int .i64 0, .int .i64 0, .int .i64 0, .bool false, .slice none 0 0])).run Tryd.prog X = .ok () (X.setRow T #[.int .i64 0, .int .i64 0, .int .i64 0, .int .i64 0, .int .i64 0, .int .i64 0, .int .i64 0, .int .i64 0, .int .i64 0, .int .i64 0, .int .i64 0, .int .i64 0, .int .i64 0, .bool false, .slice none 0 0]) :=
 run_storeVar_row X T 24 24 c #[.int .i64 0, .int .i64 0, .int .i64 0, .int .i64 0, .int .i64 0, .int .i64 0, .int .i64 0, .int .i64 0, .int .i64 0, .int .i64 0, .int .i64 0, .int .i64 0, .int .i64 0, .bool false, .slice none 0 0] h (conf_size zf false (.slice none 0 0)) hc (by simp [Value.oneCell'])
set_option maxRecDepth 100000 in
set_option maxHeartbeats 8000000 in
theorem rof_any (s : Value) (L : List Int) (w : World) (hs : RowOf 1 encI w s L) (hlen : L.length ≤ 100000) : Calls Tryd.prog 33 #[s] w (OfEnd L w) := by
 obtain ⟨i0, hi0, hi1, hi2, hi3⟩ := info_parts infoI
 have HI0 := hid hi0
 have HI1 := hid hi1
 have HI2 := hid hi2
 have HI3 := hid hi3
 clear hi0 hi1 hi2 hi3
 have HS := hid hs
 obtain ⟨sa, sc, rfl, hs1, hs2, hs3, hop⟩ := hs.open
 obtain ⟨W1, hW1⟩ : ∃ W1, W1 = w.alloc (.cells #[.int .i64 0, .int .i64 0, .int .i64 0, .int .i64 0, .int .i64 0, .int .i64 0, .int .i64 0, .int .i64 0, .int .i64 0, .int .i64 0, .int .i64 0, .int .i64 0, .int .i64 0, .bool false, .slice none 0 0] 24) := ⟨_, rfl⟩
 have HN1 := hid (show W1.heap[w.heap.size]? = some (.cells #[.int .i64 0, .int .i64 0, .int .i64 0, .int .i64 0, .int .i64 0, .int .i64 0, .int .i64 0, .int .i64 0, .int .i64 0, .int .i64 0, .int .i64 0, .int .i64 0, .int .i64 0, .bool false, .slice none 0 0] 24) by rw [hW1]; exact heap_new _ _)
 have HB1 := hid (show Below w.heap.size w W1 by rw [hW1]; exact (Below.refl _ _).alloc (Nat.le_refl _) _)
 have HOP := hid hop
 clear hs hop
 by_cases h14 : L.length < 14
 ·have d0 : decide ((L.length : Int) < 14) = true := decide_eq_true (by omega)
  have HNO := hid (show ofB L = false by unfold ofB; rw [decide_eq_false (by omega)]; rfl)
  go_enter Tryd.func33, Tryd.ntmps33
  go_upto_region 1 with (fail)
  rw [← hW1]
  clear hW1 h14
  go_upto_region 2 with (fail)
  have hst := of_fail HN1.out rfl
  go_wp2
  refine bodyPost_ret (res_conf_tmp rfl rfl rfl (setRow_heap W1 w.heap.size _ (confA zf false (.slice none 0 0)) _ _ HN1.out)) rfl ?_
  exact of_no (below_setRow HB1.out (Nat.le_refl _) _) HNO.out
 ·obtain ⟨b1, o1, rfl, hb1, hr1⟩ := HOP.out (by omega)
  have d0 : decide ((L.length : Int) < 14) = false := decide_eq_false (by omega)
  have h14n : 14 ≤ L.length := by omega
  have h13L : (13 : Int) < (L.length : Int) := by omega
  have LB := hid (show b1 < W1.heap.size from Nat.lt_of_lt_of_le hb1 HB1.out.size)
  obtain ⟨x0, hx0⟩ := get_lt (l := L) (k := 0) (by omega)
  have R0 := hid (rowN1 (hr1.below HB1.out hb1) hx0)
  have e0 : L.getD 0 0 = x0 := by rw [List.getD_eq_getElem?_getD, hx0]; rfl
  obtain ⟨x1, hx1⟩ := get_lt (l := L) (k := 1) (by omega)
  have R1 := hid (rowN1 (hr1.below HB1.out hb1) hx1)
  have e1 : L.getD 1 0 = x1 := by rw [List.getD_eq_getElem?_getD, hx1]; rfl
  obtain ⟨x2, hx2⟩ := get_lt (l := L) (k := 2) (by omega)
  have R2 := hid (rowN1 (hr1.below HB1.out hb1) hx2)
  have e2 : L.getD 2 0 = x2 := by rw [List.getD_eq_getElem?_getD, hx2]; rfl
  obtain ⟨x3, hx3⟩ := get_lt (l := L) (k := 3) (by omega)
  have R3 := hid (rowN1 (hr1.below HB1.out hb1) hx3)
  have e3 : L.getD 3 0 = x3 := by rw [List.getD_eq_getElem?_getD, hx3]; rfl
  obtain ⟨x4, hx4⟩ := get_lt (l := L) (k := 4) (by omega)
  have R4 := hid (rowN1 (hr1.below HB1.out hb1) hx4)
  have e4 : L.getD 4 0 = x4 := by rw [List.getD_eq_getElem?_getD, hx4]; rfl
  obtain ⟨x5, hx5⟩ := get_lt (l := L) (k := 5) (by omega)
  have R5 := hid (rowN1 (hr1.below HB1.out hb1) hx5)
  have e5 : L.getD 5 0 = x5 := by rw [List.getD_eq_getElem?_getD, hx5]; rfl
  obtain ⟨x6, hx6⟩ := get_lt (l := L) (k := 6) (by omega)
  have R6 := hid (rowN1 (hr1.below HB1.out hb1) hx6)
  have e6 : L.getD 6 0 = x6 := by rw [List.getD_eq_getElem?_getD, hx6]; rfl
  obtain ⟨x7, hx7⟩ := get_lt (l := L) (k := 7) (by omega)
  have R7 := hid (rowN1 (hr1.below HB1.out hb1) hx7)
  have e7 : L.getD 7 0 = x7 := by rw [List.getD_eq_getElem?_getD, hx7]; rfl
  obtain ⟨x8, hx8⟩ := get_lt (l := L) (k := 8) (by omega)
  have R8 := hid (rowN1 (hr1.below HB1.out hb1) hx8)
  have e8 : L.getD 8 0 = x8 := by rw [List.getD_eq_getElem?_getD, hx8]; rfl
  obtain ⟨x9, hx9⟩ := get_lt (l := L) (k := 9) (by omega)
  have R9 := hid (rowN1 (hr1.below HB1.out hb1) hx9)
  have e9 : L.getD 9 0 = x9 := by rw [List.getD_eq_getElem?_getD, hx9]; rfl
  obtain ⟨x10, hx10⟩ := get_lt (l := L) (k := 10) (by omega)
  have R10 := hid (rowN1 (hr1.below HB1.out hb1) hx10)
  have e10 : L.getD 10 0 = x10 := by rw [List.getD_eq_getElem?_getD, hx10]; rfl
  obtain ⟨x11, hx11⟩ := get_lt (l := L) (k := 11) (by omega)
  have R11 := hid (rowN1 (hr1.below HB1.out hb1) hx11)
  have e11 : L.getD 11 0 = x11 := by rw [List.getD_eq_getElem?_getD, hx11]; rfl
  obtain ⟨x12, hx12⟩ := get_lt (l := L) (k := 12) (by omega)
  have R12 := hid (rowN1 (hr1.below HB1.out hb1) hx12)
  have e12 : L.getD 12 0 = x12 := by rw [List.getD_eq_getElem?_getD, hx12]; rfl
  obtain ⟨x13, hx13⟩ := get_lt (l := L) (k := 13) (by omega)
  have R13 := hid (rowN1 (hr1.below HB1.out hb1) hx13)
  have e13 : L.getD 13 0 = x13 := by rw [List.getD_eq_getElem?_getD, hx13]; rfl
  simp only [Nat.add_zero] at R0
  clear hx0 hx1 hx2 hx3 hx4 hx5 hx6 hx7 hx8 hx9 hx10 hx11 hx12 hx13
  go_enter Tryd.func33, Tryd.ntmps33
  go_upto_region 1 with (fail)
  rw [← hW1]
  clear hW1 h14
  have r13 := R13.out
  have lb1 := LB.out
  by_cases hn : x13 < 0
  ·have d1 : decide (x13 < 0) = true := decide_eq_true hn
   have HNO := hid (show ofB L = false by unfold ofB withB; rw [e13, decide_eq_false (show ¬ (0 ≤ x13 ∧ x13 ≤ 1) by omega)]; simp)
   clear hn
   go_upto_region 2 with (fail)
   have hst := of_fail HN1.out rfl
   go_wp2
   refine bodyPost_ret (res_conf_tmp rfl rfl rfl (setRow_heap W1 w.heap.size _ (confA zf false (.slice none 0 0)) _ _ HN1.out)) rfl ?_
   exact of_no (below_setRow HB1.out (Nat.le_refl _) _) HNO.out
  ·have d1 : decide (x13 < 0) = false := decide_eq_false hn
   by_cases hq : 1 < x13
   ·have d2 : decide (1 < x13) = true := decide_eq_true hq
    have HNO := hid (show ofB L = false by unfold ofB withB; rw [e13, decide_eq_false (show ¬ (0 ≤ x13 ∧ x13 ≤ 1) by omega)]; simp)
    clear hn hq
    go_upto_region 2 with (fail)
    have hst := of_fail HN1.out rfl
    go_wp2
    refine bodyPost_ret (res_conf_tmp rfl rfl rfl (setRow_heap W1 w.heap.size _ (confA zf false (.slice none 0 0)) _ _ HN1.out)) rfl ?_
    exact of_no (below_setRow HB1.out (Nat.le_refl _) _) HNO.out
   ·have d2 : decide (1 < x13) = false := decide_eq_false hq
    have HWB := hid (show withB (L.getD 13 0) 0 1 = true by unfold withB; rw [e13]; exact decide_eq_true (by omega))
    have HCF := hid (show (#[.int .i64 x0, .int .i64 x1, .int .i64 x2, .int .i64 x3, .int .i64 x4, .int .i64 x5, .int .i64 x6, .int .i64 x7, .int .i64 x8, .int .i64 x9, .int .i64 x10, .int .i64 x11, .int .i64 x12, .bool (x13 == 1), .slice none 0 0] : Array Value) = confA (ofF L) (ofG L) (.slice none 0 0) by unfold confA ofF ofG; rw [e0, e1, e2, e3, e4, e5, e6, e7, e8, e9, e10, e11, e12, e13])
    clear hn hq e0 e1 e2 e3 e4 e5 e6 e7 e8 e9 e10 e11 e12 e13
    go_upto_region 3 with (fail)
    clear r13 lb1 d0 d1 d2
    refine wp_region_cut 45 1 (fun _ => True) (by kernel_rfl) (by kernel_rfl) (by kernel_rfl) ?_
    simp only [List.take_succ_cons, List.take_zero]
    refine wpAnyH_grownD (w0 := W1.drew) (spL _) (relD [] (KeptT 30) [] KeptE) (aliveD []) (ancD []) (spD (n := 45) (m := 45) (l := [fun z _ => z = .slice (some ⟨b1, o1, none⟩) L.length sc, fun z _ => z = .pointer (some ⟨b1, o1, none⟩), fun z _ => z = .int .i64 x0, fun z _ => z = .slice (some ⟨b1, o1, none⟩) L.length sc, fun z _ => z = .pointer (some ⟨b1, o1 + 1, none⟩), fun z _ => z = .int .i64 x1, fun z _ => z = .slice (some ⟨b1, o1, none⟩) L.length sc, fun z _ => z = .pointer (some ⟨b1, o1 + 2, none⟩), fun z _ => z = .int .i64 x2, fun z _ => z = .slice (some ⟨b1, o1, none⟩) L.length sc, fun z _ => z = .pointer (some ⟨b1, o1 + 3, none⟩), fun z _ => z = .int .i64 x3, fun z _ => z = .slice (some ⟨b1, o1, none⟩) L.length sc, fun z _ => z = .pointer (some ⟨b1, o1 + 4, none⟩), fun z _ => z = .int .i64 x4, fun z _ => z = .slice (some ⟨b1, o1, none⟩) L.length sc, fun z _ => z = .pointer (some ⟨b1, o1 + 5, none⟩), fun z _ => z = .int .i64 x5, fun z _ => z = .slice (some ⟨b1, o1, none⟩) L.length sc, fun z _ => z = .pointer (some ⟨b1, o1 + 6, none⟩), fun z _ => z = .int .i64 x6, fun z _ => z = .slice (some ⟨b1, o1, none⟩) L.length sc, fun z _ => z = .pointer (some ⟨b1, o1 + 7, none⟩), fun z _ => z = .int .i64 x7, fun z _ => z = .slice (some ⟨b1, o1, none⟩) L.length sc, fun z _ => z = .pointer (some ⟨b1, o1 + 8, none⟩), fun z _ => z = .int .i64 x8, fun z _ => z = .slice (some ⟨b1, o1, none⟩) L.length sc, fun z _ => z = .pointer (some ⟨b1, o1 + 9, none⟩), fun z _ => z = .int .i64 x9, fun z _ => z = .slice (some ⟨b1, o1, none⟩) L.length sc, fun z _ => z = .pointer (some ⟨b1, o1 + 10, none⟩), fun z _ => z = .int .i64 x10, fun z _ => z = .slice (some ⟨b1, o1, none⟩) L.length sc, fun z _ => z = .pointer (some ⟨b1, o1 + 11, none⟩), fun z _ => z = .int .i64 x11, fun z _ => z = .slice (some ⟨b1, o1, none⟩) L.length sc, fun z _ => z = .pointer (some ⟨b1, o1 + 12, none⟩), fun z _ => z = .int .i64 x12, fun z _ => z = .slice (some ⟨b1, o1, none⟩) L.length sc, fun z _ => z = .pointer (some ⟨b1, o1 + 13, none⟩), fun z _ => z = .int .i64 x13, fun z _ => z = .bool (x13 == 1), fun z _ => z = .agg #[.int .i64 x0, .int .i64 x1, .int .i64 x2, .int .i64 x3, .int .i64 x4, .int .i64 x5, .int .i64 x6, .int .i64 x7, .int .i64 x8, .int .i64 x9, .int .i64 x10, .int .i64 x11, .int .i64 x12, .bool (x13 == 1), .slice none 0 0], NewCf W1]) (apps := []) (stab := []) (appsE := []) (stabE := []) ⟨stays_eq _, stays_eq _, stays_eq _, stays_eq _, stays_eq _, stays_eq _, stays_eq _, stays_eq _, stays_eq _, stays_eq _, stays_eq _, stays_eq _, stays_eq _, stays_eq _, stays_eq _, stays_eq _, stays_eq _, stays_eq _, stays_eq _, stays_eq _, stays_eq _, stays_eq _, stays_eq _, stays_eq _, stays_eq _, stays_eq _, stays_eq _, stays_eq _, stays_eq _, stays_eq _, stays_eq _, stays_eq _, stays_eq _, stays_eq _, stays_eq _, stays_eq _, stays_eq _, stays_eq _, stays_eq _, stays_eq _, stays_eq _, stays_eq _, stays_eq _, stays_eq _, stays_newCf _, trivial⟩ trivial trivial rfl (by decide) (by decide)) (by kernel_rfl) (by kernel_rfl) (by kernel_rfl) (by kernel_rfl) ?steps3 ?fin3 rfl
    case steps3 =>
     refine ⟨?_, ?_, ?_, ?_, ?_, ?_, ?_, ?_, ?_, ?_, ?_, ?_, ?_, ?_, ?_, ?_, ?_, ?_, ?_, ?_, ?_, ?_, ?_, ?_, ?_, ?_, ?_, ?_, ?_, ?_, ?_, ?_, ?_, ?_, ?_, ?_, ?_, ?_, ?_, ?_, ?_, ?_, ?_, ?_, ?_, trivial⟩
     ·intro a' w' hB hdep hoth K hK
      have hK := growB hB hK
      rw [if_pos (guard_none rfl)]
      have hbw : Below W1.heap.size W1 w' := (below_drewN (Below.refl _ _) 1).trans hB
      have t0 := hoth 0 (notDst_at (by kernel_rfl))
      simp only [List.getElem?_toArray, List.getElem?_cons_zero] at t0
      clear hdep hoth
      go_simp
      exact hK _ _ (Below.refl _ _) rfl
     ·intro a' w' hB hdep hoth K hK
      have hK := growB hB hK
      rw [if_pos (guard_none rfl)]
      have hbw : Below W1.heap.size W1 w' := (below_drewN (Below.refl _ _) 1).trans hB
      obtain ⟨vx0, gx0, ex0⟩ := hdep ⟨0, .data⟩ (by simp) rfl
      have gx0 := gx0 21 rfl (by simp)
      obtain rfl : vx0 = .slice (some ⟨b1, o1, none⟩) L.length sc := ex0
      have hj : 0 < L.length := by omega
      clear hdep hoth
      go_simp
      exact hK _ _ (Below.refl _ _) rfl
     ·intro a' w' hB hdep hoth K hK
      have hK := growB hB hK
      rw [if_pos (guard_none rfl)]
      have hbw : Below W1.heap.size W1 w' := (below_drewN (Below.refl _ _) 1).trans hB
      obtain ⟨vx0, gx0, ex0⟩ := hdep ⟨1, .data⟩ (by simp) rfl
      have gx0 := gx0 22 rfl (by simp)
      obtain rfl : vx0 = .pointer (some ⟨b1, o1, none⟩) := ex0
      have r := cell_below R0.out hbw
      have lb1 : b1 < w'.heap.size := Nat.lt_of_lt_of_le LB.out hbw.size
      clear hdep hoth
      go_simp
      exact hK _ _ (Below.refl _ _) rfl
     ·intro a' w' hB hdep hoth K hK
      have hK := growB hB hK
      rw [if_pos (guard_none rfl)]
      have hbw : Below W1.heap.size W1 w' := (below_drewN (Below.refl _ _) 1).trans hB
      have t0 := hoth 0 (notDst_at (by kernel_rfl))
      simp only [List.getElem?_toArray, List.getElem?_cons_zero] at t0
      clear hdep hoth
      go_simp
      exact hK _ _ (Below.refl _ _) rfl
     ·intro a' w' hB hdep hoth K hK
      have hK := growB hB hK
      rw [if_pos (guard_none rfl)]
      have hbw : Below W1.heap.size W1 w' := (below_drewN (Below.refl _ _) 1).trans hB
      obtain ⟨vx0, gx0, ex0⟩ := hdep ⟨3, .data⟩ (by simp) rfl
      have gx0 := gx0 24 rfl (by simp)
      obtain rfl : vx0 = .slice (some ⟨b1, o1, none⟩) L.length sc := ex0
      have hj : (1 : Int) < (L.length : Int) := by omega
      clear hdep hoth
      go_simp
      exact hK _ _ (Below.refl _ _) rfl
     ·intro a' w' hB hdep hoth K hK
      have hK := growB hB hK
      rw [if_pos (guard_none rfl)]
      have hbw : Below W1.heap.size W1 w' := (below_drewN (Below.refl _ _) 1).trans hB
      obtain ⟨vx0, gx0, ex0⟩ := hdep ⟨4, .data⟩ (by simp) rfl
      have gx0 := gx0 25 rfl (by simp)
      obtain rfl : vx0 = .pointer (some ⟨b1, o1 + 1, none⟩) := ex0
      have r := cell_below R1.out hbw
      have lb1 : b1 < w'.heap.size := Nat.lt_of_lt_of_le LB.out hbw.size
      clear hdep hoth
      go_simp
      exact hK _ _ (Below.refl _ _) rfl
     ·intro a' w' hB hdep hoth K hK
      have hK := growB hB hK
      rw [if_pos (guard_none rfl)]
      have hbw : Below W1.heap.size W1 w' := (below_drewN (Below.refl _ _) 1).trans hB
      have t0 := hoth 0 (notDst_at (by kernel_rfl))
      simp only [List.getElem?_toArray, List.getElem?_cons_zero] at t0
      clear hdep hoth
      go_simp
      exact hK _ _ (Below.refl _ _) rfl
     ·intro a' w' hB hdep hoth K hK
      have hK := growB hB hK
      rw [if_pos (guard_none rfl)]
      have hbw : Below W1.heap.size W1 w' := (below_drewN (Below.refl _ _) 1).trans hB
      obtain ⟨vx0, gx0, ex0⟩ := hdep ⟨6, .data⟩ (by simp) rfl
      have gx0 := gx0 27 rfl (by simp)
      obtain rfl : vx0 = .slice (some ⟨b1, o1, none⟩) L.length sc := ex0
      have hj : (2 : Int) < (L.length : Int) := by omega
      clear hdep hoth
      go_simp
      exact hK _ _ (Below.refl _ _) rfl
     ·intro a' w' hB hdep hoth K hK
      have hK := growB hB hK
      rw [if_pos (guard_none rfl)]
      have hbw : Below W1.heap.size W1 w' := (below_drewN (Below.refl _ _) 1).trans hB
      obtain ⟨vx0, gx0, ex0⟩ := hdep ⟨7, .data⟩ (by simp) rfl
      have gx0 := gx0 28 rfl (by simp)
      obtain rfl : vx0 = .pointer (some ⟨b1, o1 + 2, none⟩) := ex0
      have r := cell_below R2.out hbw
      have lb1 : b1 < w'.heap.size := Nat.lt_of_lt_of_le LB.out hbw.size
      clear hdep hoth
      go_simp
      exact hK _ _ (Below.refl _ _) rfl
     ·intro a' w' hB hdep hoth K hK
      have hK := growB hB hK
      rw [if_pos (guard_none rfl)]
      have hbw : Below W1.heap.size W1 w' := (below_drewN (Below.refl _ _) 1).trans hB
      have t0 := hoth 0 (notDst_at (by kernel_rfl))
      simp only [List.getElem?_toArray, List.getElem?_cons_zero] at t0
      clear hdep hoth
      go_simp
      exact hK _ _ (Below.refl _ _) rfl
     ·intro a' w' hB hdep hoth K hK
      have hK := growB hB hK
      rw [if_pos (guard_none rfl)]
      have hbw : Below W1.heap.size W1 w' := (below_drewN (Below.refl _ _) 1).trans hB
      obtain ⟨vx0, gx0, ex0⟩ := hdep ⟨9, .data⟩ (by simp) rfl
      have gx0 := gx0 30 rfl (by simp)
      obtain rfl : vx0 = .slice (some ⟨b1, o1, none⟩) L.length sc := ex0
      have hj : (3 : Int) < (L.length : Int) := by omega
      clear hdep hoth
      go_simp
      exact hK _ _ (Below.refl _ _) rfl
     ·intro a' w' hB hdep hoth K hK
      have hK := growB hB hK
      rw [if_pos (guard_none rfl)]
      have hbw : Below W1.heap.size W1 w' := (below_drewN (Below.refl _ _) 1).trans hB
      obtain ⟨vx0, gx0, ex0⟩ := hdep ⟨10, .data⟩ (by simp) rfl
      have gx0 := gx0 31 rfl (by simp)
      obtain rfl : vx0 = .pointer (some ⟨b1, o1 + 3, none⟩) := ex0
      have r := cell_below R3.out hbw
      have lb1 : b1 < w'.heap.size := Nat.lt_of_lt_of_le LB.out hbw.size
      clear hdep hoth
      go_simp
      exact hK _ _ (Below.refl _ _) rfl
     ·intro a' w' hB hdep hoth K hK
      have hK := growB hB hK
      rw [if_pos (guard_none rfl)]
      have hbw : Below W1.heap.size W1 w' := (below_drewN (Below.refl _ _) 1).trans hB
      have t0 := hoth 0 (notDst_at (by kernel_rfl))
      simp only [List.getElem?_toArray, List.getElem?_cons_zero] at t0
      clear hdep hoth
      go_simp
      exact hK _ _ (Below.refl _ _) rfl
     ·intro a' w' hB hdep hoth K hK
      have hK := growB hB hK
      rw [if_pos (guard_none rfl)]
      have hbw : Below W1.heap.size W1 w' := (below_drewN (Below.refl _ _) 1).trans hB
      obtain ⟨vx0, gx0, ex0⟩ := hdep ⟨12, .data⟩ (by simp) rfl
      have gx0 := gx0 33 rfl (by simp)
      obtain rfl : vx0 = .slice (some ⟨b1, o1, none⟩) L.length sc := ex0
      have hj : (4 : Int) < (L.length : Int) := by omega
      clear hdep hoth
      go_simp
      exact hK _ _ (Below.refl _ _) rfl
     ·intro a' w' hB hdep hoth K hK
      have hK := growB hB hK
      rw [if_pos (guard_none rfl)]
      have hbw : Below W1.heap.size W1 w' := (below_drewN (Below.refl _ _) 1).trans hB
      obtain ⟨vx0, gx0, ex0⟩ := hdep ⟨13, .data⟩ (by simp) rfl
      have gx0 := gx0 34 rfl (by simp)
      obtain rfl : vx0 = .pointer (some ⟨b1, o1 + 4, none⟩) := ex0
      have r := cell_below R4.out hbw
      have lb1 : b1 < w'.heap.size := Nat.lt_of_lt_of_le LB.out hbw.size
      clear hdep hoth
      go_simp
      exact hK _ _ (Below.refl _ _) rfl
     ·intro a' w' hB hdep hoth K hK
      have hK := growB hB hK
      rw [if_pos (guard_none rfl)]
      have hbw : Below W1.heap.size W1 w' := (below_drewN (Below.refl _ _) 1).trans hB
      have t0 := hoth 0 (notDst_at (by kernel_rfl))
      simp only [List.getElem?_toArray, List.getElem?_cons_zero] at t0
      clear hdep hoth
      go_simp
      exact hK _ _ (Below.refl _ _) rfl
     ·intro a' w' hB hdep hoth K hK
      have hK := growB hB hK
      rw [if_pos (guard_none rfl)]
      have hbw : Below W1.heap.size W1 w' := (below_drewN (Below.refl _ _) 1).trans hB
      obtain ⟨vx0, gx0, ex0⟩ := hdep ⟨15, .data⟩ (by simp) rfl
      have gx0 := gx0 36 rfl (by simp)
      obtain rfl : vx0 = .slice (some ⟨b1, o1, none⟩) L.length sc := ex0
      have hj : (5 : Int) < (L.length : Int) := by omega
      clear hdep hoth
      go_simp
      exact hK _ _ (Below.refl _ _) rfl
     ·intro a' w' hB hdep hoth K hK
      have hK := growB hB hK
      rw [if_pos (guard_none rfl)]
      have hbw : Below W1.heap.size W1 w' := (below_drewN (Below.refl _ _) 1).trans hB
      obtain ⟨vx0, gx0, ex0⟩ := hdep ⟨16, .data⟩ (by simp) rfl
      have gx0 := gx0 37 rfl (by simp)
      obtain rfl : vx0 = .pointer (some ⟨b1, o1 + 5, none⟩) := ex0
      have r := cell_below R5.out hbw
      have lb1 : b1 < w'.heap.size := Nat.lt_of_lt_of_le LB.out hbw.size
      clear hdep hoth
      go_simp
      exact hK _ _ (Below.refl _ _) rfl
     ·intro a' w' hB hdep hoth K hK
      have hK := growB hB hK
      rw [if_pos (guard_none rfl)]
      have hbw : Below W1.heap.size W1 w' := (below_drewN (Below.refl _ _) 1).trans hB
      have t0 := hoth 0 (notDst_at (by kernel_rfl))
      simp only [List.getElem?_toArray, List.getElem?_cons_zero] at t0
      clear hdep hoth
      go_simp
      exact hK _ _ (Below.refl _ _) rfl
     ·intro a' w' hB hdep hoth K hK
      have hK := growB hB hK
      rw [if_pos (guard_none rfl)]
      have hbw : Below W1.heap.size W1 w' := (below_drewN (Below.refl _ _) 1).trans hB
      obtain ⟨vx0, gx0, ex0⟩ := hdep ⟨18, .data⟩ (by simp) rfl
      have gx0 := gx0 39 rfl (by simp)
      obtain rfl : vx0 = .slice (some ⟨b1, o1, none⟩) L.length sc := ex0
      have hj : (6 : Int) < (L.length : Int) := by omega
      clear hdep hoth
      go_simp
      exact hK _ _ (Below.refl _ _) rfl
     ·intro a' w' hB hdep hoth K hK
      have hK := growB hB hK
      rw [if_pos (guard_none rfl)]
      have hbw : Below W1.heap.size W1 w' := (below_drewN (Below.refl _ _) 1).trans hB
      obtain ⟨vx0, gx0, ex0⟩ := hdep ⟨19, .data⟩ (by simp) rfl
      have gx0 := gx0 40 rfl (by simp)
      obtain rfl : vx0 = .pointer (some ⟨b1, o1 + 6, none⟩) := ex0
      have r := cell_below R6.out hbw
      have lb1 : b1 < w'.heap.size := Nat.lt_of_lt_of_le LB.out hbw.size
      clear hdep hoth
      go_simp
      exact hK _ _ (Below.refl _ _) rfl
     ·intro a' w' hB hdep hoth K hK
      have hK := growB hB hK
      rw [if_pos (guard_none rfl)]
      have hbw : Below W1.heap.size W1 w' := (below_drewN (Below.refl _ _) 1).trans hB
      have t0 := hoth 0 (notDst_at (by kernel_rfl))
      simp only [List.getElem?_toArray, List.getElem?_cons_zero] at t0
      clear hdep hoth
      go_simp
      exact hK _ _ (Below.refl _ _) rfl
     ·intro a' w' hB hdep hoth K hK
      have hK := growB hB hK
      rw [if_pos (guard_none rfl)]
      have hbw : Below W1.heap.size W1 w' := (below_drewN (Below.refl _ _) 1).trans hB
      obtain ⟨vx0, gx0, ex0⟩ := hdep ⟨21, .data⟩ (by simp) rfl
      have gx0 := gx0 42 rfl (by simp)
      obtain rfl : vx0 = .slice (some ⟨b1, o1, none⟩) L.length sc := ex0
      have hj : (7 : Int) < (L.length : Int) := by omega
      clear hdep hoth
      go_simp
      exact hK _ _ (Below.refl _ _) rfl
     ·intro a' w' hB hdep hoth K hK
      have hK := growB hB hK
      rw [if_pos (guard_none rfl)]
      have hbw : Below W1.heap.size W1 w' := (below_drewN (Below.refl _ _) 1).trans hB
      obtain ⟨vx0, gx0, ex0⟩ := hdep ⟨22, .data⟩ (by simp) rfl
      have gx0 := gx0 43 rfl (by simp)
      obtain rfl : vx0 = .pointer (some ⟨b1, o1 + 7, none⟩) := ex0
      have r := cell_below R7.out hbw
      have lb1 : b1 < w'.heap.size := Nat.lt_of_lt_of_le LB.out hbw.size
      clear hdep hoth
      go_simp
      exact hK _ _ (Below.refl _ _) rfl
     ·intro a' w' hB hdep hoth K hK
      have hK := growB hB hK
      rw [if_pos (guard_none rfl)]
      have hbw : Below W1.heap.size W1 w' := (below_drewN (Below.refl _ _) 1).trans hB
      have t0 := hoth 0 (notDst_at (by kernel_rfl))
      simp only [List.getElem?_toArray, List.getElem?_cons_zero] at t0
      clear hdep hoth
      go_simp
      exact hK _ _ (Below.refl _ _) rfl
     ·intro a' w' hB hdep hoth K hK
      have hK := growB hB hK
      rw [if_pos (guard_none rfl)]
      have hbw : Below W1.heap.size W1 w' := (below_drewN (Below.refl _ _) 1).trans hB
      obtain ⟨vx0, gx0, ex0⟩ := hdep ⟨24, .data⟩ (by simp) rfl
      have gx0 := gx0 45 rfl (by simp)
      obtain rfl : vx0 = .slice (some ⟨b1, o1, none⟩) L.length sc := ex0
      have hj : (8 : Int) < (L.length : Int) := by omega
      clear hdep hoth
      go_simp
      exact hK _ _ (Below.refl _ _) rfl
     ·intro a' w' hB hdep hoth K hK
      have hK := growB hB hK
      rw [if_pos (guard_none rfl)]
      have hbw : Below W1.heap.size W1 w' := (below_drewN (Below.refl _ _) 1).trans hB
      obtain ⟨vx0, gx0, ex0⟩ := hdep ⟨25, .data⟩ (by simp) rfl
      have gx0 := gx0 46 rfl (by simp)
      obtain rfl : vx0 = .pointer (some ⟨b1, o1 + 8, none⟩) := ex0
      have r := cell_below R8.out hbw
      have lb1 : b1 < w'.heap.size := Nat.lt_of_lt_of_le LB.out hbw.size
      clear hdep hoth
      go_simp
      exact hK _ _ (Below.refl _ _) rfl
     ·intro a' w' hB hdep hoth K hK
      have hK := growB hB hK
      rw [if_pos (guard_none rfl)]
      have hbw : Below W1.heap.size W1 w' := (below_drewN (Below.refl _ _) 1).trans hB
      have t0 := hoth 0 (notDst_at (by kernel_rfl))
      simp only [List.getElem?_toArray, List.getElem?_cons_zero] at t0
      clear hdep hoth
      go_simp
      exact hK _ _ (Below.refl _ _) rfl
     ·intro a' w' hB hdep hoth K hK
      have hK := growB hB hK
      rw [if_pos (guard_none rfl)]
      have hbw : Below W1.heap.size W1 w' := (below_drewN (Below.refl _ _) 1).trans hB
      obtain ⟨vx0, gx0, ex0⟩ := hdep ⟨27, .data⟩ (by simp) rfl
      have gx0 := gx0 48 rfl (by simp)
      obtain rfl : vx0 = .slice (some ⟨b1, o1, none⟩) L.length sc := ex0
      have hj : (9 : Int) < (L.length : Int) := by omega
      clear hdep hoth
      go_simp
      exact hK _ _ (Below.refl _ _) rfl
     ·intro a' w' hB hdep hoth K hK
      have hK := growB hB hK
      rw [if_pos (guard_none rfl)]
      have hbw : Below W1.heap.size W1 w' := (below_drewN (Below.refl _ _) 1).trans hB
      obtain ⟨vx0, gx0, ex0⟩ := hdep ⟨28, .data⟩ (by simp) rfl
      have gx0 := gx0 49 rfl (by simp)
      obtain rfl : vx0 = .pointer (some ⟨b1, o1 + 9, none⟩) := ex0
      have r := cell_below R9.out hbw
      have lb1 : b1 < w'.heap.size := Nat.lt_of_lt_of_le LB.out hbw.size
      clear hdep hoth
      go_simp
      exact hK _ _ (Below.refl _ _) rfl
     ·intro a' w' hB hdep hoth K hK
      have hK := growB hB hK
      rw [if_pos (guard_none rfl)]
      have hbw : Below W1.heap.size W1 w' := (below_drewN (Below.refl _ _) 1).trans hB
      have t0 := hoth 0 (notDst_at (by kernel_rfl))
      simp only [List.getElem?_toArray, List.getElem?_cons_zero] at t0
      clear hdep hoth
      go_simp
      exact hK _ _ (Below.refl _ _) rfl
     ·intro a' w' hB hdep hoth K hK
      have hK := growB hB hK
      rw [if_pos (guard_none rfl)]
      have hbw : Below W1.heap.size W1 w' := (below_drewN (Below.refl _ _) 1).trans hB
      obtain ⟨vx0, gx0, ex0⟩ := hdep ⟨30, .data⟩ (by simp) rfl
      have gx0 := gx0 51 rfl (by simp)
      obtain rfl : vx0 = .slice (some ⟨b1, o1, none⟩) L.length sc := ex0
      have hj : (10 : Int) < (L.length : Int) := by omega
      clear hdep hoth
      go_simp
      exact hK _ _ (Below.refl _ _) rfl
     ·intro a' w' hB hdep hoth K hK
      have hK := growB hB hK
      rw [if_pos (guard_none rfl)]
      have hbw : Below W1.heap.size W1 w' := (below_drewN (Below.refl _ _) 1).trans hB
      obtain ⟨vx0, gx0, ex0⟩ := hdep ⟨31, .data⟩ (by simp) rfl
      have gx0 := gx0 52 rfl (by simp)
      obtain rfl : vx0 = .pointer (some ⟨b1, o1 + 10, none⟩) := ex0
      have r := cell_below R10.out hbw
      have lb1 : b1 < w'.heap.size := Nat.lt_of_lt_of_le LB.out hbw.size
      clear hdep hoth
      go_simp
      exact hK _ _ (Below.refl _ _) rfl
     ·intro a' w' hB hdep hoth K hK
      have hK := growB hB hK
      rw [if_pos (guard_none rfl)]
      have hbw : Below W1.heap.size W1 w' := (below_drewN (Below.refl _ _) 1).trans hB
      have t0 := hoth 0 (notDst_at (by kernel_rfl))
      simp only [List.getElem?_toArray, List.getElem?_cons_zero] at t0
      clear hdep hoth
      go_simp
      exact hK _ _ (Below.refl _ _) rfl
     ·intro a' w' hB hdep hoth K hK
      have hK := growB hB hK
      rw [if_pos (guard_none rfl)]
      have hbw : Below W1.heap.size W1 w' := (below_drewN (Below.refl _ _) 1).trans hB
      obtain ⟨vx0, gx0, ex0⟩ := hdep ⟨33, .data⟩ (by simp) rfl
      have gx0 := gx0 54 rfl (by simp)
      obtain rfl : vx0 = .slice (some ⟨b1, o1, none⟩) L.length sc := ex0
      have hj : (11 : Int) < (L.length : Int) := by omega
      clear hdep hoth
      go_simp
      exact hK _ _ (Below.refl _ _) rfl
     ·intro a' w' hB hdep hoth K hK
      have hK := growB hB hK
      rw [if_pos (guard_none rfl)]
      have hbw : Below W1.heap.size W1 w' := (below_drewN (Below.refl _ _) 1).trans hB
      obtain ⟨vx0, gx0, ex0⟩ := hdep ⟨34, .data⟩ (by simp) rfl
      have gx0 := gx0 55 rfl (by simp)
      obtain rfl : vx0 = .pointer (some ⟨b1, o1 + 11, none⟩) := ex0
      have r := cell_below R11.out hbw
      have lb1 : b1 < w'.heap.size := Nat.lt_of_lt_of_le LB.out hbw.size
      clear hdep hoth
      go_simp
      exact hK _ _ (Below.refl _ _) rfl
     ·intro a' w' hB hdep hoth K hK
      have hK := growB hB hK
      rw [if_pos (guard_none rfl)]
      have hbw : Below W1.heap.size W1 w' := (below_drewN (Below.refl _ _) 1).trans hB
      have t0 := hoth 0 (notDst_at (by kernel_rfl))
      simp only [List.getElem?_toArray, List.getElem?_cons_zero] at t0
      clear hdep hoth
      go_simp
      exact hK _ _ (Below.refl _ _) rfl
     ·intro a' w' hB hdep hoth K hK
      have hK := growB hB hK
      rw [if_pos (guard_none rfl)]
      have hbw : Below W1.heap.size W1 w' := (below_drewN (Below.refl _ _) 1).trans hB
      obtain ⟨vx0, gx0, ex0⟩ := hdep ⟨36, .data⟩ (by simp) rfl
      have gx0 := gx0 57 rfl (by simp)
      obtain rfl : vx0 = .slice (some ⟨b1, o1, none⟩) L.length sc := ex0
      have hj : (12 : Int) < (L.length : Int) := by omega
      clear hdep hoth
      go_simp
      exact hK _ _ (Below.refl _ _) rfl
     ·intro a' w' hB hdep hoth K hK
      have hK := growB hB hK
      rw [if_pos (guard_none rfl)]
      have hbw : Below W1.heap.size W1 w' := (below_drewN (Below.refl _ _) 1).trans hB
      obtain ⟨vx0, gx0, ex0⟩ := hdep ⟨37, .data⟩ (by simp) rfl
      have gx0 := gx0 58 rfl (by simp)
      obtain rfl : vx0 = .pointer (some ⟨b1, o1 + 12, none⟩) := ex0
      have r := cell_below R12.out hbw
      have lb1 : b1 < w'.heap.size := Nat.lt_of_lt_of_le LB.out hbw.size
      clear hdep hoth
      go_simp
      exact hK _ _ (Below.refl _ _) rfl
     ·intro a' w' hB hdep hoth K hK
      have hK := growB hB hK
      rw [if_pos (guard_none rfl)]
      have hbw : Below W1.heap.size W1 w' := (below_drewN (Below.refl _ _) 1).trans hB
      have t0 := hoth 0 (notDst_at (by kernel_rfl))
      simp only [List.getElem?_toArray, List.getElem?_cons_zero] at t0
      clear hdep hoth
      go_simp
      exact hK _ _ (Below.refl _ _) rfl
     ·intro a' w' hB hdep hoth K hK
      have hK := growB hB hK
      rw [if_pos (guard_none rfl)]
      have hbw : Below W1.heap.size W1 w' := (below_drewN (Below.refl _ _) 1).trans hB
      obtain ⟨vx0, gx0, ex0⟩ := hdep ⟨39, .data⟩ (by simp) rfl
      have gx0 := gx0 60 rfl (by simp)
      obtain rfl : vx0 = .slice (some ⟨b1, o1, none⟩) L.length sc := ex0
      have hj : (13 : Int) < (L.length : Int) := by omega
      clear hdep hoth
      go_simp
      exact hK _ _ (Below.refl _ _) rfl
     ·intro a' w' hB hdep hoth K hK
      have hK := growB hB hK
      rw [if_pos (guard_none rfl)]
      have hbw : Below W1.heap.size W1 w' := (below_drewN (Below.refl _ _) 1).trans hB
      obtain ⟨vx0, gx0, ex0⟩ := hdep ⟨40, .data⟩ (by simp) rfl
      have gx0 := gx0 61 rfl (by simp)
      obtain rfl : vx0 = .pointer (some ⟨b1, o1 + 13, none⟩) := ex0
      have r := cell_below R13.out hbw
      have lb1 : b1 < w'.heap.size := Nat.lt_of_lt_of_le LB.out hbw.size
      clear hdep hoth
      go_simp
      exact hK _ _ (Below.refl _ _) rfl
     ·intro a' w' hB hdep hoth K hK
      have hK := growB hB hK
      rw [if_pos (guard_none rfl)]
      have hbw : Below W1.heap.size W1 w' := (below_drewN (Below.refl _ _) 1).trans hB
      obtain ⟨vx0, gx0, ex0⟩ := hdep ⟨41, .data⟩ (by simp) rfl
      have gx0 := gx0 62 rfl (by simp)
      obtain rfl : vx0 = .int .i64 x13 := ex0
      clear hdep hoth
      go_simp
      exact hK _ _ (Below.refl _ _) rfl
     ·intro a' w' hB hdep hoth K hK
      have hK := growB hB hK
      rw [if_pos (guard_none rfl)]
      have hbw : Below W1.heap.size W1 w' := (below_drewN (Below.refl _ _) 1).trans hB
      obtain ⟨vx0, gx0, ex0⟩ := hdep ⟨2, .data⟩ (by simp) rfl
      have gx0 := gx0 23 rfl (by simp)
      obtain rfl : vx0 = .int .i64 x0 := ex0
      obtain ⟨vx1, gx1, ex1⟩ := hdep ⟨5, .data⟩ (by simp) rfl
      have gx1 := gx1 26 rfl (by simp)
      obtain rfl : vx1 = .int .i64 x1 := ex1
      obtain ⟨vx2, gx2, ex2⟩ := hdep ⟨8, .data⟩ (by simp) rfl
      have gx2 := gx2 29 rfl (by simp)
      obtain rfl : vx2 = .int .i64 x2 := ex2
      obtain ⟨vx3, gx3, ex3⟩ := hdep ⟨11, .data⟩ (by simp) rfl
      have gx3 := gx3 32 rfl (by simp)
      obtain rfl : vx3 = .int .i64 x3 := ex3
      obtain ⟨vx4, gx4, ex4⟩ := hdep ⟨14, .data⟩ (by simp) rfl
      have gx4 := gx4 35 rfl (by simp)
      obtain rfl : vx4 = .int .i64 x4 := ex4
      obtain ⟨vx5, gx5, ex5⟩ := hdep ⟨17, .data⟩ (by simp) rfl
      have gx5 := gx5 38 rfl (by simp)
      obtain rfl : vx5 = .int .i64 x5 := ex5
      obtain ⟨vx6, gx6, ex6⟩ := hdep ⟨20, .data⟩ (by simp) rfl
      have gx6 := gx6 41 rfl (by simp)
      obtain rfl : vx6 = .int .i64 x6 := ex6
      obtain ⟨vx7, gx7, ex7⟩ := hdep ⟨23, .data⟩ (by simp) rfl
      have gx7 := gx7 44 rfl (by simp)
      obtain rfl : vx7 = .int .i64 x7 := ex7
      obtain ⟨vx8, gx8, ex8⟩ := hdep ⟨26, .data⟩ (by simp) rfl
      have gx8 := gx8 47 rfl (by simp)
      obtain rfl : vx8 = .int .i64 x8 := ex8
      obtain ⟨vx9, gx9, ex9⟩ := hdep ⟨29, .data⟩ (by simp) rfl
      have gx9 := gx9 50 rfl (by simp)
      obtain rfl : vx9 = .int .i64 x9 := ex9
      obtain ⟨vx10, gx10, ex10⟩ := hdep ⟨32, .data⟩ (by simp) rfl
      have gx10 := gx10 53 rfl (by simp)
      obtain rfl : vx10 = .int .i64 x10 := ex10
      obtain ⟨vx11, gx11, ex11⟩ := hdep ⟨35, .data⟩ (by simp) rfl
      have gx11 := gx11 56 rfl (by simp)
      obtain rfl : vx11 = .int .i64 x11 := ex11
      obtain ⟨vx12, gx12, ex12⟩ := hdep ⟨38, .data⟩ (by simp) rfl
      have gx12 := gx12 59 rfl (by simp)
      obtain rfl : vx12 = .int .i64 x12 := ex12
      obtain ⟨vx13, gx13, ex13⟩ := hdep ⟨42, .data⟩ (by simp) rfl
      have gx13 := gx13 63 rfl (by simp)
      obtain rfl : vx13 = .bool (x13 == 1) := ex13
      clear hdep hoth
      go_simp
      exact hK _ _ (Below.refl _ _) rfl
     ·intro a' w' hB hdep hoth K hK
      have hK := growB hB hK
      rw [if_pos (guard_none rfl)]
      have hbw : Below W1.heap.size W1 w' := (below_drewN (Below.refl _ _) 1).trans hB
      clear hdep hoth
      go_simp
      exact hK _ _ ((Below.refl _ _).alloc (Nat.le_refl _) _) ⟨w'.heap.size, rfl, hbw.size, heap_new w' _⟩
    case fin3 =>
     intro vs w' hB hs
     have hbw : Below W1.heap.size W1 w' := (below_drewN (Below.refl _ _) 1).trans hB
     have e43 : vs 43 = .agg #[.int .i64 x0, .int .i64 x1, .int .i64 x2, .int .i64 x3, .int .i64 x4, .int .i64 x5, .int .i64 x6, .int .i64 x7, .int .i64 x8, .int .i64 x9, .int .i64 x10, .int .i64 x11, .int .i64 x12, .bool (x13 == 1), .slice none 0 0] := hs 43 (by decide) (by decide)
     obtain ⟨T4, e44, hT, hz⟩ := hs 44 (by decide) (by decide)
     clear hs
     refine cutQ_held (fun _ => True) (fun f => ?_)
     simp only [actOf, dstAt, if_true, List.getElem?_toArray, List.getElem?_cons_succ, List.getElem?_cons_zero, Option.bind_some, Act.put, List.setIfInBounds_toArray, List.set_cons_zero, List.set_cons_succ, List.length_cons, List.length_nil, Nat.reduceAdd]
     rw [e43, e44]
     have HZ4 := hid hz
     have HT4 := hid hT
     have hst : (storeVar 24 ⟨T4, 0, none⟩ (.agg #[.int .i64 x0, .int .i64 x1, .int .i64 x2, .int .i64 x3, .int .i64 x4, .int .i64 x5, .int .i64 x6, .int .i64 x7, .int .i64 x8, .int .i64 x9, .int .i64 x10, .int .i64 x11, .int .i64 x12, .bool (x13 == 1), .slice none 0 0])).run Tryd.prog w' = .ok () (w'.setRow T4 #[.int .i64 x0, .int .i64 x1, .int .i64 x2, .int .i64 x3, .int .i64 x4, .int .i64 x5, .int .i64 x6, .int .i64 x7, .int .i64 x8, .int .i64 x9, .int .i64 x10, .int .i64 x11, .int .i64 x12, .bool (x13 == 1), .slice none 0 0]) := run_storeVar_row w' T4 24 24 _ #[.int .i64 x0, .int .i64 x1, .int .i64 x2, .int .i64 x3, .int .i64 x4, .int .i64 x5, .int .i64 x6, .int .i64 x7, .int .i64 x8, .int .i64 x9, .int .i64 x10, .int .i64 x11, .int .i64 x12, .bool (x13 == 1), .slice none 0 0] hz (by rw [HCF.out]; exact conf_size _ _ _) rfl (by simp [Value.oneCell'])
     clear hz hT e43 e44
     refine wpAnyH_ready (rs := [45]) (by kernel_rfl) (by simp) ?_
     refine AllReadyH.cons rfl (fun K hK => ?_) AllReadyH.nil
     go_simp
     refine hK.out _ _ trivial (fun _ => ?_)
     clear hK K
     refine wpAnyH_done (by kernel_rfl) ?_ _
     refine wp_namedQ (fun V3 hV3 => ?_)
     have HC3 := hid (show V3.heap[T4]? = some (.cells (confA (ofF L) (ofG L) (.slice none 0 0)) 24) by rw [hV3, ← HCF.out]; exact setRow_heap w' T4 _ _ _ _ HZ4.out)
     have HBV3 := hid (show Below W1.heap.size W1 V3 by rw [hV3]; exact below_setRow hbw HT4.out _)
     clear hV3 hB hbw hst
     have HN3 := hid (blk_below HN1.out HBV3.out (blk_lt HN1.out))
     have HS3 := hid (HS.out.below (HB1.out.trans (HBV3.out.mono HB1.out.size)))
     have HB3 := hid (HB1.out.trans (HBV3.out.mono HB1.out.size))
     go_wp2_with fail
     refine wp_region_cut 5 2 (fun _ => True) (by kernel_rfl) (by kernel_rfl) (by kernel_rfl) ?_
     simp only [List.take_succ_cons, List.take_zero]
     refine wpAnyH_grownD (w0 := V3.drew) (spL _) (relD [4] (KeptT 30) [] KeptE) (aliveD []) (ancD []) (spD (n := 5) (m := 5) (l := [fun z _ => z = .pointer (some ⟨T4, 14, none⟩), fun z _ => z = .slice none 0 0, fun z _ => z = .slice (some ⟨b1, o1, none⟩) L.length sc, fun z _ => z = sliced (some ⟨b1, o1, none⟩) 14 L.length sc 1, fun v w => OwnI w V3.heap.size v ([] ++ L.drop 14)]) (apps := [4]) (stab := [0, 1, 2, 3]) (appsE := []) (stabE := []) ⟨stays_eq _, stays_eq _, stays_eq _, stays_eq _, stays_owns 1 _ encI _ _, trivial⟩ ⟨stw_eq _ _, stw_eq _ _, stw_eq _ _, stw_eq _ _, trivial⟩ trivial rfl (by decide) (by decide)) (by kernel_rfl) (by kernel_rfl) (by kernel_rfl) (by kernel_rfl) ?steps4 ?fin4 rfl
     case steps4 =>
      refine ⟨?_, ?_, ?_, ?_, ?_, trivial⟩
      ·intro a' w' hB hdep hoth K hK
       have hK := growB hB hK
       rw [if_pos (guard_none rfl)]
       have hbw : Below V3.heap.size V3 w' := (below_drewN (Below.refl _ _) 1).trans hB
       have t4 := hoth 4 (notDst_at (by kernel_rfl))
       simp only [List.getElem?_toArray, List.getElem?_cons_succ, List.getElem?_cons_zero] at t4
       clear hdep hoth
       go_simp
       exact hK _ _ (Below.refl _ _) rfl
      ·intro a' w' hB hdep hoth K hK
       have hK := growB hB hK
       rw [if_pos (guard_none rfl)]
       have hbw : Below V3.heap.size V3 w' := (below_drewN (Below.refl _ _) 1).trans hB
       obtain ⟨vx0, gx0, ex0⟩ := hdep ⟨0, .data⟩ (by simp) rfl
       have gx0 := gx0 65 rfl (by simp)
       obtain rfl : vx0 = .pointer (some ⟨T4, 14, none⟩) := ex0
       have hc3 := blk_below HC3.out hbw (blk_lt HC3.out)
       have c14 : w'.cell? ⟨T4, 14, none⟩ = some (.slice none 0 0) := blk_cell hc3 14
       have lc := blk_lt hc3
       clear hc3
       clear hdep hoth
       go_simp
       exact hK _ _ (Below.refl _ _) rfl
      ·intro a' w' hB hdep hoth K hK
       have hK := growB hB hK
       rw [if_pos (guard_none rfl)]
       have hbw : Below V3.heap.size V3 w' := (below_drewN (Below.refl _ _) 1).trans hB
       have t0 := hoth 0 (notDst_at (by kernel_rfl))
       simp only [List.getElem?_toArray, List.getElem?_cons_zero] at t0
       clear hdep hoth
       go_simp
       exact hK _ _ (Below.refl _ _) rfl
      ·intro a' w' hB hdep hoth K hK
       have hK := growB hB hK
       rw [if_pos (guard_none rfl)]
       have hbw : Below V3.heap.size V3 w' := (below_drewN (Below.refl _ _) 1).trans hB
       obtain ⟨vx0, gx0, ex0⟩ := hdep ⟨2, .data⟩ (by simp) rfl
       have gx0 := gx0 67 rfl (by simp)
       obtain rfl : vx0 = .slice (some ⟨b1, o1, none⟩) L.length sc := ex0
       have hsl := from_i14 (some ⟨b1, o1, none⟩) L.length sc h14n
       clear hdep hoth
       go_simp
       exact hK _ _ (Below.refl _ _) rfl
      ·intro a' w' hB hdep hoth K hK
       have hbw : Below V3.heap.size V3 w' := (below_drewN (Below.refl _ _) 1).trans hB
       obtain ⟨vO, gO, eO⟩ := hdep ⟨1, .data⟩ (by simp) rfl
       have gO := gO 66 rfl (by simp)
       obtain rfl : vO = .slice none 0 0 := eO
       have eO : OwnI w' V3.heap.size (.slice none 0 0) [] := World.ownsRow_nil _ _ _ _
       obtain ⟨vx, gx, ex⟩ := hdep ⟨3, .data⟩ (by simp) rfl
       have gx := gx 68 rfl (by simp)
       obtain rfl : vx = sliced (some ⟨b1, o1, none⟩) 14 L.length sc 1 := ex
       refine step_append_row rfl _ _ 22 rfl V3.heap.size 3 i0 _ 8 Tryd.underlying22 HI0.out HI1.out HI2.out HI3.out rfl (by decide) (fun _ => rfl) (.slice none 0 0) [] (by simp [Act.eval, gO]) eO (sliced (some ⟨b1, o1, none⟩) 14 L.length sc 1) (L.drop 14) (by simp [Act.eval, gx]) (encI_one5 _) (row_from (HS3.out.below hbw) h14n) (by unfold maxLen; simp; omega) (by simp; omega) hbw.size ?_
       intro v' w'' hown hbb hgr
       exact hK v' w'' (hB.trans hbb) (KeptT.grown hgr (fun r e => Owns.typed eO r e) (by decide)) hown
     case fin4 =>
      intro vs w' hB hs
      have hbw : Below V3.heap.size V3 w' := (below_drewN (Below.refl _ _) 1).trans hB
      have e4 := hs 4 (by decide) (by decide)
      have e4 : OwnI w' V3.heap.size (vs 4) ([] ++ L.drop 14) := e4
      clear hs
      refine cutQ_held (fun _ => True) (fun f => ?_)
      simp only [actOf, dstAt, if_true, List.getElem?_toArray, List.getElem?_cons_succ, List.getElem?_cons_zero, Option.bind_some, Act.put, List.setIfInBounds_toArray, List.set_cons_zero, List.set_cons_succ, List.length_cons, List.length_nil, Nat.reduceAdd]
      obtain ⟨u, hu⟩ : ∃ u, vs 4 = u := ⟨_, rfl⟩
      rw [hu] at e4
      rw [hu]
      obtain ⟨va, vn, vc, rfl⟩ := e4.shape
      have HE4 := hid e4
      have HC3w := hid (blk_below HC3.out hbw (blk_lt HC3.out))
      have c14 : w'.cell? ⟨T4, 14, none⟩ = some (.slice none 0 0) := blk_cell HC3w.out 14
      have cf := blk_free HC3w.out 14
      have lc := blk_lt HC3w.out
      clear e4 hu
      refine wpAnyH_take (i := 5) (v := ?_) rfl (by kernel_rfl) (by kernel_rfl) (by kernel_rfl) (fun _ _ _ h => h) (Or.inl ⟨by rfl, ?_⟩) trivial ?_
      rotate_left
      ·(intro w hSw; (try dsimp only at hSw); go_simp; try with_reducible rfl)
      try simp only [Act.put, List.setIfInBounds_toArray]
      refine wpAnyH_ready (rs := [6]) (by kernel_rfl) (by simp) ?_
      refine AllReadyH.cons rfl (fun K hK => ?_) AllReadyH.nil
      go_simp
      refine hK.out _ _ trivial (fun _ => ?_)
      clear hK K
      refine wpAnyH_done (by kernel_rfl) ?_ _
      refine wp_namedQ (fun V4 hV4 => ?_)
      have HC4 := hid (show V4.heap[T4]? = some (.cells (confA (ofF L) (ofG L) (.slice va vn vc)) 24) by rw [hV4, ← confA_set14 (ofF L) (ofG L) (.slice none 0 0)]; exact blk_set HC3w.out 14 _)
      have HO4 := hid (show OwnI V4 w.heap.size (.slice va vn vc) (L.drop 14) by rw [hV4]; exact owns_at (Owns.mono HE4.out HB3.out.size) HC3w.out (by decide) 14 _)
      have HB4 := hid (show Below w.heap.size w V4 by rw [hV4]; exact (HB3.out.trans (hbw.mono HB3.out.size)).setCell (p := ⟨T4, 14, none⟩) (Nat.le_trans HB1.out.size HT4.out) _)
      have HN4 := hid (show V4.heap[w.heap.size]? = some (.cells #[.int .i64 0, .int .i64 0, .int .i64 0, .int .i64 0, .int .i64 0, .int .i64 0, .int .i64 0, .int .i64 0, .int .i64 0, .int .i64 0, .int .i64 0, .int .i64 0, .int .i64 0, .bool false, .slice none 0 0] 24) by rw [hV4]; exact blk_other (blk_below HN3.out hbw (blk_lt HN3.out)) (p := ⟨T4, 14, none⟩) (Nat.ne_of_lt (Nat.lt_of_lt_of_le (blk_lt HN1.out) HT4.out)) _)
      clear hV4 hB hbw c14 cf lc
      have hld := load_conf HC4.out
      obtain ⟨cb, hcb⟩ : ∃ cb, checkB (ofF L) (L.drop 14) = cb := ⟨_, rfl⟩
      have HCB := hid hcb
      have hch := check7_any (ofF L) (ofG L) (.slice va vn vc) (L.drop 14) V4 (HO4.out.row (fun _ => rfl) (by decide))
      rw [hcb] at hch
      have HCH := hid hch
      clear hcb hch
      go_wp2_with fail
      refine HCH.out.mono ?_
      rintro e x2 ⟨rfl, hb2⟩
      have HC5 := hid (blk_below HC4.out hb2 (blk_lt HC4.out))
      have HN5 := hid (blk_below HN4.out hb2 (blk_lt HN4.out))
      have HO5 := hid (Owns.below HO4.out hb2)
      have HB5 := hid (HB4.out.trans (hb2.mono HB4.out.size))
      clear hb2 hld
      cases cb with
      | true =>
       have HOKB := hid (show ofB L = true by unfold ofB; rw [HWB.out, HCB.out, decide_eq_true (by omega)]; rfl)
       have hld := load_conf HC5.out
       have hst : (storeVar 24 ⟨w.heap.size, 0, none⟩ (.agg (confA (ofF L) (ofG L) (.slice va vn vc)))).run Tryd.prog x2 = .ok () (x2.setRow w.heap.size (confA (ofF L) (ofG L) (.slice va vn vc))) := run_storeVar_row x2 w.heap.size 24 24 _ (confA (ofF L) (ofG L) (.slice va vn vc)) HN5.out (conf_size _ _ _) rfl (by simp [confA, Value.oneCell'])
       have hz0 : ((0 : Int) != 0) = false := rfl
       simp only [okN, if_true]
       go_wp2
       refine bodyPost_ret (res_conf_tmp rfl rfl rfl (setRow_heap x2 w.heap.size _ (confA (ofF L) (ofG L) (.slice va vn vc)) _ _ HN5.out)) rfl ?_
       exact ⟨below_setRow HB5.out (Nat.le_refl _) _, .inl ⟨HOKB.out, _, rfl, owns_row HO5.out HN5.out (by decide) _⟩⟩
      | false =>
       have HNO := hid (show ofB L = false by unfold ofB; rw [HCB.out]; simp)
       have hst := of_fail HN5.out rfl
       simp only [okN]
       go_wp2
       refine bodyPost_ret (res_conf_tmp rfl rfl rfl (setRow_heap x2 w.heap.size _ (confA zf false (.slice none 0 0)) _ _ HN5.out)) rfl ?_
       exact of_no (below_setRow HB5.out (Nat.le_refl _) _) HNO.out
end Go.Proofs.YtgcajfglidflnaaDoor
