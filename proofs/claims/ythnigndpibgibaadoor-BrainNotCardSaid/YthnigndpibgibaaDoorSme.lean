/- herdref13.Same: exact. Printed by gn_sme.py. -/
import Derived.Test.YthnigndpibgibaaDoorSmx
import Derived.BigQuiet
namespace Go.Proofs.YthnigndpibgibaaDoor
open Go.RowKit Go.Shelf
attribute [-go_sem] loadVar run_equalIn_agg
attribute [local go_sem] load_other2

theorem sameB_iff_parts {A B : BrainV} : sameB A B = true ↔ A.f 0 = B.f 0 ∧ A.f 1 = B.f 1 ∧ A.g 2 = B.g 2 ∧ sameC (fun i => A.f (i + 3)) (A.g 16) A.M (fun i => B.f (i + 3)) (B.g 16) B.M = true ∧ refOf A = refOf B ∧ A.I = B.I ∧ A.K = B.K := by
  unfold sameB
  simp only [Bool.and_eq_true, beq_iff_eq, decide_eq_true_eq, rfEB_iff]
theorem sameB_no {A B : BrainV} {r : Bool} (hr : sameB A B = r) (h : ¬ (A.f 0 = B.f 0 ∧ A.f 1 = B.f 1 ∧ A.g 2 = B.g 2 ∧ sameC (fun i => A.f (i + 3)) (A.g 16) A.M (fun i => B.f (i + 3)) (B.g 16) B.M = true ∧ refOf A = refOf B ∧ A.I = B.I ∧ A.K = B.K)) : r = false := by
  rw [← hr, Bool.eq_false_iff]
  intro e
  exact h (sameB_iff_parts.1 e)
set_option maxRecDepth 100000 in
set_option maxHeartbeats 2000000 in
theorem rsame13_any (A B : BrainV) (m1 i1 k1 m2 i2 k2 : Value) (w : World) (hm1 : RowOf 1 encI w m1 A.M) (hi1 : RowOf 4 encIn w i1 A.I) (hk1 : RowOf 8 encKp w k1 A.K) (hm2 : RowOf 1 encI w m2 B.M) (hi2 : RowOf 4 encIn w i2 B.I) (hk2 : RowOf 8 encKp w k2 B.K) :
    Calls Tryd.prog 18 #[.agg (brT A.f A.g m1 i1 k1), .agg (brT B.f B.g m2 i2 k2)] w fun e w' => e = .returned (.bool (sameB A B)) ∧ Below w.heap.size w w' := by
  obtain ⟨ia, ic, rfl, ip1, ip2, ip3, hio1⟩ := hi1.open
  obtain ⟨ja, jc, rfl, jp1, jp2, jp3, hio2⟩ := hi2.open
  obtain ⟨ka, kc, rfl, kp1, kp2, kp3, hko1⟩ := hk1.open
  obtain ⟨la, lc, rfl, lp1, lp2, lp3, hko2⟩ := hk2.open
  obtain ⟨ni, hni⟩ : ∃ n, B.I.length = n := ⟨_, rfl⟩
  obtain ⟨nk, hnk⟩ : ∃ n, B.K.length = n := ⟨_, rfl⟩
  rw [hni] at jp1 jp3 hio2 ⊢
  rw [hnk] at lp1 lp3 hko2 ⊢
  obtain ⟨W1, hW1⟩ : ∃ W1, W1 = (w.alloc (.cells (brT A.f A.g m1 (.slice ia A.I.length ic) (.slice ka A.K.length kc)) 30)).alloc (.cells (brT B.f B.g m2 (.slice ja ni jc) (.slice la nk lc)) 30) := ⟨_, rfl⟩
  have hb1 : Below w.heap.size w W1 := by rw [hW1]; exact ((Below.refl _ _).alloc (Nat.le_refl _) _).alloc (by simp) _
  have n1 : BB W1 w.heap.size (brT A.f A.g m1 (.slice ia A.I.length ic) (.slice ka A.K.length kc)) := by rw [hW1]; exact blk_alloc (heap_new _ _) _
  have n2 : BB W1 (w.heap.size + 1) (brT B.f B.g m2 (.slice ja ni jc) (.slice la nk lc)) := by rw [hW1]; exact heap_new2 _ _ _
  have hz : W1.heap.size = w.heap.size + 2 := by rw [hW1]; simp
  obtain ⟨r, hr⟩ : ∃ r, sameB A B = r := ⟨_, rfl⟩
  rw [hr]
  have HR := hid hr
  obtain ⟨a0, ha0⟩ : ∃ a, A.f 0 = a := ⟨_, rfl⟩
  obtain ⟨b0, hb0⟩ : ∃ a, B.f 0 = a := ⟨_, rfl⟩
  obtain ⟨a1, ha1⟩ : ∃ a, A.f 1 = a := ⟨_, rfl⟩
  obtain ⟨b1, hbb1⟩ : ∃ a, B.f 1 = a := ⟨_, rfl⟩
  obtain ⟨ga, hga⟩ : ∃ a, A.g 2 = a := ⟨_, rfl⟩
  obtain ⟨gb, hgb⟩ : ∃ a, B.g 2 = a := ⟨_, rfl⟩
  have HW1 := hid hW1
  have N1 := hid n1
  have N2 := hid n2
  have HB1 := hid hb1
  have HIO1 := hid hio1
  have HIO2 := hid hio2
  have HKO1 := hid hko1
  have HKO2 := hid hko2
  have HA0 := hid ha0
  have HB0 := hid hb0
  have HA1 := hid ha1
  have HBB1 := hid hbb1
  have HGA := hid hga
  have HGB := hid hgb
  have HNI := hid hni
  have HNK := hid hnk
  have HM1 := hid (hm1.below hb1)
  have HM2 := hid (hm2.below hb1)
  have hl1 : w.heap.size < W1.heap.size := by omega
  have hl2 : w.heap.size + 1 < W1.heap.size := by omega
  have x0 : W1.cell? ⟨w.heap.size, 0, none⟩ = some (.int .i64 a0) := by rw [← ha0]; exact blk_cell n1 0
  have x1 : W1.cell? ⟨w.heap.size, 1, none⟩ = some (.int .i64 a1) := by rw [← ha1]; exact blk_cell n1 1
  have x2 : W1.cell? ⟨w.heap.size, 2, none⟩ = some (.bool ga) := by rw [← hga]; exact blk_cell n1 2
  have y0 : W1.cell? ⟨w.heap.size + 1, 0, none⟩ = some (.int .i64 b0) := by rw [← hb0]; exact blk_cell n2 0
  have y1 : W1.cell? ⟨w.heap.size + 1, 1, none⟩ = some (.int .i64 b1) := by rw [← hbb1]; exact blk_cell n2 1
  have y2 : W1.cell? ⟨w.heap.size + 1, 2, none⟩ = some (.bool gb) := by rw [← hgb]; exact blk_cell n2 2
  have lm1 := load_mid n1
  have lm2 := load_mid n2
  rw [hW1] at x0 x1 x2 y0 y1 y2 hl1 hl2 lm1 lm2
  clear hm1 hi1 hk1 hm2 hi2 hk2 hio1 hio2 hko1 hko2 n1 n2 hb1 hr ha0 hb0 ha1 hbb1 hga hgb hni hnk hW1
  by_cases h0 : a0 = b0
  rotate_left
  · have q0 : (a0 != b0) = true := by simpa using h0
    obtain rfl : r = false := sameB_no HR.out (fun e => h0 (by rw [← HA0.out, ← HB0.out]; exact e.1))
    clear h0
    go_enter Tryd.func18, Tryd.ntmps18
    go_wp2
    go_ret
    rw [← HW1.out]
    exact ⟨rfl, HB1.out⟩
  subst h0
  by_cases h0 : a1 = b1
  rotate_left
  · have q0 : (a1 != b1) = true := by simpa using h0
    obtain rfl : r = false := sameB_no HR.out (fun e => h0 (by rw [← HA1.out, ← HBB1.out]; exact e.2.1))
    clear h0
    go_enter Tryd.func18, Tryd.ntmps18
    go_wp2
    go_ret
    rw [← HW1.out]
    exact ⟨rfl, HB1.out⟩
  subst h0
  by_cases h0 : ga = gb
  rotate_left
  · obtain rfl : r = false := sameB_no HR.out (fun e => h0 (by rw [← HGA.out, ← HGB.out]; exact e.2.2.1))
    obtain rfl : gb = !ga := by cases ga <;> cases gb <;> simp_all
    clear h0
    go_enter Tryd.func18, Tryd.ntmps18
    go_wp2
    go_ret
    rw [← HW1.out]
    exact ⟨rfl, HB1.out⟩
  subst h0
  obtain ⟨s, hs⟩ : ∃ s, sameC (fun i => A.f (i + 3)) (A.g 16) A.M (fun i => B.f (i + 3)) (B.g 16) B.M = s := ⟨_, rfl⟩
  have HS := hid hs
  have HC := hid (same07_at _ _ _ _ _ _ _ _ s hs W1 HM1.out HM2.out)
  clear hs
  go_enter Tryd.func18, Tryd.ntmps18
  go_wp2_with fail
  rw [← HW1.out]
  refine HC.out.mono ?_
  rintro e V ⟨rfl, hb⟩
  have HBV := hid (HB1.out.trans (hb.mono HB1.out.size))
  have D1 := hid (N1.out.below hb (blk_lt N1.out))
  have D2 := hid (N2.out.below hb (blk_lt N2.out))
  have l1 := blk_lt D1.out
  have l2 := blk_lt D2.out
  clear hb x0 x1 x2 y0 y1 y2 lm1 lm2 hl1 hl2
  cases s with
  | false =>
    obtain rfl : r = false := sameB_no HR.out (fun e => by have := e.2.2.2.1; rw [HS.out] at this; cases this)
    go_wp2
    go_ret
    exact ⟨rfl, HBV.out⟩
  | true =>
    have x20 : V.cell? ⟨w.heap.size, 20, none⟩ = some (.int .u8 (A.f 20)) := blk_cell D1.out 20
    have x21 : V.cell? ⟨w.heap.size, 21, none⟩ = some (.int .i64 (A.f 21)) := blk_cell D1.out 21
    have x22 : V.cell? ⟨w.heap.size, 22, none⟩ = some (.int .i64 (A.f 22)) := blk_cell D1.out 22
    have x23 : V.cell? ⟨w.heap.size, 23, none⟩ = some (.int .i64 (A.f 23)) := blk_cell D1.out 23
    have x24 : V.cell? ⟨w.heap.size, 24, none⟩ = some (.bool (A.g 24)) := blk_cell D1.out 24
    have x25 : V.cell? ⟨w.heap.size, 25, none⟩ = some (.int .i64 (A.f 25)) := blk_cell D1.out 25
    have x26 : V.cell? ⟨w.heap.size, 26, none⟩ = some (.int .i64 (A.f 26)) := blk_cell D1.out 26
    have y20 : V.cell? ⟨w.heap.size + 1, 20, none⟩ = some (.int .u8 (B.f 20)) := blk_cell D2.out 20
    have y21 : V.cell? ⟨w.heap.size + 1, 21, none⟩ = some (.int .i64 (B.f 21)) := blk_cell D2.out 21
    have y22 : V.cell? ⟨w.heap.size + 1, 22, none⟩ = some (.int .i64 (B.f 22)) := blk_cell D2.out 22
    have y23 : V.cell? ⟨w.heap.size + 1, 23, none⟩ = some (.int .i64 (B.f 23)) := blk_cell D2.out 23
    have y24 : V.cell? ⟨w.heap.size + 1, 24, none⟩ = some (.bool (B.g 24)) := blk_cell D2.out 24
    have y25 : V.cell? ⟨w.heap.size + 1, 25, none⟩ = some (.int .i64 (B.f 25)) := blk_cell D2.out 25
    have y26 : V.cell? ⟨w.heap.size + 1, 26, none⟩ = some (.int .i64 (B.f 26)) := blk_cell D2.out 26
    have x18 : V.cell? ⟨w.heap.size, 18, none⟩ = some (.slice ia A.I.length ic) := blk_cell D1.out 18
    have x19 : V.cell? ⟨w.heap.size, 19, none⟩ = some (.slice ka A.K.length kc) := blk_cell D1.out 19
    have y18 : V.cell? ⟨w.heap.size + 1, 18, none⟩ = some (.slice ja ni jc) := blk_cell D2.out 18
    have y19 : V.cell? ⟨w.heap.size + 1, 19, none⟩ = some (.slice la nk lc) := blk_cell D2.out 19
    have hne := neqrfE_run ⟨A.f 20, A.f 21, A.f 22, A.f 23, A.g 24, A.f 25, A.f 26⟩ ⟨B.f 20, B.f 21, B.f 22, B.f 23, B.g 24, B.f 25, B.f 26⟩
    dsimp only at hne
    by_cases h0 : refOf A = refOf B
    rotate_left
    · rw [show rfEB ⟨A.f 20, A.f 21, A.f 22, A.f 23, A.g 24, A.f 25, A.f 26⟩ ⟨B.f 20, B.f 21, B.f 22, B.f 23, B.g 24, B.f 25, B.f 26⟩ = false by rw [Bool.eq_false_iff]; intro e; exact h0 (rfEB_iff.1 e)] at hne
      obtain rfl : r = false := sameB_no HR.out (fun e => h0 e.2.2.2.2.1)
      clear h0
      go_wp2
      go_ret
      exact ⟨rfl, HBV.out⟩
    rw [show rfEB ⟨A.f 20, A.f 21, A.f 22, A.f 23, A.g 24, A.f 25, A.f 26⟩ ⟨B.f 20, B.f 21, B.f 22, B.f 23, B.g 24, B.f 25, B.f 26⟩ = true from rfEB_iff.2 h0] at hne
    have HRF := hid h0
    clear h0
    by_cases h0 : A.I.length = ni
    rotate_left
    · have q0 : ((A.I.length : Int) != (ni : Int)) = true := by simp; omega
      obtain rfl : r = false := sameB_no HR.out (fun e => h0 (by rw [e.2.2.2.2.2.1]; exact HNI.out))
      clear h0
      go_wp2
      go_ret
      exact ⟨rfl, HBV.out⟩
    subst h0
    by_cases h0 : A.K.length = nk
    rotate_left
    · have q0 : ((A.K.length : Int) != (nk : Int)) = true := by simp; omega
      obtain rfl : r = false := sameB_no HR.out (fun e => h0 (by rw [e.2.2.2.2.2.2]; exact HNK.out))
      clear h0
      go_wp2
      go_ret
      exact ⟨rfl, HBV.out⟩
    subst h0
    go_wp2
    clear hne x20 x21 x22 x23 x24 x25 x26 y20 y21 y22 y23 y24 y25 y26
    go_loopw [5] (fun i wr => ∃ k : Nat, k ≤ A.I.length ∧ i = .int .i64 k ∧ A.I.take k = B.I.take k ∧ Below V.heap.size V wr) (fun i _ => A.I.length - (intOf i).toNat)
    case atStart => exact ⟨0, Nat.zero_le _, rfl, rfl, Below.refl _ _⟩
    case round =>
      obtain ⟨k, hk, rfl, htk, hB⟩ := hrel
      have HT := hid htk
      have HB := hid hB
      have HBW := hid (HBV.out.trans (hB.mono HBV.out.size))
      have z1 := cell_below x18 hB
      have z2 := cell_below y18 hB
      have lr1 : w.heap.size < wr.heap.size := Nat.lt_of_lt_of_le l1 hB.size
      have lr2 : w.heap.size + 1 < wr.heap.size := Nat.lt_of_lt_of_le l2 hB.size
      clear htk
      by_cases hlt : k < A.I.length
      · obtain ⟨b1, o1, rfl, hb1, hr1⟩ := HIO1.out (by omega)
        obtain ⟨b2, o2, rfl, hb2, hr2⟩ := HIO2.out (by omega)
        obtain ⟨x, hx⟩ := get_lt hlt
        obtain ⟨y, hy⟩ := get_lt (show k < B.I.length by have := HNI.out; omega)
        obtain ⟨g0, g1, g2, g3⟩ := rowI (hr1.below HBW.out hb1) hx
        obtain ⟨j0, j1, j2, j3⟩ := rowI (hr2.below HBW.out hb2) hy
        have hkL : (k : Int) < (A.I.length : Int) := by omega
        have hb1w : b1 < wr.heap.size := Nat.lt_of_lt_of_le hb1 HBW.out.size
        have hb2w : b2 < wr.heap.size := Nat.lt_of_lt_of_le hb2 HBW.out.size
        have HX := hid hx
        have HY := hid hy
        have hne := neqinE_run x y
        by_cases hxy : x = y
        · rw [inEB_iff.2 hxy] at hne
          have HXY := hid hxy
          clear hx hy hr1 hr2 hB hxy x18 x19 y18 y19
          go_wp2
          go_quiet (fail)
          go_wp2
          go_roundw
          case rel => exact ⟨k + 1, by omega, by go_num, by rw [take_snoc A.I k x HX.out, take_snoc B.I k y HY.out, HT.out, HXY.out], below_drewN HB.out _⟩
          case measure => simp [intOf]; omega
        · rw [show inEB x y = false by rw [Bool.eq_false_iff]; intro e; exact hxy (inEB_iff.1 e)] at hne
          obtain rfl : r = false := sameB_no HR.out (fun e => take_ne hx hy hxy e.2.2.2.2.2.1)
          clear hx hy hr1 hr2 hB hxy x18 x19 y18 y19
          go_wp2
          go_quiet (fail)
          go_wp2
          go_ret
          exact ⟨rfl, below_drewN HBW.out _⟩
      · obtain rfl : k = A.I.length := by omega
        have HEQI := hid (show A.I = B.I by have := HT.out; rwa [List.take_length, ← HNI.out, List.take_length] at this)
        have HB2 := hid (cell_below x19 hB)
        have HB3 := hid (cell_below y19 hB)
        go_wp2
        replace x19 := HB2.out
        replace y19 := HB3.out
        replace l1 := lr1
        replace l2 := lr2
        clear z1 z2 x18 y18 hB
        go_loopw [6] (fun i wq => ∃ k : Nat, k ≤ A.K.length ∧ i = .int .i64 k ∧ A.K.take k = B.K.take k ∧ Below wr.heap.size wr wq) (fun i _ => A.K.length - (intOf i).toNat)
        case atStart => exact ⟨0, Nat.zero_le _, rfl, rfl, Below.refl _ _⟩
        case round =>
          obtain ⟨k, hk, rfl, htk, hB⟩ := hrel
          have HT := hid htk
          have HBq := hid hB
          have HBW2 := hid (HBW.out.trans (hB.mono HBW.out.size))
          have z1 := cell_below x19 hB
          have z2 := cell_below y19 hB
          have lr1 : w.heap.size < wr.heap.size := Nat.lt_of_lt_of_le l1 hB.size
          have lr2 : w.heap.size + 1 < wr.heap.size := Nat.lt_of_lt_of_le l2 hB.size
          clear htk
          by_cases hlt : k < A.K.length
          · obtain ⟨b1, o1, rfl, hb1, hr1⟩ := HKO1.out (by omega)
            obtain ⟨b2, o2, rfl, hb2, hr2⟩ := HKO2.out (by omega)
            obtain ⟨x, hx⟩ := get_lt hlt
            obtain ⟨y, hy⟩ := get_lt (show k < B.K.length by have := HNK.out; omega)
            obtain ⟨g0, g1, g2, g3, g4, g5, g6, g7⟩ := rowK (hr1.below HBW2.out hb1) hx
            obtain ⟨j0, j1, j2, j3, j4, j5, j6, j7⟩ := rowK (hr2.below HBW2.out hb2) hy
            have hkL : (k : Int) < (A.K.length : Int) := by omega
            have hb1w : b1 < wr.heap.size := Nat.lt_of_lt_of_le hb1 HBW2.out.size
            have hb2w : b2 < wr.heap.size := Nat.lt_of_lt_of_le hb2 HBW2.out.size
            have HX := hid hx
            have HY := hid hy
            have hne := neqkpE_run x y
            by_cases hxy : x = y
            · rw [kpEB_iff.2 hxy] at hne
              have HXY := hid hxy
              clear hx hy hr1 hr2 hB hxy x19 y19
              go_wp2
              go_quiet (fail)
              go_wp2
              go_roundw
              case rel => exact ⟨k + 1, by omega, by go_num, by rw [take_snoc A.K k x HX.out, take_snoc B.K k y HY.out, HT.out, HXY.out], below_drewN HBq.out _⟩
              case measure => simp [intOf]; omega
            · rw [show kpEB x y = false by rw [Bool.eq_false_iff]; intro e; exact hxy (kpEB_iff.1 e)] at hne
              obtain rfl : r = false := sameB_no HR.out (fun e => take_ne hx hy hxy e.2.2.2.2.2.2)
              clear hx hy hr1 hr2 hB hxy x19 y19
              go_wp2
              go_quiet (fail)
              go_wp2
              go_ret
              exact ⟨rfl, below_drewN HBW2.out _⟩
          · obtain rfl : k = A.K.length := by omega
            have HEQK := hid (show A.K = B.K by have := HT.out; rwa [List.take_length, ← HNK.out, List.take_length] at this)
            obtain rfl : r = true := by rw [← HR.out]; exact sameB_iff_parts.2 ⟨by rw [HA0.out, HB0.out], by rw [HA1.out, HBB1.out], by rw [HGA.out, HGB.out], HS.out, HRF.out, HEQI.out, HEQK.out⟩
            go_wp2
            go_ret
            exact ⟨rfl, HBW2.out⟩
theorem rsame13_at (A B : BrainV) (b : Bool) (hb : sameB A B = b) (m1 i1 k1 m2 i2 k2 : Value) (w : World) (hm1 : RowOf 1 encI w m1 A.M) (hi1 : RowOf 4 encIn w i1 A.I) (hk1 : RowOf 8 encKp w k1 A.K) (hm2 : RowOf 1 encI w m2 B.M) (hi2 : RowOf 4 encIn w i2 B.I) (hk2 : RowOf 8 encKp w k2 B.K) :
    Calls Tryd.prog 18 #[.agg (brT A.f A.g m1 i1 k1), .agg (brT B.f B.g m2 i2 k2)] w fun e w' => e = .returned (.bool b) ∧ Below w.heap.size w w' := by
  rw [← hb]; exact rsame13_any A B m1 i1 k1 m2 i2 k2 w hm1 hi1 hk1 hm2 hi2 hk2
end Go.Proofs.YthnigndpibgibaaDoor
