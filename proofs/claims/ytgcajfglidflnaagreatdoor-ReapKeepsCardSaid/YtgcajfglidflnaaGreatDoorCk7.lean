/- herdref07.Check of a group, exact. Printed by gn_ck7.py. -/
import Derived.Test.YtgcajfglidflnaaGreatDoorCfm
import Derived.Deep.RegionHeld3
namespace Go.Proofs.YtgcajfglidflnaaGreatDoor
open Go.RowKit Go.Shelf

set_option maxHeartbeats 400000 in
theorem within7_any (n lo hi : Int) (w : World) : Calls Tryz.prog 30 #[.int .i64 n, .int .i64 lo, .int .i64 hi] w fun e w' => e = .returned (.bool (withB n lo hi)) ∧ w = w' := by
 by_cases h1 : lo ≤ n
 ·have d1 : decide (lo ≤ n) = true := by simpa using h1
  have e0 : withB n lo hi = decide (n ≤ hi) := by simp [withB, h1]
  rw [e0]
  go_enter Tryz.func30, Tryz.ntmps30
  go_wp2
  go_ret
  exact ⟨rfl, rfl⟩
 ·have d1 : decide (lo ≤ n) = false := by simpa using h1
  have e0 : withB n lo hi = false := by simp [withB]; omega
  rw [e0]
  go_enter Tryz.func30, Tryz.ntmps30
  go_wp2
  go_ret
  exact ⟨rfl, rfl⟩
theorem within7_at (n lo hi : Int) (b : Bool) (hb : withB n lo hi = b) (w : World) : Calls Tryz.prog 30 #[.int .i64 n, .int .i64 lo, .int .i64 hi] w fun e w' => e = .returned (.bool b) ∧ w = w' := by rw [← hb]; exact within7_any n lo hi w


theorem quiet_left {P : Program} {f : FuncId} {args : Array Value} {w : World} {n : Nat} {v : Value} (h : Calls P f args (w.drewN n) fun e w' => e = .returned v ∧ w.drewN n = w') : Calls P f args (w.drewN n) fun e w'' => e = .returned v ∧ ∃ m, w'' = w.drewN m :=
 h.mono fun _ _ ⟨he, hm⟩ => ⟨he, n, hm.symm⟩
/-- Which numbers the five waits are. -/
def wIx (j : Nat) : Nat := [4, 5, 6, 7, 11].getD j 0
theorem wIx_lt {k : Nat} (h : k < 5) : wIx k < 13 := by
 match k, h with
 | 0, _ => decide
 | 1, _ => decide
 | 2, _ => decide
 | 3, _ => decide
 | 4, _ => decide
theorem wIx_lim {k : Nat} (h : k < 5) : limAt (wIx k) = (0, 20) := by
 match k, h with
 | 0, _ => rfl
 | 1, _ => rfl
 | 2, _ => rfl
 | 3, _ => rfl
 | 4, _ => rfl
theorem check_no {f : Nat → Int} {M : List Int} {i : Nat} (hi : i < 13) (h : withB (f i) (limAt i).1 (limAt i).2 = false) : checkB f M = false := by
 unfold checkB
 rw [fieldsB_no hi h]
 rfl
theorem check_long {f : Nat → Int} {M : List Int} (h : 4 < M.length) : checkB f M = false := by
 unfold checkB
 have : decide (M.length ≤ 4) = false := by simp; omega
 rw [this]
 simp
theorem check_marks {f : Nat → Int} {M : List Int} (h : marksB M = false) : checkB f M = false := by
 unfold checkB
 rw [h]
 simp
theorem fieldsB_all {f : Nat → Int} (h0 : withB (f 0) 0 6 = true) (h1 : withB (f 1) 0 100 = true) (h2 : withB (f 2) 0 3 = true) (h3 : withB (f 3) 0 3 = true) (h5 : ∀ j, j < 5 → withB (f (wIx j)) 0 20 = true)
  (h8 : withB (f 8) 1 20 = true) (h9 : withB (f 9) 1 20 = true) (h10 : withB (f 10) 1 20 = true) (h12 : withB (f 12) 1 1099511627776 = true) : fieldsB f = true := by
 unfold fieldsB
 rw [List.all_eq_true]
 intro i hi
 have hi := List.mem_range.1 hi
 match i, hi with
 | 0, _ => exact h0
 | 1, _ => exact h1
 | 2, _ => exact h2
 | 3, _ => exact h3
 | 4, _ => exact h5 0 (by decide)
 | 5, _ => exact h5 1 (by decide)
 | 6, _ => exact h5 2 (by decide)
 | 7, _ => exact h5 3 (by decide)
 | 8, _ => exact h8
 | 9, _ => exact h9
 | 10, _ => exact h10
 | 11, _ => exact h5 4 (by decide)
 | 12, _ => exact h12
set_option maxHeartbeats 400000 in
theorem floor7_any (f : Nat → Int) (g : Bool) (m : Value) (h0 : 0 ≤ f 0 ∧ f 0 ≤ 6) (h1 : 0 ≤ f 1 ∧ f 1 ≤ 100) (w : World) : Calls Tryz.prog 31 #[.agg (confA f g m)] w fun e w' => e = .returned (.int .i64 (floorC (f 0) (f 1))) ∧ Below w.heap.size w w' := by
 have Z := hid (show Below w.heap.size w (w.alloc (.cells (confA f g m) 27)) from (Below.refl _ _).alloc (Nat.le_refl _) _)
 have hm : 0 ≤ f 0 * f 1 ∧ f 0 * f 1 ≤ 600 := by
  obtain ⟨a1, a2⟩ := h0
  obtain ⟨b1, b2⟩ := h1
  exact ⟨Int.mul_nonneg a1 b1, by have := Int.mul_le_mul a2 b2 b1 (by decide); omega⟩
 unfold confA at Z ⊢
 unfold floorC
 go_enter Tryz.func31, Tryz.ntmps31
 go_wp2
 go_ret
 exact ⟨rfl, Z.out⟩
attribute [-go_sem] loadVar
attribute [local go_sem] load_other2

set_option maxHeartbeats 4000000 in
set_option maxRecDepth 100000 in
theorem check7_any (f : Nat → Int) (g : Bool) (mv : Value) (M : List Int) (w : World) (hM : RowOf 1 encI w mv M) :
  Calls Tryz.prog 14 #[.agg (confA f g mv)] w fun e w' => e = .returned (.int .i64 (okN (checkB f M))) ∧ Below w.heap.size w w' := by
 obtain ⟨r, hr⟩ : ∃ r, checkB f M = r := ⟨_, rfl⟩
 rw [hr]
 have HRR := hid hr
 clear hr
 obtain ⟨ma, mc, rfl, hm1, hm2, hm3, hop⟩ := hM.open
 have HOP := hid hop
 obtain ⟨W1, hW1⟩ : ∃ W1, W1 = (w.alloc (.cells (confA f g (.slice ma M.length mc)) 27)).alloc (.cells #[.int .i64 (f 4), .int .i64 (f 5), .int .i64 (f 6), .int .i64 (f 7), .int .i64 (f 11)] 82) := ⟨_, rfl⟩
 have hZ0 : Below w.heap.size w (w.alloc (.cells (confA f g (.slice ma M.length mc)) 27)) := (Below.refl _ _).alloc (Nat.le_refl _) _
 have hZ : Below w.heap.size w W1 := by rw [hW1]; exact hZ0.alloc (by simp) _
 have B0 := hid (show W1.heap[w.heap.size]? = some (.cells (confA f g (.slice ma M.length mc)) 27) by rw [hW1]; exact blk_alloc (heap_new _ _) _)
 have B1 := hid (show W1.heap[w.heap.size + 1]? = some (.cells #[.int .i64 (f 4), .int .i64 (f 5), .int .i64 (f 6), .int .i64 (f 7), .int .i64 (f 11)] 82) by rw [hW1]; exact heap_new2 _ _ _)
 have hsz : W1.heap.size = w.heap.size + 2 := by rw [hW1]; simp
 have Z0 := hid hZ0
 have Z := hid hZ
 have HW := hid hW1
 clear hop hZ0 hZ hM hW1
 obtain ⟨b1, hb1⟩ : ∃ b, withB (f 0) 0 6 = b := ⟨_, rfl⟩
 have HB1 := hid hb1
 clear hb1
 obtain ⟨b2, hb2⟩ : ∃ b, withB (f 1) 0 100 = b := ⟨_, rfl⟩
 have HB2 := hid hb2
 clear hb2
 obtain ⟨b3, hb3⟩ : ∃ b, withB (f 2) 0 3 = b := ⟨_, rfl⟩
 have HB3 := hid hb3
 clear hb3
 obtain ⟨b4, hb4⟩ : ∃ b, withB (f 3) 0 3 = b := ⟨_, rfl⟩
 have HB4 := hid hb4
 clear hb4
 unfold confA
 go_enter Tryz.func14, Tryz.ntmps14
 go_wp2_with fail
 refine (within7_at _ _ _ b1 HB1.out _).mono ?_
 rintro e w1 ⟨rfl, rfl⟩
 cases b1 with
 | false =>
  go_wp2
  go_ret
  exact ⟨by rw [show r = false by rw [← HRR.out]; exact check_no (i := 0) (by decide) HB1.out]; rfl, Z0.out⟩
 | true =>
  go_wp2_with fail
  refine (within7_at _ _ _ b2 HB2.out _).mono ?_
  rintro e w1 ⟨rfl, rfl⟩
  cases b2 with
  | false =>
   go_wp2
   go_ret
   exact ⟨by rw [show r = false by rw [← HRR.out]; exact check_no (i := 1) (by decide) HB2.out]; rfl, Z0.out⟩
  | true =>
   go_wp2_with fail
   refine (within7_at _ _ _ b3 HB3.out _).mono ?_
   rintro e w1 ⟨rfl, rfl⟩
   cases b3 with
   | false =>
    go_wp2
    go_ret
    exact ⟨by rw [show r = false by rw [← HRR.out]; exact check_no (i := 2) (by decide) HB3.out]; rfl, Z0.out⟩
   | true =>
    go_wp2_with fail
    refine (within7_at _ _ _ b4 HB4.out _).mono ?_
    rintro e w1 ⟨rfl, rfl⟩
    cases b4 with
    | false =>
     go_wp2
     go_ret
     exact ⟨by rw [show r = false by rw [← HRR.out]; exact check_no (i := 3) (by decide) HB4.out]; rfl, Z0.out⟩
    | true =>
     go_wp2_with fail
     rw [← (show W1 = (w.alloc (.cells #[.int .i64 (f 0), .int .i64 (f 1), .int .i64 (f 2), .int .i64 (f 3), .int .i64 (f 4), .int .i64 (f 5), .int .i64 (f 6), .int .i64 (f 7), .int .i64 (f 8), .int .i64 (f 9), .int .i64 (f 10), .int .i64 (f 11), .int .i64 (f 12), .bool g, .slice ma M.length mc] 27)).alloc (.cells #[.int .i64 (f 4), .int .i64 (f 5), .int .i64 (f 6), .int .i64 (f 7), .int .i64 (f 11)] 82) from HW.out)]
     go_loopw [4] (fun i wr => ∃ k : Nat, k ≤ 5 ∧ i = .int .i64 k ∧ (∀ j, j < k → withB (f (wIx j)) 0 20 = true) ∧ wr = W1) (fun i _ => 5 - (intOf i).toNat)
     case atStart => exact ⟨0, by omega, rfl, fun j hj => absurd hj (by omega), rfl⟩
     case round =>
      obtain ⟨k, hk, rfl, h5, rfl⟩ := hrel
      have H5 := hid h5
      clear h5
      by_cases hlt : k < 5
      ·obtain ⟨x, hxf, hx⟩ : ∃ x, f (wIx k) = x ∧ wr.cell? ⟨w.heap.size + 1, k, none⟩ = some (.int .i64 x) := by
        match k, hlt with
        | 0, _ => exact ⟨_, rfl, blk_cell B1.out 0⟩
        | 1, _ => exact ⟨_, rfl, blk_cell B1.out 1⟩
        | 2, _ => exact ⟨_, rfl, blk_cell B1.out 2⟩
        | 3, _ => exact ⟨_, rfl, blk_cell B1.out 3⟩
        | 4, _ => exact ⟨_, rfl, blk_cell B1.out 4⟩
       have HXF := hid hxf
       clear hxf
       have hk5 : (k : Int) < 5 := by omega
       obtain ⟨b, hb⟩ : ∃ b, withB x 0 20 = b := ⟨_, rfl⟩
       have HB := hid hb
       clear hb
       go_wp2_with fail
       refine (within7_at _ _ _ b HB.out _).mono ?_
       rintro e w1 ⟨rfl, rfl⟩
       cases b with
       | false =>
        go_wp2
        go_ret
        exact ⟨by rw [show r = false by rw [← HRR.out]; exact check_no (i := wIx k) (wIx_lt hlt) (by rw [wIx_lim hlt, HXF.out]; exact HB.out)]; rfl, Z.out⟩
       | true =>
        go_wp2
        go_roundw
        case rel => exact ⟨k + 1, by omega, by go_num, (fun j hj => by
         rcases Nat.lt_succ_iff_lt_or_eq.1 hj with h | h
         ·exact H5.out j h
         ·rw [h, HXF.out]; exact HB.out), by first | rfl | trivial⟩
        case measure => simp [intOf]; omega
      ·obtain rfl : k = 5 := by omega
       obtain ⟨b5, hb5⟩ : ∃ b, withB (f 8) 1 20 = b := ⟨_, rfl⟩
       have HB5 := hid hb5
       clear hb5
       obtain ⟨b6, hb6⟩ : ∃ b, withB (f 9) 1 20 = b := ⟨_, rfl⟩
       have HB6 := hid hb6
       clear hb6
       obtain ⟨b7, hb7⟩ : ∃ b, withB (f 10) 1 20 = b := ⟨_, rfl⟩
       have HB7 := hid hb7
       clear hb7
       obtain ⟨b8, hb8⟩ : ∃ b, withB (f 12) 1 1099511627776 = b := ⟨_, rfl⟩
       have HB8 := hid hb8
       clear hb8
       have x0 := blk_cell B0.out 0
       have x2 := blk_cell B0.out 2
       have x8 := blk_cell B0.out 8
       have x9 := blk_cell B0.out 9
       have x10 := blk_cell B0.out 10
       have x12 := blk_cell B0.out 12
       have x14 := blk_cell B0.out 14
       simp only [confA, List.getElem?_toArray, List.getElem?_cons_succ, List.getElem?_cons_zero] at x0 x2 x8 x9 x10 x12 x14
       have xl : w.heap.size < wr.heap.size := by omega
       go_wp2_with fail
       refine (within7_at _ _ _ b5 HB5.out _).mono ?_
       rintro e w1 ⟨rfl, rfl⟩
       cases b5 with
       | false =>
        go_wp2
        go_ret
        exact ⟨by rw [show r = false by rw [← HRR.out]; exact check_no (i := 8) (by decide) HB5.out]; rfl, Z.out⟩
       | true =>
        go_wp2_with fail
        refine (within7_at _ _ _ b6 HB6.out _).mono ?_
        rintro e w1 ⟨rfl, rfl⟩
        cases b6 with
        | false =>
         go_wp2
         go_ret
         exact ⟨by rw [show r = false by rw [← HRR.out]; exact check_no (i := 9) (by decide) HB6.out]; rfl, Z.out⟩
        | true =>
         go_wp2_with fail
         refine (within7_at _ _ _ b7 HB7.out _).mono ?_
         rintro e w1 ⟨rfl, rfl⟩
         cases b7 with
         | false =>
          go_wp2
          go_ret
          exact ⟨by rw [show r = false by rw [← HRR.out]; exact check_no (i := 10) (by decide) HB7.out]; rfl, Z.out⟩
         | true =>
          go_wp2_with fail
          refine (within7_at _ _ _ b8 HB8.out _).mono ?_
          rintro e w1 ⟨rfl, rfl⟩
          cases b8 with
          | false =>
           go_wp2
           go_ret
           exact ⟨by rw [show r = false by rw [← HRR.out]; exact check_no (i := 12) (by decide) HB8.out]; rfl, Z.out⟩
          | true =>
           by_cases hm4 : 4 < M.length
           ·go_wp2
            go_ret
            exact ⟨by rw [show r = false by rw [← HRR.out]; exact check_long hm4]; rfl, Z.out⟩
           ·have hml : (M.length : Int) ≤ 4 := by omega
            obtain ⟨wa, rfl⟩ : ∃ wo : World, wo = wr := ⟨_, rfl⟩
            go_wp2_with fail
            clear x0 x2 x8 x9 x10 x12
            go_loopw [5] (fun i wr => ∃ k : Nat, k ≤ M.length ∧ i = .int .i64 k ∧ marksB (M.take k) = true ∧ Below wa.heap.size wa wr) (fun i _ => M.length - (intOf i).toNat)
            case atStart => exact ⟨0, by omega, rfl, by rw [List.take_zero]; exact marksB_nil, Below.refl _ _⟩
            case round =>
             obtain ⟨k, hk, rfl, hmk, hB⟩ := hrel
             have HMK := hid hmk
             clear hmk
             have HB := hid hB
             have hz1 := hB.size
             have y14 := cell_below x14 hB
             have HZ := hid (Z.out.trans (hB.mono Z.out.size))
             clear x14
             by_cases hlt : k < M.length
             ·obtain ⟨mb, mo, rfl, hmb, hmr⟩ := HOP.out (by omega)
              obtain ⟨x, hx⟩ := get_lt hlt
              have m1 := cell_below (cell_below (rowN1 hmr hx) Z.out) hB
              obtain ⟨b, hb⟩ : ∃ b, withB x 1 100 = b := ⟨_, rfl⟩
              have HBB := hid hb
              have hkL : (k : Int) < (M.length : Int) := by omega
              have hmz : mb < wr.heap.size := by omega
              have HX := hid hx
              clear hB hb hx
              by_cases hk0 : k = 0
              ·subst hk0
               have hkL0 : (0 : Int) < (M.length : Int) := by omega
               have m10 : wr.cell? ⟨mb, mo, none⟩ = some (.int .i64 x) := by simpa using m1
               have hkL0 : (0 : Int) < (M.length : Int) := by omega
               have m10 : wr.cell? ⟨mb, mo, none⟩ = some (.int .i64 x) := by simpa using m1
               have f3 : decide (0 < (0 : Nat)) = false := by simp
               cases b with
               | false =>
                go_wp2
                go_quiet ((go_at_call 30; exact quiet_left (within7_at _ _ _ false HBB.out _)))
                go_wp2
                go_ret
                exact ⟨by rw [show r = false by rw [← HRR.out]; exact check_marks (marksB_bad HX.out (.inl HBB.out))]; rfl, below_drewN HZ.out _⟩
               | true =>
                go_wp2
                go_quiet ((go_at_call 30; exact quiet_left (within7_at _ _ _ true HBB.out _)))
                go_wp2
                go_roundw
                case rel => exact ⟨1, by omega, by go_num, marksB_next HX.out HMK.out HBB.out (fun y h => absurd h (by omega)), below_drewN HB.out _⟩
                case measure => simp [intOf]; omega
              ·obtain ⟨j, rfl⟩ : ∃ j, k = j + 1 := ⟨k - 1, by omega⟩
               obtain ⟨y, hy⟩ := get_lt (show j < M.length by omega)
               have m2 := cell_below (cell_below (rowN1 hmr hy) Z.out) HB.out
               have f3 : decide (0 < j + 1) = true := by simp
               have s1 : IntKind.i64.wrap (((j + 1 : Nat) : Int) - 1) = (j : Int) := by rw [show (((j + 1 : Nat) : Int) - 1) = (j : Int) by omega]; exact IntWalk.i64_in _ (by omega)
               have s2 : (j : Int) < (M.length : Int) := by omega
               have HY := hid hy
               clear hy hmr
               cases b with
               | false =>
                go_wp2
                go_quiet ((go_at_call 30; exact quiet_left (within7_at _ _ _ false HBB.out _)))
                go_wp2
                go_ret
                exact ⟨by rw [show r = false by rw [← HRR.out]; exact check_marks (marksB_bad HX.out (.inl HBB.out))]; rfl, below_drewN HZ.out _⟩
               | true =>
                by_cases hyx : x ≤ y
                ·go_wp2
                 go_quiet ((go_at_call 30; exact quiet_left (within7_at _ _ _ true HBB.out _)))
                 go_wp2
                 go_ret
                 exact ⟨by rw [show r = false by rw [← HRR.out]; exact check_marks (marksB_bad HX.out (.inr ⟨y, by omega, HY.out, hyx⟩))]; rfl, below_drewN HZ.out _⟩
                ·have HYX := hid (show y < x by omega)
                 have f4 : decide (x ≤ y) = false := by simp; omega
                 clear hyx
                 go_wp2
                 go_quiet ((go_at_call 30; exact quiet_left (within7_at _ _ _ true HBB.out _)))
                 go_wp2
                 go_roundw
                 case rel => exact ⟨j + 1 + 1, by omega, by go_num, marksB_next HX.out HMK.out HBB.out (fun z _ hz => by have e := HY.out.symm.trans hz; cases e; exact HYX.out), below_drewN HB.out _⟩
                 case measure => simp [intOf]; omega
             ·obtain rfl : k = M.length := by omega
              have BW := hid (blk_below B0.out HB.out (blk_lt B0.out))
              have C0 := hid (blk_cell BW.out 0)
              have C2 := hid (blk_cell BW.out 2)
              have xlr := blk_lt BW.out
              simp only [confA, List.getElem?_toArray, List.getElem?_cons_succ, List.getElem?_cons_zero] at C0 C2
              have HALL := hid (show ∀ W, Below wr.heap.size wr W → Below wr.heap.size wr W ∧ W.cell? ⟨w.heap.size, 0, none⟩ = some (.int .i64 (f 0)) ∧ W.cell? ⟨w.heap.size, 2, none⟩ = some (.int .i64 (f 2)) ∧ (loadVar 27 ⟨w.heap.size, 0, none⟩).run Tryz.prog W = .ok (.agg (confA f g (.slice ma M.length mc))) W from fun W hb => ⟨hb, cell_below C0.out hb, cell_below C2.out hb, load_conf (blk_below BW.out hb (blk_lt BW.out))⟩)
              clear hB
              have hfl := fieldsB_all HB1.out HB2.out HB3.out HB4.out (fun j hj => H5.out j hj) HB5.out HB6.out HB7.out HB8.out
              have hmm : marksB M = true := by have := HMK.out; rwa [List.take_length] at this
              have HEND := hid (show r = (f 0 == 0 || decide (floorC (f 0) (f 1) < f 2 + f 0)) by rw [← HRR.out]; unfold checkB; rw [hfl, hmm]; simp; omega)
              have q0 := fieldsB_at hfl (i := 0) (by decide)
              have q1 := fieldsB_at hfl (i := 1) (by decide)
              have q2 := fieldsB_at hfl (i := 2) (by decide)
              have q0 : 0 ≤ f 0 ∧ f 0 ≤ 6 := q0
              have q1 : 0 ≤ f 1 ∧ f 1 ≤ 100 := q1
              have q2 : 0 ≤ f 2 ∧ f 2 ≤ 3 := q2
              by_cases hf0 : 0 < f 0
              ·have d0 : decide (0 < f 0) = true := by simpa using hf0
               have hne : (f 0 == 0) = false := by simp; omega
               rw [hne, Bool.false_or] at HEND
               have HFL := hid (fun V => floor7_any f g (.slice ma M.length mc) q0 q1 V)
               have hfb : 0 ≤ floorC (f 0) (f 1) ∧ floorC (f 0) (f 1) ≤ 10 := by
                unfold floorC
                have : 0 ≤ f 0 * f 1 ∧ f 0 * f 1 ≤ 600 := ⟨Int.mul_nonneg q0.1 q1.1, by have := Int.mul_le_mul q0.2 q1.2 q1.1 (by decide); omega⟩
                omega
               obtain ⟨fl, hfe⟩ : ∃ fl, floorC (f 0) (f 1) = fl := ⟨_, rfl⟩
               rw [hfe] at HEND HFL hfb
               have s1 : IntKind.i64.wrap (f 2 + f 0) = f 2 + f 0 := IntWalk.i64_in _ (by omega)
               have s2 : IntKind.i64.wrap (f 2 + f 0 - fl) = f 2 + f 0 - fl := IntWalk.i64_in _ (by omega)
               clear hf0 hfl hmm
               obtain ⟨q, hq⟩ : ∃ q, decide (f 2 + f 0 - fl < 1) = q := ⟨_, rfl⟩
               have HQ := hid (show r = !q by rw [← hq, HEND.out]; by_cases h : fl < f 2 + f 0 <;> simp [h] <;> omega)
               go_wp2_with fail
               go_region_held3 (fun W => Below wr.heap.size wr W ∧ W.cell? ⟨w.heap.size, 0, none⟩ = some (.int .i64 (f 0)) ∧ W.cell? ⟨w.heap.size, 2, none⟩ = some (.int .i64 (f 2)) ∧ (loadVar 27 ⟨w.heap.size, 0, none⟩).run Tryz.prog W = .ok (.agg (confA f g (.slice ma M.length mc))) W) (first | exact HALL.out _ (below_drewN (Below.refl _ _) 1) | (go_split_ands; exact HALL.out _ (below_call (by assumption) hbt)) | (go_split_ands; exact HALL.out _ (below_alloc (by assumption) _))) ((go_at_call 31; go_split_ands; refine (HFL.out _).mono ?_; rintro e x1 ⟨rfl, hbt⟩))
               go_split_ands
               have hend := HZ.out.trans (Below.mono (show Below wr.heap.size wr x1 by assumption) HZ.out.size)
               have HE := hid hend
               cases q
               all_goals
                go_wp2
                go_ret
                exact ⟨by rw [HQ.out]; rfl, HE.out⟩
              ·have d0 : decide (0 < f 0) = false := by simpa using hf0
               have c0 := C0.out
               have c2 := C2.out
               have hz : f 0 = 0 := by omega
               have HT := hid (show r = true by rw [HEND.out, hz]; rfl)
               clear hf0 hfl hmm hz q0 q1 q2
               go_wp2
               go_quiet (fail)
               go_wp2
               go_ret
               exact ⟨by rw [HT.out]; rfl, below_drewN HZ.out _⟩
end Go.Proofs.YtgcajfglidflnaaGreatDoor
