import Derived.Test.YtljmhmdpihpafaaDoorRfr
import Derived.Test.YtljmhmdpihpafaaDoorBr
import Derived.Deep.MidRow
import Derived.Deep.RegionHeld3
/- The reference's Check of a group: it ends, whatever the group. -/
namespace Go.Proofs.YtljmhmdpihpafaaDoor
open Go.RowKit Go.Shelf

def encI (x : Int) : List Value := [.int .i64 x]
def withB (n lo hi : Int) : Bool := decide (lo ≤ n ∧ n ≤ hi)
set_option maxHeartbeats 400000 in
theorem within_any (n lo hi : Int) (w : World) : Calls Tryd.prog 29 #[.int .i64 n, .int .i64 lo, .int .i64 hi] w fun e w' => e = .returned (.bool (withB n lo hi)) ∧ w = w' := by
  by_cases h1 : lo ≤ n
  · have d1 : decide (lo ≤ n) = true := by simpa using h1
    have e0 : withB n lo hi = decide (n ≤ hi) := by simp [withB, h1]
    rw [e0]
    go_enter Tryd.func29, Tryd.ntmps29
    go_wp2
    go_ret
    exact ⟨rfl, rfl⟩
  · have d1 : decide (lo ≤ n) = false := by simpa using h1
    have e0 : withB n lo hi = false := by simp [withB]; omega
    rw [e0]
    go_enter Tryd.func29, Tryd.ntmps29
    go_wp2
    go_ret
    exact ⟨rfl, rfl⟩
theorem within_at (n lo hi : Int) (b : Bool) (hb : withB n lo hi = b) (w : World) : Calls Tryd.prog 29 #[.int .i64 n, .int .i64 lo, .int .i64 hi] w fun e w' => e = .returned (.bool b) ∧ w = w' := by rw [← hb]; exact within_any n lo hi w

/-- A group's cells. -/
def confA (f : Nat → Int) (g : Bool) (m : Value) : Array Value := #[.int .i64 (f 0), .int .i64 (f 1), .int .i64 (f 2), .int .i64 (f 3), .int .i64 (f 4), .int .i64 (f 5), .int .i64 (f 6), .int .i64 (f 7), .int .i64 (f 8), .int .i64 (f 9), .int .i64 (f 10), .int .i64 (f 11), .int .i64 (f 12), .bool g, m]
/-- It ends with a number. -/
def SomeN (e : Ending) : Prop := ∃ n : Int, e = .returned (.int .i64 n)
set_option maxHeartbeats 400000 in
theorem floor_any (f : Nat → Int) (g : Bool) (m : Value) (w : World) : Calls Tryd.prog 30 #[.agg (confA f g m)] w fun e w' => SomeN e ∧ Below w.heap.size w w' := by
  unfold confA
  go_enter Tryd.func30, Tryd.ntmps30
  go_wp2
  go_ret
  exact ⟨⟨_, rfl⟩, (Below.refl _ _).alloc (Nat.le_refl _) _⟩
theorem conf_size (f : Nat → Int) (g : Bool) (m : Value) : (Tryd.prog.info? 24).map (·.size) = some (confA f g m).size := by rw [show (confA f g m).size = 15 from rfl]; kernel_rfl
theorem conf_under : Tryd.prog.underlying 24 = some (.struct (Tryd.prog.fieldsOf 24)) := by kernel_rfl
theorem load_conf {W : World} {b : Nat} {t : TypeId} {f : Nat → Int} {g : Bool} {m : Value} (h : W.heap[b]? = some (.cells (confA f g m) t)) : (loadVar 24 ⟨b, 0, none⟩).run Tryd.prog W = .ok (.agg (confA f g m)) W :=
  run_loadVar_row W b t 24 _ _ _ h conf_under rfl (conf_size f g m)
theorem load_other2 (t : TypeId) (a : Addr) (_h : t ≠ 24) : loadVar t a = isAgg t >>= fun b => if b = true then sizeOf t >>= fun n => loadCells a n >>= fun c => pure (.agg c) else load a := by unfold loadVar; rfl
theorem rowN1 {w : World} {b off : Nat} {l : List Int} (h : RowAt 1 encI w b off l) {i : Nat} {x : Int} (hi : l[i]? = some x) : w.cell? ⟨b, off + i, none⟩ = some (.int .i64 x) := by
  have := h i x hi 0 _ rfl
  simpa using this
end Go.Proofs.YtljmhmdpihpafaaDoor

/- The reference's Check of a group: it ends with a number. -/
namespace Go.Proofs.YtljmhmdpihpafaaDoor
open Go.RowKit Go.Shelf
attribute [-go_sem] loadVar
attribute [local go_sem] load_other2

set_option maxHeartbeats 4000000 in
set_option maxRecDepth 100000 in
theorem check_conf (f : Nat → Int) (g : Bool) (mv : Value) (M : List Int) (w : World) (hM : RowOf 1 encI w mv M) :
    Calls Tryd.prog 17 #[.agg (confA f g mv)] w fun e w' => SomeN e ∧ Below w.heap.size w w' := by
  obtain ⟨ma, mc, rfl, hm1, hm2, hm3, hop⟩ := hM.open
  have HOP := hid hop
  obtain ⟨W1, hW1⟩ : ∃ W1, W1 = (w.alloc (.cells (confA f g (.slice ma M.length mc)) 24)).alloc (.cells #[.int .i64 (f 4), .int .i64 (f 5), .int .i64 (f 6), .int .i64 (f 7), .int .i64 (f 11)] 78) := ⟨_, rfl⟩
  have hZ0 : Below w.heap.size w (w.alloc (.cells (confA f g (.slice ma M.length mc)) 24)) := (Below.refl _ _).alloc (Nat.le_refl _) _
  have hZ : Below w.heap.size w W1 := by rw [hW1]; exact hZ0.alloc (by simp) _
  have B0 := hid (show W1.heap[w.heap.size]? = some (.cells (confA f g (.slice ma M.length mc)) 24) by rw [hW1]; exact blk_alloc (heap_new _ _) _)
  have B1 := hid (show W1.heap[w.heap.size + 1]? = some (.cells #[.int .i64 (f 4), .int .i64 (f 5), .int .i64 (f 6), .int .i64 (f 7), .int .i64 (f 11)] 78) by rw [hW1]; exact heap_new2 _ _ _)
  have hsz : W1.heap.size = w.heap.size + 2 := by rw [hW1]; simp
  have Z0 := hid hZ0
  have Z := hid hZ
  have HW := hid hW1
  clear hop hZ0 hZ hM hW1
  obtain ⟨b1, hb1⟩ : ∃ b, withB (f 0) 0 6 = b := ⟨_, rfl⟩
  have HB1 := hid hb1
  clear hb1
  obtain ⟨b2, hb2⟩ : ∃ b, withB (f 1) 0 100 = b := ⟨_, rfl⟩
  have HB2 := hid hb2
  clear hb2
  obtain ⟨b3, hb3⟩ : ∃ b, withB (f 2) 0 3 = b := ⟨_, rfl⟩
  have HB3 := hid hb3
  clear hb3
  obtain ⟨b4, hb4⟩ : ∃ b, withB (f 3) 0 3 = b := ⟨_, rfl⟩
  have HB4 := hid hb4
  clear hb4
  unfold confA
  go_enter Tryd.func17, Tryd.ntmps17
  go_wp2_with fail
  refine (within_at _ _ _ b1 HB1.out _).mono ?_
  rintro e w1 ⟨rfl, rfl⟩
  cases b1 with
  | false =>
    go_wp2
    go_ret
    exact ⟨⟨_, rfl⟩, Z0.out⟩
  | true =>
    go_wp2_with fail
    refine (within_at _ _ _ b2 HB2.out _).mono ?_
    rintro e w1 ⟨rfl, rfl⟩
    cases b2 with
    | false =>
      go_wp2
      go_ret
      exact ⟨⟨_, rfl⟩, Z0.out⟩
    | true =>
      go_wp2_with fail
      refine (within_at _ _ _ b3 HB3.out _).mono ?_
      rintro e w1 ⟨rfl, rfl⟩
      cases b3 with
      | false =>
        go_wp2
        go_ret
        exact ⟨⟨_, rfl⟩, Z0.out⟩
      | true =>
        go_wp2_with fail
        refine (within_at _ _ _ b4 HB4.out _).mono ?_
        rintro e w1 ⟨rfl, rfl⟩
        cases b4 with
        | false =>
          go_wp2
          go_ret
          exact ⟨⟨_, rfl⟩, Z0.out⟩
        | true =>
          go_wp2_with fail
          rw [← (show W1 = (w.alloc (.cells #[.int .i64 (f 0), .int .i64 (f 1), .int .i64 (f 2), .int .i64 (f 3), .int .i64 (f 4), .int .i64 (f 5), .int .i64 (f 6), .int .i64 (f 7), .int .i64 (f 8), .int .i64 (f 9), .int .i64 (f 10), .int .i64 (f 11), .int .i64 (f 12), .bool g, .slice ma M.length mc] 24)).alloc (.cells #[.int .i64 (f 4), .int .i64 (f 5), .int .i64 (f 6), .int .i64 (f 7), .int .i64 (f 11)] 78) from HW.out)]
          go_loopw [4] (fun i wr => ∃ k : Nat, k ≤ 5 ∧ i = .int .i64 k ∧ wr = W1) (fun i _ => 5 - (intOf i).toNat)
          case atStart => exact ⟨0, by omega, rfl, rfl⟩
          case round =>
            obtain ⟨k, hk, rfl, rfl⟩ := hrel
            by_cases hlt : k < 5
            · obtain ⟨x, hx⟩ : ∃ x, wr.cell? ⟨w.heap.size + 1, k, none⟩ = some (.int .i64 x) := by
                match k, hlt with
                | 0, _ => exact ⟨_, blk_cell B1.out 0⟩
                | 1, _ => exact ⟨_, blk_cell B1.out 1⟩
                | 2, _ => exact ⟨_, blk_cell B1.out 2⟩
                | 3, _ => exact ⟨_, blk_cell B1.out 3⟩
                | 4, _ => exact ⟨_, blk_cell B1.out 4⟩
              have hk5 : (k : Int) < 5 := by omega
              obtain ⟨b, hb⟩ : ∃ b, withB x 0 20 = b := ⟨_, rfl⟩
              have HB := hid hb
              clear hb
              go_wp2_with fail
              refine (within_at _ _ _ b HB.out _).mono ?_
              rintro e w1 ⟨rfl, rfl⟩
              cases b with
              | false =>
                go_wp2
                go_ret
                exact ⟨⟨_, rfl⟩, Z.out⟩
              | true =>
                go_wp2
                go_roundw
                case rel => exact ⟨k + 1, by omega, by go_num, by first | rfl | trivial⟩
                case measure => simp [intOf]; omega
            · obtain rfl : k = 5 := by omega
              obtain ⟨b5, hb5⟩ : ∃ b, withB (f 8) 1 20 = b := ⟨_, rfl⟩
              have HB5 := hid hb5
              clear hb5
              obtain ⟨b6, hb6⟩ : ∃ b, withB (f 9) 1 20 = b := ⟨_, rfl⟩
              have HB6 := hid hb6
              clear hb6
              obtain ⟨b7, hb7⟩ : ∃ b, withB (f 10) 1 20 = b := ⟨_, rfl⟩
              have HB7 := hid hb7
              clear hb7
              obtain ⟨b8, hb8⟩ : ∃ b, withB (f 12) 1 1099511627776 = b := ⟨_, rfl⟩
              have HB8 := hid hb8
              clear hb8
              have x0 := blk_cell B0.out 0
              have x2 := blk_cell B0.out 2
              have x8 := blk_cell B0.out 8
              have x9 := blk_cell B0.out 9
              have x10 := blk_cell B0.out 10
              have x12 := blk_cell B0.out 12
              have x14 := blk_cell B0.out 14
              simp only [confA, List.getElem?_toArray, List.getElem?_cons_succ, List.getElem?_cons_zero] at x0 x2 x8 x9 x10 x12 x14
              have xl : w.heap.size < wr.heap.size := by omega
              go_wp2_with fail
              refine (within_at _ _ _ b5 HB5.out _).mono ?_
              rintro e w1 ⟨rfl, rfl⟩
              cases b5 with
              | false =>
                go_wp2
                go_ret
                exact ⟨⟨_, rfl⟩, Z.out⟩
              | true =>
                go_wp2_with fail
                refine (within_at _ _ _ b6 HB6.out _).mono ?_
                rintro e w1 ⟨rfl, rfl⟩
                cases b6 with
                | false =>
                  go_wp2
                  go_ret
                  exact ⟨⟨_, rfl⟩, Z.out⟩
                | true =>
                  go_wp2_with fail
                  refine (within_at _ _ _ b7 HB7.out _).mono ?_
                  rintro e w1 ⟨rfl, rfl⟩
                  cases b7 with
                  | false =>
                    go_wp2
                    go_ret
                    exact ⟨⟨_, rfl⟩, Z.out⟩
                  | true =>
                    go_wp2_with fail
                    refine (within_at _ _ _ b8 HB8.out _).mono ?_
                    rintro e w1 ⟨rfl, rfl⟩
                    cases b8 with
                    | false =>
                      go_wp2
                      go_ret
                      exact ⟨⟨_, rfl⟩, Z.out⟩
                    | true =>
                      by_cases hm4 : 4 < M.length
                      · go_wp2
                        go_ret
                        exact ⟨⟨_, rfl⟩, Z.out⟩
                      · have hml : (M.length : Int) ≤ 4 := by omega
                        obtain ⟨wa, rfl⟩ : ∃ wo : World, wo = wr := ⟨_, rfl⟩
                        go_wp2_with fail
                        clear x0 x2 x8 x9 x10 x12
                        go_loopw [5] (fun i wr => ∃ k : Nat, k ≤ M.length ∧ i = .int .i64 k ∧ Below wa.heap.size wa wr) (fun i _ => M.length - (intOf i).toNat)
                        case atStart => exact ⟨0, by omega, rfl, Below.refl _ _⟩
                        case round =>
                          obtain ⟨k, hk, rfl, hB⟩ := hrel
                          have HB := hid hB
                          have hz1 := hB.size
                          have y14 := cell_below x14 hB
                          have HZ := hid (Z.out.trans (hB.mono Z.out.size))
                          clear x14
                          by_cases hlt : k < M.length
                          · obtain ⟨mb, mo, rfl, hmb, hmr⟩ := HOP.out (by omega)
                            obtain ⟨x, hx⟩ := get_lt hlt
                            have m1 := cell_below (cell_below (rowN1 hmr hx) Z.out) hB
                            obtain ⟨b, hb⟩ : ∃ b, withB x 1 100 = b := ⟨_, rfl⟩
                            have HBB := hid hb
                            have hkL : (k : Int) < (M.length : Int) := by omega
                            have hmz : mb < wr.heap.size := by omega
                            clear hB hb hx
                            by_cases hk0 : k = 0
                            · subst hk0
                              have hkL0 : (0 : Int) < (M.length : Int) := by omega
                              have m10 : wr.cell? ⟨mb, mo, none⟩ = some (.int .i64 x) := by simpa using m1
                              have hkL0 : (0 : Int) < (M.length : Int) := by omega
                              have m10 : wr.cell? ⟨mb, mo, none⟩ = some (.int .i64 x) := by simpa using m1
                              have f3 : decide (0 < (0 : Nat)) = false := by simp
                              cases b with
                              | false =>
                                go_wp2
                                go_quiet ((go_at_call 29; exact quiet_left (within_at _ _ _ false HBB.out _)))
                                go_wp2
                                go_ret
                                exact ⟨⟨_, rfl⟩, below_drewN HZ.out _⟩
                              | true =>
                                go_wp2
                                go_quiet ((go_at_call 29; exact quiet_left (within_at _ _ _ true HBB.out _)))
                                go_wp2
                                go_roundw
                                case rel => exact ⟨1, by omega, by go_num, below_drewN HB.out _⟩
                                case measure => simp [intOf]; omega
                            · obtain ⟨j, rfl⟩ : ∃ j, k = j + 1 := ⟨k - 1, by omega⟩
                              obtain ⟨y, hy⟩ := get_lt (show j < M.length by omega)
                              have m2 := cell_below (cell_below (rowN1 hmr hy) Z.out) HB.out
                              have f3 : decide (0 < j + 1) = true := by simp
                              have s1 : IntKind.i64.wrap (((j + 1 : Nat) : Int) - 1) = (j : Int) := by rw [show (((j + 1 : Nat) : Int) - 1) = (j : Int) by omega]; exact IntWalk.i64_in _ (by omega)
                              have s2 : (j : Int) < (M.length : Int) := by omega
                              clear hy hmr
                              cases b with
                              | false =>
                                go_wp2
                                go_quiet ((go_at_call 29; exact quiet_left (within_at _ _ _ false HBB.out _)))
                                go_wp2
                                go_ret
                                exact ⟨⟨_, rfl⟩, below_drewN HZ.out _⟩
                              | true =>
                                by_cases hyx : x ≤ y
                                · go_wp2
                                  go_quiet ((go_at_call 29; exact quiet_left (within_at _ _ _ true HBB.out _)))
                                  go_wp2
                                  go_ret
                                  exact ⟨⟨_, rfl⟩, below_drewN HZ.out _⟩
                                · have f4 : decide (x ≤ y) = false := by simp; omega
                                  clear hyx
                                  go_wp2
                                  go_quiet ((go_at_call 29; exact quiet_left (within_at _ _ _ true HBB.out _)))
                                  go_wp2
                                  go_roundw
                                  case rel => exact ⟨j + 1 + 1, by omega, by go_num, below_drewN HB.out _⟩
                                  case measure => simp [intOf]; omega
                          · obtain rfl : k = M.length := by omega
                            have BW := hid (blk_below B0.out HB.out (blk_lt B0.out))
                            have C0 := hid (blk_cell BW.out 0)
                            have C2 := hid (blk_cell BW.out 2)
                            have xlr := blk_lt BW.out
                            simp only [confA, List.getElem?_toArray, List.getElem?_cons_succ, List.getElem?_cons_zero] at C0 C2
                            have HALL := hid (show ∀ W, Below wr.heap.size wr W → Below wr.heap.size wr W ∧ W.cell? ⟨w.heap.size, 0, none⟩ = some (.int .i64 (f 0)) ∧ W.cell? ⟨w.heap.size, 2, none⟩ = some (.int .i64 (f 2)) ∧ (loadVar 24 ⟨w.heap.size, 0, none⟩).run Tryd.prog W = .ok (.agg (confA f g (.slice ma M.length mc))) W from fun W hb => ⟨hb, cell_below C0.out hb, cell_below C2.out hb, load_conf (blk_below BW.out hb (blk_lt BW.out))⟩)
                            clear hB
                            by_cases hf0 : 0 < f 0
                            · have d0 : decide (0 < f 0) = true := by simpa using hf0
                              clear hf0
                              go_wp2_with fail
                              go_region_held3 (fun W => Below wr.heap.size wr W ∧ W.cell? ⟨w.heap.size, 0, none⟩ = some (.int .i64 (f 0)) ∧ W.cell? ⟨w.heap.size, 2, none⟩ = some (.int .i64 (f 2)) ∧ (loadVar 24 ⟨w.heap.size, 0, none⟩).run Tryd.prog W = .ok (.agg (confA f g (.slice ma M.length mc))) W) (first | exact HALL.out _ (below_drewN (Below.refl _ _) 1) | (go_split_ands; exact HALL.out _ (below_call (by assumption) hbt)) | (go_split_ands; exact HALL.out _ (below_realloc (by assumption) hbs)) | (go_split_ands; exact HALL.out _ (below_set4 (by assumption) (by first | omega | (simp; omega)) _ _ _ _)) | (go_split_ands; exact HALL.out _ (below_alloc (by assumption) _))) ((go_at_call 30; go_split_ands; refine (floor_any f g _ _).mono ?_; rintro e x1 ⟨⟨n, rfl⟩, hbt⟩))
                              go_split_ands
                              have hend := HZ.out.trans (Below.mono (show Below wr.heap.size wr x1 by assumption) HZ.out.size)
                              have HE := hid hend
                              go_wp2
                              all_goals go_ret
                              all_goals exact ⟨⟨_, rfl⟩, HE.out⟩
                            · have d0 : decide (0 < f 0) = false := by simpa using hf0
                              have c0 := C0.out
                              have c2 := C2.out
                              clear hf0
                              go_wp2
                              go_quiet (fail)
                              go_wp2
                              go_ret
                              exact ⟨⟨_, rfl⟩, below_drewN HZ.out _⟩
end Go.Proofs.YtljmhmdpihpafaaDoor
