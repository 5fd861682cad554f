/- herdref07.Same, herdref13.Same: exact. Printed by gn_smx.py. -/
import Derived.Test.YthnigndpibgibaaDoorEq3
import Derived.BigQuiet
namespace Go.Proofs.YthnigndpibgibaaDoor
open Go.RowKit Go.Shelf
attribute [-go_sem] loadVar run_equalIn_agg
attribute [local go_sem] load_other2

/-- Two groups are the same. -/
def sameC (f : Nat → Int) (g : Bool) (M : List Int) (f' : Nat → Int) (g' : Bool) (M' : List Int) : Bool := decide (M = M') && (g == g' && eq13 f f')
theorem take_ne {α : Type} {l m : List α} {k : Nat} {x y : α} (hx : l[k]? = some x) (hy : m[k]? = some y) (h : x ≠ y) : l ≠ m := by
  rintro rfl
  rw [hx] at hy
  exact h (Option.some.inj hy)
set_option maxRecDepth 100000 in
set_option maxHeartbeats 1000000 in
theorem same07_any (f f' : Nat → Int) (g g' : Bool) (m1 m2 : Value) (M M' : List Int) (w : World) (h1 : RowOf 1 encI w m1 M) (h2 : RowOf 1 encI w m2 M') :
    Calls Tryd.prog 20 #[.agg (confA f g m1), .agg (confA f' g' m2)] w fun e w' => e = .returned (.bool (sameC f g M f' g' M')) ∧ Below w.heap.size w w' := by
  obtain ⟨a1, c1, rfl, p1, p2, p3, hop1⟩ := h1.open
  obtain ⟨a2, c2, rfl, q1, q2, q3, hop2⟩ := h2.open
  obtain ⟨n', hn'⟩ : ∃ n', M'.length = n' := ⟨_, rfl⟩
  rw [hn'] at q1 q3 hop2 ⊢
  obtain ⟨W1, hW1⟩ : ∃ W1, W1 = (w.alloc (.cells (confA f g (.slice a1 M.length c1)) 24)).alloc (.cells (confA f' g' (.slice a2 n' c2)) 24) := ⟨_, rfl⟩
  have hb1 : Below w.heap.size w W1 := by rw [hW1]; exact ((Below.refl _ _).alloc (Nat.le_refl _) _).alloc (by simp) _
  have n1 : W1.heap[w.heap.size]? = some (.cells (confA f g (.slice a1 M.length c1)) 24) := by rw [hW1]; exact blk_alloc (heap_new _ _) _
  have n2 : W1.heap[w.heap.size + 1]? = some (.cells (confA f' g' (.slice a2 n' c2)) 24) := by rw [hW1]; exact heap_new2 _ _ _
  have hz : W1.heap.size = w.heap.size + 2 := by rw [hW1]; simp
  have HW1 := hid hW1
  have N1 := hid n1
  have N2 := hid n2
  have HB1 := hid hb1
  have HO1 := hid hop1
  have HO2 := hid hop2
  have x14 : W1.cell? ⟨w.heap.size, 14, none⟩ = some (.slice a1 M.length c1) := blk_cell n1 14
  have y14 : W1.cell? ⟨w.heap.size + 1, 14, none⟩ = some (.slice a2 n' c2) := blk_cell n2 14
  have x13 : W1.cell? ⟨w.heap.size, 13, none⟩ = some (.bool g) := blk_cell n1 13
  have y13 : W1.cell? ⟨w.heap.size + 1, 13, none⟩ = some (.bool g') := blk_cell n2 13
  have hl1 : w.heap.size < W1.heap.size := by omega
  have hl2 : w.heap.size + 1 < W1.heap.size := by omega
  obtain ⟨r, hr⟩ : ∃ r, sameC f g M f' g' M' = r := ⟨_, rfl⟩
  rw [hr]
  have HR := hid hr
  have HN := hid hn'
  clear h1 h2 hop1 hop2 n1 n2 hb1 hr hn'
  rw [hW1] at x13 x14 y13 y14 hl1 hl2
  by_cases hn : M.length = n'
  rotate_left
  · have hMM : ((M.length : Int) != (n' : Int)) = true := by simp; omega
    obtain rfl : r = false := by rw [← HR.out]; unfold sameC; rw [decide_eq_false (fun e => hn (by rw [e]; exact HN.out))]; rfl
    clear hn
    go_enter Tryd.func20, Tryd.ntmps20
    go_wp2
    go_ret
    rw [← HW1.out]
    exact ⟨rfl, HB1.out⟩
  subst hn
  have hMM : ((M.length : Int) != (M.length : Int)) = false := by simp
  by_cases hgg : g = g'
  rotate_left
  · obtain rfl : r = false := by rw [← HR.out]; unfold sameC; rw [show (g == g') = false by simpa using hgg]; simp
    obtain rfl : g' = !g := by cases g <;> cases g' <;> simp_all
    clear hgg
    go_enter Tryd.func20, Tryd.ntmps20
    go_wp2
    go_ret
    rw [← HW1.out]
    exact ⟨rfl, HB1.out⟩
  subst hgg
  go_enter Tryd.func20, Tryd.ntmps20
  go_wp2
  rw [← HW1.out]
  rw [← HW1.out] at x13 x14 y13 y14 hl1 hl2
  clear x13 y13
  go_loopw [5] (fun i wr => ∃ k : Nat, k ≤ M.length ∧ i = .int .i64 k ∧ M.take k = M'.take k ∧ Below W1.heap.size W1 wr) (fun i _ => M.length - (intOf i).toNat)
  case atStart => exact ⟨0, Nat.zero_le _, rfl, rfl, Below.refl _ _⟩
  case round =>
    obtain ⟨k, hk, rfl, htk, hB⟩ := hrel
    have HT := hid htk
    have HB := hid hB
    have hbw := HB1.out.trans (hB.mono HB1.out.size)
    have z14 := cell_below x14 hB
    have v14 := cell_below y14 hB
    have hlr1 : w.heap.size < wr.heap.size := Nat.lt_of_lt_of_le hl1 hB.size
    have hlr2 : w.heap.size + 1 < wr.heap.size := Nat.lt_of_lt_of_le hl2 hB.size
    clear htk
    by_cases hlt : k < M.length
    · obtain ⟨b1, o1, rfl, hb1, hr1⟩ := HO1.out (by omega)
      obtain ⟨b2, o2, rfl, hb2, hr2⟩ := HO2.out (by omega)
      obtain ⟨x, hx⟩ := get_lt hlt
      obtain ⟨y, hy⟩ := get_lt (show k < M'.length by have := HN.out; omega)
      have g1 := rowN1 (hr1.below hbw hb1) hx
      have g2 := rowN1 (hr2.below hbw hb2) hy
      have hkL : (k : Int) < (M.length : Int) := by omega
      have hb1w : b1 < wr.heap.size := Nat.lt_of_lt_of_le hb1 hbw.size
      have hb2w : b2 < wr.heap.size := Nat.lt_of_lt_of_le hb2 hbw.size
      have HX := hid hx
      have HY := hid hy
      have HBW := hid hbw
      by_cases hxy : x = y
      · have hxx : (x != y) = false := by simpa using hxy
        have HXY := hid hxy
        clear hx hy hr1 hr2 hB hbw x14 y14 hxy
        go_wp2
        go_quiet (fail)
        go_wp2
        go_roundw
        case rel => exact ⟨k + 1, by omega, by go_num, by rw [take_snoc M k x HX.out, take_snoc M' k y HY.out, HT.out, HXY.out], below_drewN HB.out _⟩
        case measure => simp [intOf]; omega
      · have hxx : (x != y) = true := by simpa using hxy
        obtain rfl : r = false := by rw [← HR.out]; unfold sameC; rw [decide_eq_false (take_ne hx hy hxy)]; rfl
        clear hx hy hr1 hr2 hB hbw x14 y14 hxy
        go_wp2
        go_quiet (fail)
        go_wp2
        go_ret
        exact ⟨rfl, below_drewN HBW.out _⟩
    · obtain rfl : k = M.length := by omega
      have HEQ := hid (show M = M' by have := HT.out; rwa [List.take_length, ← HN.out, List.take_length] at this)
      have D1 := hid (blk_below N1.out hB (blk_lt N1.out))
      have D2 := hid (blk_below N2.out hB (blk_lt N2.out))
      have k0 : wr.cell? ⟨w.heap.size, 0, none⟩ = some (.int .i64 (f 0)) := blk_cell D1.out 0
      have l0 : wr.cell? ⟨w.heap.size + 1, 0, none⟩ = some (.int .i64 (f' 0)) := blk_cell D2.out 0
      have k1 : wr.cell? ⟨w.heap.size, 1, none⟩ = some (.int .i64 (f 1)) := blk_cell D1.out 1
      have l1 : wr.cell? ⟨w.heap.size + 1, 1, none⟩ = some (.int .i64 (f' 1)) := blk_cell D2.out 1
      have k2 : wr.cell? ⟨w.heap.size, 2, none⟩ = some (.int .i64 (f 2)) := blk_cell D1.out 2
      have l2 : wr.cell? ⟨w.heap.size + 1, 2, none⟩ = some (.int .i64 (f' 2)) := blk_cell D2.out 2
      have k3 : wr.cell? ⟨w.heap.size, 3, none⟩ = some (.int .i64 (f 3)) := blk_cell D1.out 3
      have l3 : wr.cell? ⟨w.heap.size + 1, 3, none⟩ = some (.int .i64 (f' 3)) := blk_cell D2.out 3
      have k4 : wr.cell? ⟨w.heap.size, 4, none⟩ = some (.int .i64 (f 4)) := blk_cell D1.out 4
      have l4 : wr.cell? ⟨w.heap.size + 1, 4, none⟩ = some (.int .i64 (f' 4)) := blk_cell D2.out 4
      have k5 : wr.cell? ⟨w.heap.size, 5, none⟩ = some (.int .i64 (f 5)) := blk_cell D1.out 5
      have l5 : wr.cell? ⟨w.heap.size + 1, 5, none⟩ = some (.int .i64 (f' 5)) := blk_cell D2.out 5
      have k6 : wr.cell? ⟨w.heap.size, 6, none⟩ = some (.int .i64 (f 6)) := blk_cell D1.out 6
      have l6 : wr.cell? ⟨w.heap.size + 1, 6, none⟩ = some (.int .i64 (f' 6)) := blk_cell D2.out 6
      have k7 : wr.cell? ⟨w.heap.size, 7, none⟩ = some (.int .i64 (f 7)) := blk_cell D1.out 7
      have l7 : wr.cell? ⟨w.heap.size + 1, 7, none⟩ = some (.int .i64 (f' 7)) := blk_cell D2.out 7
      have k8 : wr.cell? ⟨w.heap.size, 8, none⟩ = some (.int .i64 (f 8)) := blk_cell D1.out 8
      have l8 : wr.cell? ⟨w.heap.size + 1, 8, none⟩ = some (.int .i64 (f' 8)) := blk_cell D2.out 8
      have k9 : wr.cell? ⟨w.heap.size, 9, none⟩ = some (.int .i64 (f 9)) := blk_cell D1.out 9
      have l9 : wr.cell? ⟨w.heap.size + 1, 9, none⟩ = some (.int .i64 (f' 9)) := blk_cell D2.out 9
      have k10 : wr.cell? ⟨w.heap.size, 10, none⟩ = some (.int .i64 (f 10)) := blk_cell D1.out 10
      have l10 : wr.cell? ⟨w.heap.size + 1, 10, none⟩ = some (.int .i64 (f' 10)) := blk_cell D2.out 10
      have k11 : wr.cell? ⟨w.heap.size, 11, none⟩ = some (.int .i64 (f 11)) := blk_cell D1.out 11
      have l11 : wr.cell? ⟨w.heap.size + 1, 11, none⟩ = some (.int .i64 (f' 11)) := blk_cell D2.out 11
      have k12 : wr.cell? ⟨w.heap.size, 12, none⟩ = some (.int .i64 (f 12)) := blk_cell D1.out 12
      have l12 : wr.cell? ⟨w.heap.size + 1, 12, none⟩ = some (.int .i64 (f' 12)) := blk_cell D2.out 12
      have heq := arr13_any f f'
      obtain ⟨q, hq⟩ : ∃ q, eq13 f f' = q := ⟨_, rfl⟩
      rw [hq] at heq
      obtain rfl : q = r := by rw [← HR.out, ← hq]; unfold sameC; rw [decide_eq_true HEQ.out, show (g == g) = true by simp]; rfl
      have HBW := hid hbw
      clear hB hbw x14 y14 hq
      go_wp2
      go_ret
      exact ⟨rfl, (HBW.out.alloc HBW.out.size _).alloc (by have := HBW.out.size; simp; omega) _⟩
theorem same07_at (f f' : Nat → Int) (g g' : Bool) (m1 m2 : Value) (M M' : List Int) (b : Bool) (hb : sameC f g M f' g' M' = b) (w : World) (h1 : RowOf 1 encI w m1 M) (h2 : RowOf 1 encI w m2 M') :
    Calls Tryd.prog 20 #[.agg (confA f g m1), .agg (confA f' g' m2)] w fun e w' => e = .returned (.bool b) ∧ Below w.heap.size w w' := by
  rw [← hb]; exact same07_any f f' g g' m1 m2 M M' w h1 h2

/-- Two brains are the same. -/
def sameB (A B : BrainV) : Bool := A.f 0 == B.f 0 && (A.f 1 == B.f 1 && (A.g 2 == B.g 2 && (sameC (fun i => A.f (i + 3)) (A.g 16) A.M (fun i => B.f (i + 3)) (B.g 16) B.M && (rfEB (refOf A) (refOf B) && (decide (A.I = B.I) && decide (A.K = B.K))))))
end Go.Proofs.YthnigndpibgibaaDoor
