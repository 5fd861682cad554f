/- HearSays of herdlaw22: a launch that is done says its token, and the box; Stale says nothing; nor does an answer of another kind. No condition but the row's own. -/
import Derived.Test.YthhgpiolcnojfaaDoorWh
import Derived.Test.YthhgpiolcnojfaaDoorGrr
import Derived.Deep.RegionHeld3
import Derived.Test.YthhgpiolcnojfaaDoorOpz
import Derived.Test.YthhgpiolcnojfaaDoorCards
import Derived.Test.YthhgpiolcnojfaaDoorTie
import Derived.SevenTiedAt
/- HearSays: what a launch that is done says. Printed by gn_lhs.py. -/
namespace Go.Proofs.YthhgpiolcnojfaaDoor
open Go.RowKit Go.Shelf
attribute [-go_sem] Instr.buildSlice

theorem says5 (k key id now : Int) : saysL k ((5 : Nat) : Int) key id now = none := by
  unfold saysL
  rw [if_neg (by decide), if_neg (by decide), if_neg (by decide), if_neg (by decide)]
theorem says1 (key id now : Int) : saysL 1 ((1 : Nat) : Int) key id now = some (4, [key, id, now]) := rfl
theorem bs_callA (a : Int) (k : Int) (b c : Int) (w : World) : (Instr.buildSlice 35 1 #[(0, .agg #[.int .i64 a, .int .u8 k, .int .i64 b, .int .i64 c])]).run Tryd.prog w = .ok (.slice (some ⟨w.heap.size, 0, none⟩) 1 1) (w.alloc (.cells #[.int .i64 a, .int .u8 k, .int .i64 b, .int .i64 c] 23)) := by kernel_rfl
theorem heard_one (y : CallV) (h : y.kind ≠ 4) : heardL [y] y.id 4 = (⟨0, 0, 0, 0⟩, false) := by
  unfold heardL findC
  simp [h]
set_option maxRecDepth 100000 in
set_option maxHeartbeats 8000000 in
theorem hsays_law (x : CallV) (c k d i now : Int) (sa : Option Addr) (sn sc : Nat) (m : Bool) (w : World) (hA : Asked w) (hC : Changes w) (hL : Limits w) :
    Calls Tryd.prog 3 #[encS x, tellT c k d i (.slice sa sn sc) m, .int .i64 now] w fun e w' => e = .returned (.bool true) ∧ Below w.heap.size w w' := by
  obtain ⟨W1, hW1⟩ : ∃ W1, W1 = (w.alloc (.cells #[.int .i64 x.id, .int .u8 x.kind, .int .i64 x.key, .int .i64 x.sent] 23)).alloc (.cells #[.int .i64 c, .int .u8 k, .int .u8 d, .int .i64 i, .slice sa sn sc, .bool m] 26) := ⟨_, rfl⟩
  have hb1 : Below w.heap.size w W1 := by rw [hW1]; exact ((Below.refl _ _).alloc (Nat.le_refl _) _).alloc (by simp) _
  have n0 : W1.heap[w.heap.size]? = some (.cells #[.int .i64 x.id, .int .u8 x.kind, .int .i64 x.key, .int .i64 x.sent] 23) := by rw [hW1]; exact blk_alloc (heap_new _ _) _
  have n1 : W1.heap[w.heap.size + 1]? = some (.cells #[.int .i64 c, .int .u8 k, .int .u8 d, .int .i64 i, .slice sa sn sc, .bool m] 26) := by rw [hW1]; exact heap_new2 _ _ _
  have HW1 := hid hW1
  have HB1 := hid hb1
  have N0 := hid n0
  have N1 := hid n1
  have HA := hid hA
  have HC := hid hC
  have HL := hid hL
  clear hb1 n0 n1 hW1 hA hC hL
  unfold encS tellT
  go_enter Tryd.func3, Tryd.ntmps3
  by_cases hsn : 60 < sn
  · have d0 : decide ((60 : Int) < (sn : Int)) = true := decide_eq_true (by omega)
    have d1 : (60 : Int) < (sn : Int) := by omega
    go_wp2_with fail
    rw [← HW1.out]
    refine (wakes_any W1 (HA.out.below HB1.out) (HC.out.below HB1.out) (HL.out.below HB1.out)).mono ?_
    rintro e Ww ⟨rfl, hb⟩
    have HBw := hid (HB1.out.trans (hb.mono HB1.out.size))
    clear hb
    go_wp2
    go_ret
    exact ⟨rfl, HBw.out⟩
  · have d0 : decide ((60 : Int) < (sn : Int)) = false := decide_eq_false (by omega)
    have d1 : ¬ (60 : Int) < (sn : Int) := by omega
    go_wp2_with fail
    rw [← HW1.out]
    clear d0 d1
    obtain ⟨W2, hW2⟩ : ∃ W2, W2 = W1.alloc (.cells #[.int .i64 c, .int .u8 k, .int .u8 5, .int .i64 i, .slice sa sn sc, .bool m] 26) := ⟨_, rfl⟩
    rw [← hW2]
    have hb2 : Below W1.heap.size W1 W2 := by rw [hW2]; exact (Below.refl _ _).alloc (Nat.le_refl _) _
    refine (says_any x c k i now 5 sa sn sc m W2 (by decide)).mono ?_
    rintro e V1 (⟨_, rfl, hb⟩ | ⟨_, _, _, hs, _⟩)
    · have hbq := hb2.trans (hb.mono hb2.size)
      have HB2 := hid (HB1.out.trans (hbq.mono HB1.out.size))
      have M0 := hid (blk_below N0.out hbq (blk_lt N0.out))
      have M1 := hid (blk_below N1.out hbq (blk_lt N1.out))
      obtain ⟨k0, k1, k2, k3, kf, kl⟩ := blk4 M0.out
      have t0 : V1.cell? ⟨w.heap.size + 1, 0, none⟩ = some (.int .i64 c) := blk_cell M1.out 0
      have t1 : V1.cell? ⟨w.heap.size + 1, 1, none⟩ = some (.int .u8 k) := blk_cell M1.out 1
      have t2 : V1.cell? ⟨w.heap.size + 1, 2, none⟩ = some (.int .u8 d) := blk_cell M1.out 2
      have t3 : V1.cell? ⟨w.heap.size + 1, 3, none⟩ = some (.int .i64 i) := blk_cell M1.out 3
      have t4 : V1.cell? ⟨w.heap.size + 1, 4, none⟩ = some (.slice sa sn sc) := blk_cell M1.out 4
      have t5 : V1.cell? ⟨w.heap.size + 1, 5, none⟩ = some (.bool m) := blk_cell M1.out 5
      have tf := blk_free M1.out
      have tl := blk_lt M1.out
      clear hb hbq hb2 hW2 HW1
      go_wp2_with fail
      obtain ⟨W4, hW4⟩ : ∃ W4, W4 = ((V1.setCell ⟨w.heap.size, 1, none⟩ (.int .u8 1)).setCell ⟨w.heap.size + 1, 2, none⟩ (.int .u8 1)).alloc (.cells #[.int .u8 0, .slice none 0 0] 30) := ⟨_, rfl⟩
      rw [← hW4]
      have hb4 : Below w.heap.size w W4 := by rw [hW4]; exact ((HB2.out.setCell (p := ⟨w.heap.size, 1, none⟩) (Nat.le_refl _) _).setCell (p := ⟨w.heap.size + 1, 2, none⟩) (by simp) _).alloc (by simpa using HB2.out.size) _
      have p0 : W4.heap[w.heap.size]? = some (.cells #[.int .i64 x.id, .int .u8 1, .int .i64 x.key, .int .i64 x.sent] 23) := by
        rw [hW4]
        exact blk_alloc (by simpa using blk_other (blk_set M0.out 1 (.int .u8 1)) (p := ⟨w.heap.size + 1, 2, none⟩) (by simp) (.int .u8 1)) _
      have p1 : W4.heap[w.heap.size + 1]? = some (.cells #[.int .i64 c, .int .u8 k, .int .u8 1, .int .i64 i, .slice sa sn sc, .bool m] 26) := by
        rw [hW4]
        exact blk_alloc (by simpa using blk_set (blk_other M1.out (p := ⟨w.heap.size, 1, none⟩) (by simp) (.int .u8 1)) 2 (.int .u8 1)) _
      have HB4 := hid hb4
      have P0 := hid p0
      have P1 := hid p1
      obtain ⟨T8, hT8⟩ : ∃ T, V1.heap.size = T := ⟨_, rfl⟩
      rw [hT8]
      clear hb4 p0 p1 hW4 k0 k1 k2 k3 kf kl t0 t1 t2 t3 t4 t5 tf tl M0 M1 hT8
      refine (says_any ⟨x.id, 1, x.key, x.sent⟩ c k i now 1 sa sn sc m W4 (by decide)).mono ?_
      rintro e V5 (⟨h, _⟩ | ⟨kk, l, v, hs, rfl, ho, hb⟩)
      · dsimp only at h
        rw [says1] at h
        cases h
      dsimp only at hs
      rw [says1] at hs
      cases hs
      obtain ⟨g, gc, rfl⟩ : ∃ g gc, v = .slice (some ⟨g, 0, none⟩) 3 gc := by
        rcases Owns.form ho with ⟨_, h⟩ | ⟨g, gc, h, _⟩
        · cases h
        · exact ⟨g, gc, h⟩
      have g0 : V5.cell? ⟨g, 0, none⟩ = some (.int .i64 x.key) := ho.flat_at rfl
      have g1 : V5.cell? ⟨g, 1, none⟩ = some (.int .i64 i) := ho.flat_at rfl
      have g2 : V5.cell? ⟨g, 2, none⟩ = some (.int .i64 now) := ho.flat_at rfl
      have gl := lt_of_cell g0
      have gge : W4.heap.size ≤ g := (Owns.block ho g rfl).1
      have HB5 := hid (HB4.out.trans (hb.mono HB4.out.size))
      have M0 := hid (blk_below P0.out hb (blk_lt P0.out))
      have M1 := hid (blk_below P1.out hb (blk_lt P1.out))
      have ge2 : w.heap.size + 1 < g := Nat.lt_of_lt_of_le (blk_lt P1.out) gge
      obtain ⟨k0, k1, k2, k3, kf, kl⟩ := blk4 M0.out
      have t0 : V5.cell? ⟨w.heap.size + 1, 0, none⟩ = some (.int .i64 c) := blk_cell M1.out 0
      have t1 : V5.cell? ⟨w.heap.size + 1, 1, none⟩ = some (.int .u8 k) := blk_cell M1.out 1
      have t2 : V5.cell? ⟨w.heap.size + 1, 2, none⟩ = some (.int .u8 1) := blk_cell M1.out 2
      have t3 : V5.cell? ⟨w.heap.size + 1, 3, none⟩ = some (.int .i64 i) := blk_cell M1.out 3
      have t4 : V5.cell? ⟨w.heap.size + 1, 4, none⟩ = some (.slice sa sn sc) := blk_cell M1.out 4
      have t5 : V5.cell? ⟨w.heap.size + 1, 5, none⟩ = some (.bool m) := blk_cell M1.out 5
      have tf := blk_free M1.out
      have tl := blk_lt M1.out
      have hbc := bs_callA
      have G0 := hid g0
      have G1 := hid g1
      have G2 := hid g2
      clear hb ho gge g0 g1 g2 gl
      go_wp2_with fail
      obtain ⟨W6, hW6⟩ : ∃ W6, W6 = (((V5.setCell ⟨w.heap.size + 1, 1, none⟩ (.int .u8 4)).setCell ⟨w.heap.size + 1, 0, none⟩ (.int .i64 x.id)).alloc (.cells #[.int .u8 4, .slice (some ⟨g, 0, none⟩) 3 gc] 30)).alloc (.cells #[.int .i64 x.id, .int .u8 1, .int .i64 x.key, .int .i64 x.sent] 23) := ⟨_, rfl⟩
      rw [← hW6]
      have hs5 := HB5.out.size
      have hb6 : Below w.heap.size w W6 := by rw [hW6]; exact (((HB5.out.setCell (p := ⟨w.heap.size + 1, 1, none⟩) (by simp) _).setCell (p := ⟨w.heap.size + 1, 0, none⟩) (by simp) _).alloc (by simpa using hs5) _).alloc (by simp; omega) _
      have p0 : W6.heap[w.heap.size]? = some (.cells #[.int .i64 x.id, .int .u8 1, .int .i64 x.key, .int .i64 x.sent] 23) := by
        rw [hW6]
        exact blk_alloc (blk_alloc (blk_other (blk_other M0.out (p := ⟨w.heap.size + 1, 1, none⟩) (by simp) (.int .u8 4)) (p := ⟨w.heap.size + 1, 0, none⟩) (by simp) (.int .i64 x.id)) _) _
      have p1 : W6.heap[w.heap.size + 1]? = some (.cells #[.int .i64 x.id, .int .u8 4, .int .u8 1, .int .i64 i, .slice sa sn sc, .bool m] 26) := by
        rw [hW6]
        exact blk_alloc (blk_alloc (by simpa using blk_set (blk_set M1.out 1 (.int .u8 4)) 0 (.int .i64 x.id)) _) _
      have p10 : W6.heap[V5.heap.size]? = some (.cells #[.int .u8 4, .slice (some ⟨g, 0, none⟩) 3 gc] 30) := by
        rw [hW6]
        exact blk_alloc (by simpa using heap_new ((V5.setCell ⟨w.heap.size + 1, 1, none⟩ (.int .u8 4)).setCell ⟨w.heap.size + 1, 0, none⟩ (.int .i64 x.id)) _) _
      have pr : W6.heap[V5.heap.size + 1]? = some (.cells #[.int .i64 x.id, .int .u8 1, .int .i64 x.key, .int .i64 x.sent] 23) := by
        rw [hW6]
        simpa using heap_new2 ((V5.setCell ⟨w.heap.size + 1, 1, none⟩ (.int .u8 4)).setCell ⟨w.heap.size + 1, 0, none⟩ (.int .i64 x.id)) _ _
      have hrow : Row12 W6 (.slice (some ⟨V5.heap.size + 1, 0, none⟩) 1 1) [⟨x.id, 1, x.key, x.sent⟩] := row_blk (l := [(⟨x.id, 1, x.key, x.sent⟩ : CallV)]) (fun _ => rfl) pr (by simp) (show 1 ≤ maxLen by decide)
      have far : ∀ (j : Nat) u, V5.cell? ⟨g, j, none⟩ = some u → W6.cell? ⟨g, j, none⟩ = some u := by
        intro j u h
        have hf : ((V5.setCell ⟨w.heap.size + 1, 1, none⟩ (.int .u8 4)).setCell ⟨w.heap.size + 1, 0, none⟩ (.int .i64 x.id)).cell? ⟨g, j, none⟩ = some u := by
          rw [World.cell?_setCell_far _ _ _ _ (by simp; omega), World.cell?_setCell_far _ _ _ _ (by simp; omega)]
          exact h
        rw [hW6]
        exact cell_below (cell_below hf ((Below.refl _ _).alloc (Nat.le_refl _) _)) ((Below.refl _ _).alloc (Nat.le_refl _) _)
      have G0 := hid (far 0 _ G0.out)
      have G1 := hid (far 1 _ G1.out)
      have G2 := hid (far 2 _ G2.out)
      have HB6 := hid hb6
      have P0 := hid p0
      have P1 := hid p1
      have P10 := hid p10
      have HH := hid (heard_any 0 0 x.id 4 1 i (.slice (some ⟨V5.heap.size + 1, 0, none⟩) 1 1) _ sa sn sc m W6 (by simp) hrow)
      obtain ⟨T10, hT10⟩ : ∃ T, V5.heap.size = T := ⟨_, rfl⟩
      rw [hT10] at P10 HH ⊢
      clear far hrow pr p10 p1 p0 hb6 hs5 hW6 hT10 k0 k1 k2 k3 kf kl t0 t1 t2 t3 t4 t5 tf tl M0 M1 hbc
      refine HH.out.mono ?_
      rintro e V7 ⟨rfl, hb⟩
      rw [heard_one ⟨x.id, 1, x.key, x.sent⟩ (by simp)]
      have hb8 : Below V7.heap.size V7 (V7.alloc (.cells #[.int .i64 0, .int .u8 0, .int .i64 0, .int .i64 0] 23)) := (Below.refl _ _).alloc (Nat.le_refl _) _
      obtain ⟨W8, hW8⟩ : ∃ W8, W8 = V7.alloc (.cells #[.int .i64 0, .int .u8 0, .int .i64 0, .int .i64 0] 23) := ⟨_, rfl⟩
      rw [← hW8] at hb8
      have hbq := hb.trans (hb8.mono hb.size)
      have HB8 := hid (HB6.out.trans (hbq.mono HB6.out.size))
      have Q0 := hid (blk_below P0.out hbq (blk_lt P0.out))
      have Q1 := hid (blk_below P1.out hbq (blk_lt P1.out))
      have Q10 := hid (blk_below P10.out hbq (blk_lt P10.out))
      have F0 := hid (cell_below G0.out hbq)
      have F1 := hid (cell_below G1.out hbq)
      have F2 := hid (cell_below G2.out hbq)
      unfold encS
      dsimp only
      clear hb hb8 hbq G0 G1 G2 P0 P1 P10 HH
      go_upto_region 12 with (fail)
      rw [← hW8]
      clear hW8
      refine wp_region_held_drew (S := fun _ => True) (by kernel_rfl) trivial (fun _ => ?_)
      refine wpAnyH_grownG (w0 := W8.drew) (spL [fun z _ => z = .bool false, fun z _ => z = .bool true, fun z _ => z = .bool true, fun z _ => z = .bool false, fun z _ => z = .bool true, fun z _ => z = .bool true, fun z _ => z = .bool true, fun z _ => z = .bool true, fun z _ => z = .bool true, fun z _ => z = .bool true, fun z _ => z = .pointer (some ⟨T10, 0, none⟩), fun z _ => z = .int .u8 4, fun z _ => z = .bool true, fun z _ => z = .bool true, fun z _ => z = .bool true, fun z _ => z = .pointer (some ⟨T10, 1, none⟩), fun z _ => z = .slice (some ⟨g, 0, none⟩) 3 gc, fun z _ => z = .int .i64 3, fun z _ => z = .bool true, fun z _ => z = .bool true, fun z _ => z = .bool true, fun z _ => z = .pointer (some ⟨T10, 1, none⟩), fun z _ => z = .slice (some ⟨g, 0, none⟩) 3 gc, fun z _ => z = .pointer (some ⟨g, 0, none⟩), fun z _ => z = .int .i64 x.key, fun z _ => z = .pointer (some ⟨w.heap.size, 2, none⟩), fun z _ => z = .int .i64 x.key, fun z _ => z = .bool true, fun z _ => z = .bool true, fun z _ => z = .bool true, fun z _ => z = .pointer (some ⟨T10, 1, none⟩), fun z _ => z = .slice (some ⟨g, 0, none⟩) 3 gc, fun z _ => z = .pointer (some ⟨g, 1, none⟩), fun z _ => z = .int .i64 i, fun z _ => z = .pointer (some ⟨w.heap.size + 1, 3, none⟩), fun z _ => z = .int .i64 i, fun z _ => z = .bool true, fun z _ => z = .bool true, fun z _ => z = .bool true, fun z _ => z = .pointer (some ⟨T10, 1, none⟩), fun z _ => z = .slice (some ⟨g, 0, none⟩) 3 gc, fun z _ => z = .pointer (some ⟨g, 2, none⟩), fun z _ => z = .int .i64 now, fun z _ => z = .int .i64 now, fun z _ => z = .bool true, fun z _ => z = .bool true, fun z _ => z = .bool true, fun z _ => z = .bool true, fun z _ => z = .bool true, fun z _ => z = .bool true]) (spL_stays ⟨stays_eq _, stays_eq _, stays_eq _, stays_eq _, stays_eq _, stays_eq _, stays_eq _, stays_eq _, stays_eq _, stays_eq _, stays_eq _, stays_eq _, stays_eq _, stays_eq _, stays_eq _, stays_eq _, stays_eq _, stays_eq _, stays_eq _, stays_eq _, stays_eq _, stays_eq _, stays_eq _, stays_eq _, stays_eq _, stays_eq _, stays_eq _, stays_eq _, stays_eq _, stays_eq _, stays_eq _, stays_eq _, stays_eq _, stays_eq _, stays_eq _, stays_eq _, stays_eq _, stays_eq _, stays_eq _, stays_eq _, stays_eq _, stays_eq _, stays_eq _, stays_eq _, stays_eq _, stays_eq _, stays_eq _, stays_eq _, stays_eq _, stays_eq _, trivial⟩) (by kernel_rfl) (by kernel_rfl) ?steps12 ?fin12 rfl
      case steps12 =>
        refine ⟨?_, ?_, ?_, ?_, ?_, ?_, ?_, ?_, ?_, ?_, ?_, ?_, ?_, ?_, ?_, ?_, ?_, ?_, ?_, ?_, ?_, ?_, ?_, ?_, ?_, ?_, ?_, ?_, ?_, ?_, ?_, ?_, ?_, ?_, ?_, ?_, ?_, ?_, ?_, ?_, ?_, ?_, ?_, ?_, ?_, ?_, ?_, ?_, ?_, ?_, trivial⟩
        · intro a' w' hB hdep hoth K hK
          rw [if_pos (guard_none rfl)]
          have hbw : Below W8.heap.size W8 w' := (below_drewN (Below.refl _ _) 1).trans hB
          have t9 := hoth 9 (notDst_at (by kernel_rfl))
          simp only [List.getElem?_toArray, List.getElem?_cons_succ, List.getElem?_cons_zero] at t9
          clear hdep hoth
          go_simp
          exact hK _ _ (Below.refl _ _) rfl
        · intro a' w' hB hdep hoth K hK
          rw [if_pos (guard_none rfl)]
          have hbw : Below W8.heap.size W8 w' := (below_drewN (Below.refl _ _) 1).trans hB
          obtain ⟨vx0, gx0, ex0⟩ := hdep ⟨0, .data⟩ (by simp) rfl
          have gx0 := gx0 49 rfl (by simp)
          obtain rfl : vx0 = .bool false := ex0
          clear hdep hoth
          go_simp
          exact hK _ _ (Below.refl _ _) rfl
        · intro a' w' hB hdep hoth K hK
          rw [if_pos (guard_none rfl)]
          have hbw : Below W8.heap.size W8 w' := (below_drewN (Below.refl _ _) 1).trans hB
          obtain ⟨vx0, gx0, ex0⟩ := hdep ⟨1, .data⟩ (by simp) rfl
          have gx0 := gx0 50 rfl (by simp)
          obtain rfl : vx0 = .bool true := ex0
          clear hdep hoth
          go_simp
          exact hK _ _ (Below.refl _ _) rfl
        · intro a' w' hB hdep hoth K hK
          obtain ⟨vg, gg, eg⟩ := hdep ⟨2, .guard⟩ (by simp) rfl
          have gg := gg 51 rfl (by simp)
          obtain rfl : vg = .bool true := eg
          rw [guard_is rfl rfl gg]
          rw [if_pos (by decide)]
          have hbw : Below W8.heap.size W8 w' := (below_drewN (Below.refl _ _) 1).trans hB
          have t13 := hoth 13 (notDst_at (by kernel_rfl))
          simp only [List.getElem?_toArray, List.getElem?_cons_succ, List.getElem?_cons_zero] at t13
          clear hdep hoth
          go_simp
          exact hK _ _ (Below.refl _ _) rfl
        · intro a' w' hB hdep hoth K hK
          obtain ⟨vg, gg, eg⟩ := hdep ⟨2, .guard⟩ (by simp) rfl
          have gg := gg 51 rfl (by simp)
          obtain rfl : vg = .bool true := eg
          rw [guard_is rfl rfl gg]
          rw [if_pos (by decide)]
          have hbw : Below W8.heap.size W8 w' := (below_drewN (Below.refl _ _) 1).trans hB
          obtain ⟨vx0, gx0, ex0⟩ := hdep ⟨3, .data⟩ (by simp) rfl
          have gx0 := gx0 52 rfl (by simp)
          obtain rfl : vx0 = .bool false := ex0
          clear hdep hoth
          go_simp
          exact hK _ _ (Below.refl _ _) rfl
        · intro a' w' hB hdep hoth K hK
          rw [if_pos (guard_none rfl)]
          have hbw : Below W8.heap.size W8 w' := (below_drewN (Below.refl _ _) 1).trans hB
          obtain ⟨vx0, gx0, ex0⟩ := hdep ⟨2, .data⟩ (by simp) rfl
          have gx0 := gx0 51 rfl (by simp)
          obtain rfl : vx0 = .bool true := ex0
          obtain ⟨vx1, gx1, ex1⟩ := hdep ⟨4, .data⟩ (by simp) rfl
          have gx1 := gx1 53 rfl (by simp)
          obtain rfl : vx1 = .bool true := ex1
          clear hdep hoth
          go_simp
          exact hK _ _ (Below.refl _ _) rfl
        · intro a' w' hB hdep hoth K hK
          rw [if_pos (guard_none rfl)]
          have hbw : Below W8.heap.size W8 w' := (below_drewN (Below.refl _ _) 1).trans hB
          obtain ⟨vx0, gx0, ex0⟩ := hdep ⟨5, .data⟩ (by simp) rfl
          have gx0 := gx0 54 rfl (by simp)
          obtain rfl : vx0 = .bool true := ex0
          clear hdep hoth
          go_simp
          exact hK _ _ (Below.refl _ _) rfl
        · intro a' w' hB hdep hoth K hK
          obtain ⟨vg, gg, eg⟩ := hdep ⟨6, .guard⟩ (by simp) rfl
          have gg := gg 55 rfl (by simp)
          obtain rfl : vg = .bool true := eg
          rw [guard_is rfl rfl gg]
          rw [if_pos (by decide)]
          have hbw : Below W8.heap.size W8 w' := (below_drewN (Below.refl _ _) 1).trans hB
          have t11 := hoth 11 (notDst_at (by kernel_rfl))
          simp only [List.getElem?_toArray, List.getElem?_cons_succ, List.getElem?_cons_zero] at t11
          clear hdep hoth
          go_simp
          exact hK _ _ (Below.refl _ _) rfl
        · intro a' w' hB hdep hoth K hK
          rw [if_pos (guard_none rfl)]
          have hbw : Below W8.heap.size W8 w' := (below_drewN (Below.refl _ _) 1).trans hB
          obtain ⟨vx0, gx0, ex0⟩ := hdep ⟨6, .data⟩ (by simp) rfl
          have gx0 := gx0 55 rfl (by simp)
          obtain rfl : vx0 = .bool true := ex0
          obtain ⟨vx1, gx1, ex1⟩ := hdep ⟨7, .data⟩ (by simp) rfl
          have gx1 := gx1 56 rfl (by simp)
          obtain rfl : vx1 = .bool true := ex1
          clear hdep hoth
          go_simp
          exact hK _ _ (Below.refl _ _) rfl
        · intro a' w' hB hdep hoth K hK
          rw [if_pos (guard_none rfl)]
          have hbw : Below W8.heap.size W8 w' := (below_drewN (Below.refl _ _) 1).trans hB
          obtain ⟨vx0, gx0, ex0⟩ := hdep ⟨8, .data⟩ (by simp) rfl
          have gx0 := gx0 57 rfl (by simp)
          obtain rfl : vx0 = .bool true := ex0
          clear hdep hoth
          go_simp
          exact hK _ _ (Below.refl _ _) rfl
        · intro a' w' hB hdep hoth K hK
          obtain ⟨vg, gg, eg⟩ := hdep ⟨9, .guard⟩ (by simp) rfl
          have gg := gg 58 rfl (by simp)
          obtain rfl : vg = .bool true := eg
          rw [guard_is rfl rfl gg]
          rw [if_pos (by decide)]
          have hbw : Below W8.heap.size W8 w' := (below_drewN (Below.refl _ _) 1).trans hB
          have t10 := hoth 10 (notDst_at (by kernel_rfl))
          simp only [List.getElem?_toArray, List.getElem?_cons_succ, List.getElem?_cons_zero] at t10
          clear hdep hoth
          go_simp
          exact hK _ _ (Below.refl _ _) rfl
        · intro a' w' hB hdep hoth K hK
          obtain ⟨vg, gg, eg⟩ := hdep ⟨9, .guard⟩ (by simp) rfl
          have gg := gg 58 rfl (by simp)
          obtain rfl : vg = .bool true := eg
          rw [guard_is rfl rfl gg]
          rw [if_pos (by decide)]
          have hbw : Below W8.heap.size W8 w' := (below_drewN (Below.refl _ _) 1).trans hB
          obtain ⟨vx0, gx0, ex0⟩ := hdep ⟨10, .data⟩ (by simp) rfl
          have gx0 := gx0 59 rfl (by simp)
          obtain rfl : vx0 = .pointer (some ⟨T10, 0, none⟩) := ex0
          have hq := blk_below Q10.out hbw (blk_lt Q10.out)
          have c0 : w'.cell? ⟨T10, 0, none⟩ = some (.int .u8 4) := blk_cell hq 0
          have lq := blk_lt hq
          clear hq
          clear hdep hoth
          go_simp
          exact hK _ _ (Below.refl _ _) rfl
        · intro a' w' hB hdep hoth K hK
          obtain ⟨vg, gg, eg⟩ := hdep ⟨9, .guard⟩ (by simp) rfl
          have gg := gg 58 rfl (by simp)
          obtain rfl : vg = .bool true := eg
          rw [guard_is rfl rfl gg]
          rw [if_pos (by decide)]
          have hbw : Below W8.heap.size W8 w' := (below_drewN (Below.refl _ _) 1).trans hB
          obtain ⟨vx0, gx0, ex0⟩ := hdep ⟨11, .data⟩ (by simp) rfl
          have gx0 := gx0 60 rfl (by simp)
          obtain rfl : vx0 = .int .u8 4 := ex0
          clear hdep hoth
          go_simp
          exact hK _ _ (Below.refl _ _) rfl
        · intro a' w' hB hdep hoth K hK
          rw [if_pos (guard_none rfl)]
          have hbw : Below W8.heap.size W8 w' := (below_drewN (Below.refl _ _) 1).trans hB
          obtain ⟨vx0, gx0, ex0⟩ := hdep ⟨9, .data⟩ (by simp) rfl
          have gx0 := gx0 58 rfl (by simp)
          obtain rfl : vx0 = .bool true := ex0
          obtain ⟨vx1, gx1, ex1⟩ := hdep ⟨12, .data⟩ (by simp) rfl
          have gx1 := gx1 61 rfl (by simp)
          obtain rfl : vx1 = .bool true := ex1
          clear hdep hoth
          go_simp
          exact hK _ _ (Below.refl _ _) rfl
        · intro a' w' hB hdep hoth K hK
          rw [if_pos (guard_none rfl)]
          have hbw : Below W8.heap.size W8 w' := (below_drewN (Below.refl _ _) 1).trans hB
          obtain ⟨vx0, gx0, ex0⟩ := hdep ⟨13, .data⟩ (by simp) rfl
          have gx0 := gx0 62 rfl (by simp)
          obtain rfl : vx0 = .bool true := ex0
          clear hdep hoth
          go_simp
          exact hK _ _ (Below.refl _ _) rfl
        · intro a' w' hB hdep hoth K hK
          obtain ⟨vg, gg, eg⟩ := hdep ⟨14, .guard⟩ (by simp) rfl
          have gg := gg 63 rfl (by simp)
          obtain rfl : vg = .bool true := eg
          rw [guard_is rfl rfl gg]
          rw [if_pos (by decide)]
          have hbw : Below W8.heap.size W8 w' := (below_drewN (Below.refl _ _) 1).trans hB
          have t10 := hoth 10 (notDst_at (by kernel_rfl))
          simp only [List.getElem?_toArray, List.getElem?_cons_succ, List.getElem?_cons_zero] at t10
          clear hdep hoth
          go_simp
          exact hK _ _ (Below.refl _ _) rfl
        · intro a' w' hB hdep hoth K hK
          obtain ⟨vg, gg, eg⟩ := hdep ⟨14, .guard⟩ (by simp) rfl
          have gg := gg 63 rfl (by simp)
          obtain rfl : vg = .bool true := eg
          rw [guard_is rfl rfl gg]
          rw [if_pos (by decide)]
          have hbw : Below W8.heap.size W8 w' := (below_drewN (Below.refl _ _) 1).trans hB
          obtain ⟨vx0, gx0, ex0⟩ := hdep ⟨15, .data⟩ (by simp) rfl
          have gx0 := gx0 64 rfl (by simp)
          obtain rfl : vx0 = .pointer (some ⟨T10, 1, none⟩) := ex0
          have hq := blk_below Q10.out hbw (blk_lt Q10.out)
          have c1 : w'.cell? ⟨T10, 1, none⟩ = some (.slice (some ⟨g, 0, none⟩) 3 gc) := blk_cell hq 1
          have lq := blk_lt hq
          clear hq
          clear hdep hoth
          go_simp
          exact hK _ _ (Below.refl _ _) rfl
        · intro a' w' hB hdep hoth K hK
          obtain ⟨vg, gg, eg⟩ := hdep ⟨14, .guard⟩ (by simp) rfl
          have gg := gg 63 rfl (by simp)
          obtain rfl : vg = .bool true := eg
          rw [guard_is rfl rfl gg]
          rw [if_pos (by decide)]
          have hbw : Below W8.heap.size W8 w' := (below_drewN (Below.refl _ _) 1).trans hB
          obtain ⟨vx0, gx0, ex0⟩ := hdep ⟨16, .data⟩ (by simp) rfl
          have gx0 := gx0 65 rfl (by simp)
          obtain rfl : vx0 = .slice (some ⟨g, 0, none⟩) 3 gc := ex0
          clear hdep hoth
          go_simp
          exact hK _ _ (Below.refl _ _) rfl
        · intro a' w' hB hdep hoth K hK
          obtain ⟨vg, gg, eg⟩ := hdep ⟨14, .guard⟩ (by simp) rfl
          have gg := gg 63 rfl (by simp)
          obtain rfl : vg = .bool true := eg
          rw [guard_is rfl rfl gg]
          rw [if_pos (by decide)]
          have hbw : Below W8.heap.size W8 w' := (below_drewN (Below.refl _ _) 1).trans hB
          obtain ⟨vx0, gx0, ex0⟩ := hdep ⟨17, .data⟩ (by simp) rfl
          have gx0 := gx0 66 rfl (by simp)
          obtain rfl : vx0 = .int .i64 3 := ex0
          clear hdep hoth
          go_simp
          exact hK _ _ (Below.refl _ _) rfl
        · intro a' w' hB hdep hoth K hK
          rw [if_pos (guard_none rfl)]
          have hbw : Below W8.heap.size W8 w' := (below_drewN (Below.refl _ _) 1).trans hB
          obtain ⟨vx0, gx0, ex0⟩ := hdep ⟨14, .data⟩ (by simp) rfl
          have gx0 := gx0 63 rfl (by simp)
          obtain rfl : vx0 = .bool true := ex0
          obtain ⟨vx1, gx1, ex1⟩ := hdep ⟨18, .data⟩ (by simp) rfl
          have gx1 := gx1 67 rfl (by simp)
          obtain rfl : vx1 = .bool true := ex1
          clear hdep hoth
          go_simp
          exact hK _ _ (Below.refl _ _) rfl
        · intro a' w' hB hdep hoth K hK
          rw [if_pos (guard_none rfl)]
          have hbw : Below W8.heap.size W8 w' := (below_drewN (Below.refl _ _) 1).trans hB
          obtain ⟨vx0, gx0, ex0⟩ := hdep ⟨19, .data⟩ (by simp) rfl
          have gx0 := gx0 68 rfl (by simp)
          obtain rfl : vx0 = .bool true := ex0
          clear hdep hoth
          go_simp
          exact hK _ _ (Below.refl _ _) rfl
        · intro a' w' hB hdep hoth K hK
          obtain ⟨vg, gg, eg⟩ := hdep ⟨20, .guard⟩ (by simp) rfl
          have gg := gg 69 rfl (by simp)
          obtain rfl : vg = .bool true := eg
          rw [guard_is rfl rfl gg]
          rw [if_pos (by decide)]
          have hbw : Below W8.heap.size W8 w' := (below_drewN (Below.refl _ _) 1).trans hB
          have t10 := hoth 10 (notDst_at (by kernel_rfl))
          simp only [List.getElem?_toArray, List.getElem?_cons_succ, List.getElem?_cons_zero] at t10
          clear hdep hoth
          go_simp
          exact hK _ _ (Below.refl _ _) rfl
        · intro a' w' hB hdep hoth K hK
          obtain ⟨vg, gg, eg⟩ := hdep ⟨20, .guard⟩ (by simp) rfl
          have gg := gg 69 rfl (by simp)
          obtain rfl : vg = .bool true := eg
          rw [guard_is rfl rfl gg]
          rw [if_pos (by decide)]
          have hbw : Below W8.heap.size W8 w' := (below_drewN (Below.refl _ _) 1).trans hB
          obtain ⟨vx0, gx0, ex0⟩ := hdep ⟨21, .data⟩ (by simp) rfl
          have gx0 := gx0 70 rfl (by simp)
          obtain rfl : vx0 = .pointer (some ⟨T10, 1, none⟩) := ex0
          have hq := blk_below Q10.out hbw (blk_lt Q10.out)
          have c1 : w'.cell? ⟨T10, 1, none⟩ = some (.slice (some ⟨g, 0, none⟩) 3 gc) := blk_cell hq 1
          have lq := blk_lt hq
          clear hq
          clear hdep hoth
          go_simp
          exact hK _ _ (Below.refl _ _) rfl
        · intro a' w' hB hdep hoth K hK
          obtain ⟨vg, gg, eg⟩ := hdep ⟨20, .guard⟩ (by simp) rfl
          have gg := gg 69 rfl (by simp)
          obtain rfl : vg = .bool true := eg
          rw [guard_is rfl rfl gg]
          rw [if_pos (by decide)]
          have hbw : Below W8.heap.size W8 w' := (below_drewN (Below.refl _ _) 1).trans hB
          obtain ⟨vx0, gx0, ex0⟩ := hdep ⟨22, .data⟩ (by simp) rfl
          have gx0 := gx0 71 rfl (by simp)
          obtain rfl : vx0 = .slice (some ⟨g, 0, none⟩) 3 gc := ex0
          clear hdep hoth
          go_simp
          exact hK _ _ (Below.refl _ _) rfl
        · intro a' w' hB hdep hoth K hK
          obtain ⟨vg, gg, eg⟩ := hdep ⟨20, .guard⟩ (by simp) rfl
          have gg := gg 69 rfl (by simp)
          obtain rfl : vg = .bool true := eg
          rw [guard_is rfl rfl gg]
          rw [if_pos (by decide)]
          have hbw : Below W8.heap.size W8 w' := (below_drewN (Below.refl _ _) 1).trans hB
          obtain ⟨vx0, gx0, ex0⟩ := hdep ⟨23, .data⟩ (by simp) rfl
          have gx0 := gx0 72 rfl (by simp)
          obtain rfl : vx0 = .pointer (some ⟨g, 0, none⟩) := ex0
          have cj : w'.cell? ⟨g, 0, none⟩ = some (.int .i64 x.key) := cell_below F0.out hbw
          have lq := lt_of_cell cj
          dsimp only at lq
          clear hdep hoth
          go_simp
          exact hK _ _ (Below.refl _ _) rfl
        · intro a' w' hB hdep hoth K hK
          obtain ⟨vg, gg, eg⟩ := hdep ⟨20, .guard⟩ (by simp) rfl
          have gg := gg 69 rfl (by simp)
          obtain rfl : vg = .bool true := eg
          rw [guard_is rfl rfl gg]
          rw [if_pos (by decide)]
          have hbw : Below W8.heap.size W8 w' := (below_drewN (Below.refl _ _) 1).trans hB
          have t3 := hoth 3 (notDst_at (by kernel_rfl))
          simp only [List.getElem?_toArray, List.getElem?_cons_succ, List.getElem?_cons_zero] at t3
          clear hdep hoth
          go_simp
          exact hK _ _ (Below.refl _ _) rfl
        · intro a' w' hB hdep hoth K hK
          obtain ⟨vg, gg, eg⟩ := hdep ⟨20, .guard⟩ (by simp) rfl
          have gg := gg 69 rfl (by simp)
          obtain rfl : vg = .bool true := eg
          rw [guard_is rfl rfl gg]
          rw [if_pos (by decide)]
          have hbw : Below W8.heap.size W8 w' := (below_drewN (Below.refl _ _) 1).trans hB
          obtain ⟨vx0, gx0, ex0⟩ := hdep ⟨25, .data⟩ (by simp) rfl
          have gx0 := gx0 74 rfl (by simp)
          obtain rfl : vx0 = .pointer (some ⟨w.heap.size, 2, none⟩) := ex0
          have hq := blk_below Q0.out hbw (blk_lt Q0.out)
          have c2 : w'.cell? ⟨w.heap.size, 2, none⟩ = some (.int .i64 x.key) := blk_cell hq 2
          have lq := blk_lt hq
          clear hq
          clear hdep hoth
          go_simp
          exact hK _ _ (Below.refl _ _) rfl
        · intro a' w' hB hdep hoth K hK
          obtain ⟨vg, gg, eg⟩ := hdep ⟨20, .guard⟩ (by simp) rfl
          have gg := gg 69 rfl (by simp)
          obtain rfl : vg = .bool true := eg
          rw [guard_is rfl rfl gg]
          rw [if_pos (by decide)]
          have hbw : Below W8.heap.size W8 w' := (below_drewN (Below.refl _ _) 1).trans hB
          obtain ⟨vx0, gx0, ex0⟩ := hdep ⟨24, .data⟩ (by simp) rfl
          have gx0 := gx0 73 rfl (by simp)
          obtain rfl : vx0 = .int .i64 x.key := ex0
          obtain ⟨vx1, gx1, ex1⟩ := hdep ⟨26, .data⟩ (by simp) rfl
          have gx1 := gx1 75 rfl (by simp)
          obtain rfl : vx1 = .int .i64 x.key := ex1
          clear hdep hoth
          go_simp
          exact hK _ _ (Below.refl _ _) rfl
        · intro a' w' hB hdep hoth K hK
          rw [if_pos (guard_none rfl)]
          have hbw : Below W8.heap.size W8 w' := (below_drewN (Below.refl _ _) 1).trans hB
          obtain ⟨vx0, gx0, ex0⟩ := hdep ⟨20, .data⟩ (by simp) rfl
          have gx0 := gx0 69 rfl (by simp)
          obtain rfl : vx0 = .bool true := ex0
          obtain ⟨vx1, gx1, ex1⟩ := hdep ⟨27, .data⟩ (by simp) rfl
          have gx1 := gx1 76 rfl (by simp)
          obtain rfl : vx1 = .bool true := ex1
          clear hdep hoth
          go_simp
          exact hK _ _ (Below.refl _ _) rfl
        · intro a' w' hB hdep hoth K hK
          rw [if_pos (guard_none rfl)]
          have hbw : Below W8.heap.size W8 w' := (below_drewN (Below.refl _ _) 1).trans hB
          obtain ⟨vx0, gx0, ex0⟩ := hdep ⟨28, .data⟩ (by simp) rfl
          have gx0 := gx0 77 rfl (by simp)
          obtain rfl : vx0 = .bool true := ex0
          clear hdep hoth
          go_simp
          exact hK _ _ (Below.refl _ _) rfl
        · intro a' w' hB hdep hoth K hK
          obtain ⟨vg, gg, eg⟩ := hdep ⟨29, .guard⟩ (by simp) rfl
          have gg := gg 78 rfl (by simp)
          obtain rfl : vg = .bool true := eg
          rw [guard_is rfl rfl gg]
          rw [if_pos (by decide)]
          have hbw : Below W8.heap.size W8 w' := (below_drewN (Below.refl _ _) 1).trans hB
          have t10 := hoth 10 (notDst_at (by kernel_rfl))
          simp only [List.getElem?_toArray, List.getElem?_cons_succ, List.getElem?_cons_zero] at t10
          clear hdep hoth
          go_simp
          exact hK _ _ (Below.refl _ _) rfl
        · intro a' w' hB hdep hoth K hK
          obtain ⟨vg, gg, eg⟩ := hdep ⟨29, .guard⟩ (by simp) rfl
          have gg := gg 78 rfl (by simp)
          obtain rfl : vg = .bool true := eg
          rw [guard_is rfl rfl gg]
          rw [if_pos (by decide)]
          have hbw : Below W8.heap.size W8 w' := (below_drewN (Below.refl _ _) 1).trans hB
          obtain ⟨vx0, gx0, ex0⟩ := hdep ⟨30, .data⟩ (by simp) rfl
          have gx0 := gx0 79 rfl (by simp)
          obtain rfl : vx0 = .pointer (some ⟨T10, 1, none⟩) := ex0
          have hq := blk_below Q10.out hbw (blk_lt Q10.out)
          have c1 : w'.cell? ⟨T10, 1, none⟩ = some (.slice (some ⟨g, 0, none⟩) 3 gc) := blk_cell hq 1
          have lq := blk_lt hq
          clear hq
          clear hdep hoth
          go_simp
          exact hK _ _ (Below.refl _ _) rfl
        · intro a' w' hB hdep hoth K hK
          obtain ⟨vg, gg, eg⟩ := hdep ⟨29, .guard⟩ (by simp) rfl
          have gg := gg 78 rfl (by simp)
          obtain rfl : vg = .bool true := eg
          rw [guard_is rfl rfl gg]
          rw [if_pos (by decide)]
          have hbw : Below W8.heap.size W8 w' := (below_drewN (Below.refl _ _) 1).trans hB
          obtain ⟨vx0, gx0, ex0⟩ := hdep ⟨31, .data⟩ (by simp) rfl
          have gx0 := gx0 80 rfl (by simp)
          obtain rfl : vx0 = .slice (some ⟨g, 0, none⟩) 3 gc := ex0
          clear hdep hoth
          go_simp
          exact hK _ _ (Below.refl _ _) rfl
        · intro a' w' hB hdep hoth K hK
          obtain ⟨vg, gg, eg⟩ := hdep ⟨29, .guard⟩ (by simp) rfl
          have gg := gg 78 rfl (by simp)
          obtain rfl : vg = .bool true := eg
          rw [guard_is rfl rfl gg]
          rw [if_pos (by decide)]
          have hbw : Below W8.heap.size W8 w' := (below_drewN (Below.refl _ _) 1).trans hB
          obtain ⟨vx0, gx0, ex0⟩ := hdep ⟨32, .data⟩ (by simp) rfl
          have gx0 := gx0 81 rfl (by simp)
          obtain rfl : vx0 = .pointer (some ⟨g, 1, none⟩) := ex0
          have cj : w'.cell? ⟨g, 1, none⟩ = some (.int .i64 i) := cell_below F1.out hbw
          have lq := lt_of_cell cj
          dsimp only at lq
          clear hdep hoth
          go_simp
          exact hK _ _ (Below.refl _ _) rfl
        · intro a' w' hB hdep hoth K hK
          obtain ⟨vg, gg, eg⟩ := hdep ⟨29, .guard⟩ (by simp) rfl
          have gg := gg 78 rfl (by simp)
          obtain rfl : vg = .bool true := eg
          rw [guard_is rfl rfl gg]
          rw [if_pos (by decide)]
          have hbw : Below W8.heap.size W8 w' := (below_drewN (Below.refl _ _) 1).trans hB
          have t4 := hoth 4 (notDst_at (by kernel_rfl))
          simp only [List.getElem?_toArray, List.getElem?_cons_succ, List.getElem?_cons_zero] at t4
          clear hdep hoth
          go_simp
          exact hK _ _ (Below.refl _ _) rfl
        · intro a' w' hB hdep hoth K hK
          obtain ⟨vg, gg, eg⟩ := hdep ⟨29, .guard⟩ (by simp) rfl
          have gg := gg 78 rfl (by simp)
          obtain rfl : vg = .bool true := eg
          rw [guard_is rfl rfl gg]
          rw [if_pos (by decide)]
          have hbw : Below W8.heap.size W8 w' := (below_drewN (Below.refl _ _) 1).trans hB
          obtain ⟨vx0, gx0, ex0⟩ := hdep ⟨34, .data⟩ (by simp) rfl
          have gx0 := gx0 83 rfl (by simp)
          obtain rfl : vx0 = .pointer (some ⟨w.heap.size + 1, 3, none⟩) := ex0
          have hq := blk_below Q1.out hbw (blk_lt Q1.out)
          have c3 : w'.cell? ⟨w.heap.size + 1, 3, none⟩ = some (.int .i64 i) := blk_cell hq 3
          have lq := blk_lt hq
          clear hq
          clear hdep hoth
          go_simp
          exact hK _ _ (Below.refl _ _) rfl
        · intro a' w' hB hdep hoth K hK
          obtain ⟨vg, gg, eg⟩ := hdep ⟨29, .guard⟩ (by simp) rfl
          have gg := gg 78 rfl (by simp)
          obtain rfl : vg = .bool true := eg
          rw [guard_is rfl rfl gg]
          rw [if_pos (by decide)]
          have hbw : Below W8.heap.size W8 w' := (below_drewN (Below.refl _ _) 1).trans hB
          obtain ⟨vx0, gx0, ex0⟩ := hdep ⟨33, .data⟩ (by simp) rfl
          have gx0 := gx0 82 rfl (by simp)
          obtain rfl : vx0 = .int .i64 i := ex0
          obtain ⟨vx1, gx1, ex1⟩ := hdep ⟨35, .data⟩ (by simp) rfl
          have gx1 := gx1 84 rfl (by simp)
          obtain rfl : vx1 = .int .i64 i := ex1
          clear hdep hoth
          go_simp
          exact hK _ _ (Below.refl _ _) rfl
        · intro a' w' hB hdep hoth K hK
          rw [if_pos (guard_none rfl)]
          have hbw : Below W8.heap.size W8 w' := (below_drewN (Below.refl _ _) 1).trans hB
          obtain ⟨vx0, gx0, ex0⟩ := hdep ⟨29, .data⟩ (by simp) rfl
          have gx0 := gx0 78 rfl (by simp)
          obtain rfl : vx0 = .bool true := ex0
          obtain ⟨vx1, gx1, ex1⟩ := hdep ⟨36, .data⟩ (by simp) rfl
          have gx1 := gx1 85 rfl (by simp)
          obtain rfl : vx1 = .bool true := ex1
          clear hdep hoth
          go_simp
          exact hK _ _ (Below.refl _ _) rfl
        · intro a' w' hB hdep hoth K hK
          rw [if_pos (guard_none rfl)]
          have hbw : Below W8.heap.size W8 w' := (below_drewN (Below.refl _ _) 1).trans hB
          obtain ⟨vx0, gx0, ex0⟩ := hdep ⟨37, .data⟩ (by simp) rfl
          have gx0 := gx0 86 rfl (by simp)
          obtain rfl : vx0 = .bool true := ex0
          clear hdep hoth
          go_simp
          exact hK _ _ (Below.refl _ _) rfl
        · intro a' w' hB hdep hoth K hK
          obtain ⟨vg, gg, eg⟩ := hdep ⟨38, .guard⟩ (by simp) rfl
          have gg := gg 87 rfl (by simp)
          obtain rfl : vg = .bool true := eg
          rw [guard_is rfl rfl gg]
          rw [if_pos (by decide)]
          have hbw : Below W8.heap.size W8 w' := (below_drewN (Below.refl _ _) 1).trans hB
          have t10 := hoth 10 (notDst_at (by kernel_rfl))
          simp only [List.getElem?_toArray, List.getElem?_cons_succ, List.getElem?_cons_zero] at t10
          clear hdep hoth
          go_simp
          exact hK _ _ (Below.refl _ _) rfl
        · intro a' w' hB hdep hoth K hK
          obtain ⟨vg, gg, eg⟩ := hdep ⟨38, .guard⟩ (by simp) rfl
          have gg := gg 87 rfl (by simp)
          obtain rfl : vg = .bool true := eg
          rw [guard_is rfl rfl gg]
          rw [if_pos (by decide)]
          have hbw : Below W8.heap.size W8 w' := (below_drewN (Below.refl _ _) 1).trans hB
          obtain ⟨vx0, gx0, ex0⟩ := hdep ⟨39, .data⟩ (by simp) rfl
          have gx0 := gx0 88 rfl (by simp)
          obtain rfl : vx0 = .pointer (some ⟨T10, 1, none⟩) := ex0
          have hq := blk_below Q10.out hbw (blk_lt Q10.out)
          have c1 : w'.cell? ⟨T10, 1, none⟩ = some (.slice (some ⟨g, 0, none⟩) 3 gc) := blk_cell hq 1
          have lq := blk_lt hq
          clear hq
          clear hdep hoth
          go_simp
          exact hK _ _ (Below.refl _ _) rfl
        · intro a' w' hB hdep hoth K hK
          obtain ⟨vg, gg, eg⟩ := hdep ⟨38, .guard⟩ (by simp) rfl
          have gg := gg 87 rfl (by simp)
          obtain rfl : vg = .bool true := eg
          rw [guard_is rfl rfl gg]
          rw [if_pos (by decide)]
          have hbw : Below W8.heap.size W8 w' := (below_drewN (Below.refl _ _) 1).trans hB
          obtain ⟨vx0, gx0, ex0⟩ := hdep ⟨40, .data⟩ (by simp) rfl
          have gx0 := gx0 89 rfl (by simp)
          obtain rfl : vx0 = .slice (some ⟨g, 0, none⟩) 3 gc := ex0
          clear hdep hoth
          go_simp
          exact hK _ _ (Below.refl _ _) rfl
        · intro a' w' hB hdep hoth K hK
          obtain ⟨vg, gg, eg⟩ := hdep ⟨38, .guard⟩ (by simp) rfl
          have gg := gg 87 rfl (by simp)
          obtain rfl : vg = .bool true := eg
          rw [guard_is rfl rfl gg]
          rw [if_pos (by decide)]
          have hbw : Below W8.heap.size W8 w' := (below_drewN (Below.refl _ _) 1).trans hB
          obtain ⟨vx0, gx0, ex0⟩ := hdep ⟨41, .data⟩ (by simp) rfl
          have gx0 := gx0 90 rfl (by simp)
          obtain rfl : vx0 = .pointer (some ⟨g, 2, none⟩) := ex0
          have cj : w'.cell? ⟨g, 2, none⟩ = some (.int .i64 now) := cell_below F2.out hbw
          have lq := lt_of_cell cj
          dsimp only at lq
          clear hdep hoth
          go_simp
          exact hK _ _ (Below.refl _ _) rfl
        · intro a' w' hB hdep hoth K hK
          obtain ⟨vg, gg, eg⟩ := hdep ⟨38, .guard⟩ (by simp) rfl
          have gg := gg 87 rfl (by simp)
          obtain rfl : vg = .bool true := eg
          rw [guard_is rfl rfl gg]
          rw [if_pos (by decide)]
          have hbw : Below W8.heap.size W8 w' := (below_drewN (Below.refl _ _) 1).trans hB
          have t2 := hoth 2 (notDst_at (by kernel_rfl))
          simp only [List.getElem?_toArray, List.getElem?_cons_succ, List.getElem?_cons_zero] at t2
          clear hdep hoth
          go_simp
          exact hK _ _ (Below.refl _ _) rfl
        · intro a' w' hB hdep hoth K hK
          obtain ⟨vg, gg, eg⟩ := hdep ⟨38, .guard⟩ (by simp) rfl
          have gg := gg 87 rfl (by simp)
          obtain rfl : vg = .bool true := eg
          rw [guard_is rfl rfl gg]
          rw [if_pos (by decide)]
          have hbw : Below W8.heap.size W8 w' := (below_drewN (Below.refl _ _) 1).trans hB
          obtain ⟨vx0, gx0, ex0⟩ := hdep ⟨42, .data⟩ (by simp) rfl
          have gx0 := gx0 91 rfl (by simp)
          obtain rfl : vx0 = .int .i64 now := ex0
          obtain ⟨vx1, gx1, ex1⟩ := hdep ⟨43, .data⟩ (by simp) rfl
          have gx1 := gx1 92 rfl (by simp)
          obtain rfl : vx1 = .int .i64 now := ex1
          clear hdep hoth
          go_simp
          exact hK _ _ (Below.refl _ _) rfl
        · intro a' w' hB hdep hoth K hK
          rw [if_pos (guard_none rfl)]
          have hbw : Below W8.heap.size W8 w' := (below_drewN (Below.refl _ _) 1).trans hB
          obtain ⟨vx0, gx0, ex0⟩ := hdep ⟨38, .data⟩ (by simp) rfl
          have gx0 := gx0 87 rfl (by simp)
          obtain rfl : vx0 = .bool true := ex0
          obtain ⟨vx1, gx1, ex1⟩ := hdep ⟨44, .data⟩ (by simp) rfl
          have gx1 := gx1 93 rfl (by simp)
          obtain rfl : vx1 = .bool true := ex1
          clear hdep hoth
          go_simp
          exact hK _ _ (Below.refl _ _) rfl
        · intro a' w' hB hdep hoth K hK
          rw [if_pos (guard_none rfl)]
          have hbw : Below W8.heap.size W8 w' := (below_drewN (Below.refl _ _) 1).trans hB
          obtain ⟨vx0, gx0, ex0⟩ := hdep ⟨45, .data⟩ (by simp) rfl
          have gx0 := gx0 94 rfl (by simp)
          obtain rfl : vx0 = .bool true := ex0
          clear hdep hoth
          go_simp
          exact hK _ _ (Below.refl _ _) rfl
        · intro a' w' hB hdep hoth K hK
          obtain ⟨vg, gg, eg⟩ := hdep ⟨46, .guard⟩ (by simp) rfl
          have gg := gg 95 rfl (by simp)
          obtain rfl : vg = .bool true := eg
          rw [guard_is rfl rfl gg]
          rw [if_pos (by decide)]
          have hbw : Below W8.heap.size W8 w' := (below_drewN (Below.refl _ _) 1).trans hB
          have HA := hid (wakes_any w' (HA.out.below (HB8.out.trans (hbw.mono HB8.out.size))) (HC.out.below (HB8.out.trans (hbw.mono HB8.out.size))) (HL.out.below (HB8.out.trans (hbw.mono HB8.out.size))))
          clear hdep hoth
          go_simp
          refine HA.out.mono ?_
          rintro e w'' ⟨rfl, hb⟩
          exact hK _ _ hb rfl
        · intro a' w' hB hdep hoth K hK
          rw [if_pos (guard_none rfl)]
          have hbw : Below W8.heap.size W8 w' := (below_drewN (Below.refl _ _) 1).trans hB
          obtain ⟨vx0, gx0, ex0⟩ := hdep ⟨46, .data⟩ (by simp) rfl
          have gx0 := gx0 95 rfl (by simp)
          obtain rfl : vx0 = .bool true := ex0
          obtain ⟨vx1, gx1, ex1⟩ := hdep ⟨47, .data⟩ (by simp) rfl
          have gx1 := gx1 96 rfl (by simp)
          obtain rfl : vx1 = .bool true := ex1
          clear hdep hoth
          go_simp
          exact hK _ _ (Below.refl _ _) rfl
        · intro a' w' hB hdep hoth K hK
          rw [if_pos (guard_none rfl)]
          have hbw : Below W8.heap.size W8 w' := (below_drewN (Below.refl _ _) 1).trans hB
          obtain ⟨vx0, gx0, ex0⟩ := hdep ⟨48, .data⟩ (by simp) rfl
          have gx0 := gx0 97 rfl (by simp)
          obtain rfl : vx0 = .bool true := ex0
          clear hdep hoth
          go_simp
          exact hK _ _ (Below.refl _ _) rfl
      case fin12 =>
        intro vs X hB hs
        have hbw : Below W8.heap.size W8 X := (below_drewN (Below.refl _ _) 1).trans hB
        have ev : vs 49 = .bool true := hs 49 (by decide)
        clear hs
        simp only [actOf, dstAt, if_true, List.getElem?_toArray, List.getElem?_cons_succ, List.getElem?_cons_zero, Option.bind_some, Act.put, List.setIfInBounds_toArray, List.set_cons_zero, List.set_cons_succ, List.length_cons, List.length_nil, Nat.reduceAdd]
        rw [ev]
        clear ev hB
        have HBX := hid (HB8.out.trans (hbw.mono HB8.out.size))
        clear hbw
        go_wp2
        go_ret
        exact ⟨rfl, HBX.out⟩
    · rw [says5] at hs
      cases hs
end Go.Proofs.YthhgpiolcnojfaaDoor

/- The statement HearSays of herdlaw22: a launch that is done says its token, and the box. -/
namespace Go.Proofs.YthhgpiolcnojfaaDoor
open Go.ChangeShapes Go.WideShapes Go.ChangeAt Go.RowKit Go.Deep Go.Joins

set_option maxRecDepth 100000 in
theorem hearSays_lifted (os : Os) (started : os.Started) (H : Type) (enc : TypeId × Value → H) :
    ReturnsInHanded {} Tryd.checked os 3 .any (fun w args => (Rows.hearSaysSpec.pre enc Tryd.prog Tryd.f3 [] false w args ∧ laidMetH Tryd.prog [("herd/conf.limits", Rows.laid_herd_conf_limits), ("herd/brain.changes", Rows.laid_herd_brain_changes), ("herd/duty.asked", Rows.laid_herd_duty_asked)] w) ∧ sizedMet enc Tryd.prog Tryd.f3 (OpenSpec.ofChange Rows.hearSaysSpec) false w args)
      (Rows.hearSaysSpec.post enc Tryd.prog Tryd.f3 false true false false) := by
  refine returnsInHanded_of_change_and (C := Tryd.checked) (X := fun w _ => laidMetH Tryd.prog [("herd/conf.limits", Rows.laid_herd_conf_limits), ("herd/brain.changes", Rows.laid_herd_brain_changes), ("herd/duty.asked", Rows.laid_herd_duty_asked)] w) (fun _ _ _ hh h => h.of_heap hh) ownKnob_none started (by kernel_rfl) Tryd.func3
    (ChangeSpec.witness_shaped (enc := enc) (C := Tryd.checked) (os := os) (X := fun w _ => laidMetH Tryd.prog [("herd/conf.limits", Rows.laid_herd_conf_limits), ("herd/brain.changes", Rows.laid_herd_brain_changes), ("herd/duty.asked", Rows.laid_herd_duty_asked)] w) false (World.doorLaid Tryd.prog 100 os) #[.agg #[.int .i64 0, .int .u8 0, .int .i64 0, .int .i64 0], .agg #[.int .i64 0, .int .u8 0, .int .u8 0, .int .i64 0, .slice none 0 0, .bool false], .int .i64 0] 8 rfl (World.shaped_of_RefB (by kernel_rfl) (by kernel_rfl)) (by kernel_rfl) (by kernel_rfl) (by kernel_rfl)
      (laidMetH_of_parts3 (fuel := 8) (laidMet_of_run' 8 (by kernel_rfl) (by kernel_rfl)) (by kernel_rfl) (by kernel_rfl))) ?_
  intro W base args ds gs before hval0 hW _ _ hL _
  have hTab := tables3 hL
  have hval : ∀ (j : Nat) t v, Tryd.f3.params[j]? = some t → args[j]? = some v → Value.okWide Tryd.prog W .any base t v := hval0
  have hW' := hW
  obtain ⟨p, q, hA0, hV, rfl, hfz, hnd⟩ := hW
  have hA : DataW.TrodAll enc Tryd.prog W 0 (fun _ => true) true Tryd.f3.params.toList args.toList ds p := hA0
  have hlt : ∀ x ∈ p, x.block < W.heap.size := fun x hx => by simpa using hW'.lt x (List.mem_append_left _ hx)
  have hback : ∀ W', Below W.heap.size W W' → DataW.TrodAll enc Tryd.prog W' 0 (fun b => decide (b < W.heap.size)) true Tryd.f3.params.toList args.toList ds p := fun W' hb =>
    trodAll_below hb _ _ _ _ (by
      rw [Tryd.params3]
      intro t ht
      simp only [List.mem_cons, List.mem_nil_iff, or_false] at ht
      rcases ht with rfl | rfl | rfl <;> exact ⟨by kernel_rfl, of_decide_eq_true (by kernel_rfl)⟩) hA hlt
  rw [Tryd.params3] at hA hval
  obtain ⟨v0, vs0, d0, ds0, p0, q0, hargs, rfl, rfl, h0, r0⟩ := trodAll_cons hA
  obtain ⟨v1, vs1, d1, ds1, p1, q1, rfl, rfl, rfl, h1, r1⟩ := trodAll_cons r0
  obtain ⟨v2, vs2, d2, ds2, p2, q2, rfl, rfl, rfl, h2, r2⟩ := trodAll_cons r1
  obtain ⟨rfl, rfl, rfl⟩ := trodAll_nil r2
  obtain rfl : args = #[v0, v1, v2] := by cases args; simp_all
  obtain ⟨rfl, rfl⟩ := trodVars_none hV
  obtain ⟨x0, rfl, wx0⟩ := open_call (hval 0 23 v0 rfl rfl) h0
  obtain ⟨tc1, tk1, td1, ti1, ta1, tn1, tp1, tm1, rfl, wc1, wk1, wd1, wi1⟩ := open_tell (hval 1 26 v1 rfl rfl) h1
  obtain ⟨a2, rfl, rfl, rfl, w2⟩ := open_int Tryd.underlying3 (hval 2 3 v2 rfl rfl) h2
  clear hA0 hval0
  refine (hsays_law x0 tc1 tk1 td1 ti1 a2 ta1 tn1 tp1 tm1 W hTab.2.2 hTab.2.1 hTab.1).mono fun e W' ⟨he, hg⟩ => ?_
  subst he
  exact ⟨_, rfl, _, _, _, [], _, [], hW', trodAll_cons_mk (shut_bool Tryd.underlying4 _) trodAll_mk0, hback W' hg, rfl, hg.frame _, fun h => by cases h⟩

theorem hearSays_holds : Rows.HearSaysSaid :=
  OpenClaim.holds_of_wide 3 Tryd.f3 rfl rfl rfl rfl rfl rfl rfl ⟨rfl, rfl, rfl, rfl, rfl⟩ rfl rfl rfl rfl rfl (by kernel_rfl) Tryd.func3 (by kernel_rfl)
    (of_decide_eq_true (by kernel_rfl)) (by unfold Func.isWrapper; first | (rw [if_pos (by decide +kernel)]; kernel_rfl) | (rw [if_neg (by decide +kernel)]; exact ⟨rfl, rfl⟩))
    (fun os started H enc _ => hearSays_lifted os started H enc)
#print axioms hearSays_holds
end Go.Proofs.YthhgpiolcnojfaaDoor

/- The card of HearSays. -/
namespace Go.Proofs.YthhgpiolcnojfaaDoor
open Go

theorem hearSaysCard_holds : Rows.HearSaysCardSaid :=
  Claim7.holds_tied_plain_at .later [] [.data, .widerDeep, .mapped] true (true, "c2432b0c0d8e90da6ed50d7a49d2491f2d27770145d954957a486c0d0fee2f59") true
    hearSays_holds (fun _ h => by cases h) (by kernel_rfl) (fun _ h => by cases h) hearSays_row_tie rfl ⟨rfl, rfl⟩ (by kernel_rfl) rfl
    (fun f fn hf hfn => by
      obtain rfl : f = 3 := Option.some.inj ((show Tryd.prog.funcNamed "herd/herdlaw22.HearSays" = some 3 by kernel_rfl).symm.trans hf) |>.symm
      obtain rfl : fn = Tryd.f3 := (Option.some.inj (Tryd.func3.symm.trans hfn)).symm
      exact ⟨by kernel_rfl, fun j t ht => by
        rw [Tryd.params3] at ht
        have h3 : t = 23 ∨ t = 26 ∨ t = 3 := by
          rcases j with _ | _ | _ | j
          · exact .inl (by simpa using ht.symm)
          · exact .inr (.inl (by simpa using ht.symm))
          · exact .inr (.inr (by simpa using ht.symm))
          · simp at ht
        rcases h3 with rfl | rfl | rfl
        · exact (show Tryd.prog.wantsStandIn 23 = false by kernel_rfl)
        · exact (show Tryd.prog.wantsStandIn 26 = false by kernel_rfl)
        · exact (show Tryd.prog.wantsStandIn 3 = false by kernel_rfl)⟩)
    (by kernel_rfl)
#print axioms hearSaysCard_holds
end Go.Proofs.YthhgpiolcnojfaaDoor
