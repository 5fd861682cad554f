/- A part of the proofs about open calls: contracts of functions, or plain facts that they want. -/
import Derived.Test.YtljmhmdpihpafaaDoorOpn
namespace Go.Proofs.YtljmhmdpihpafaaDoor
open Go.RowKit Go.Shelf

theorem openErr_zero {c : CallsV} {k key now : Int} (h : openErr c k key now = 0) : rightB c = true ∧ kindB k = true ∧ (numB key && numB now) = true ∧ hasB c.opens k key = false ∧ c.next < 1048576 := by
  unfold openErr at h
  by_cases ho : openOk c k key now = true
  · rw [if_pos ho] at h
    split at h
    · rename_i hx
      unfold openOk at ho
      rw [Bool.and_eq_true, Bool.and_eq_true, Bool.and_eq_true] at ho
      exact ⟨ho.1, ho.2.1, ho.2.2.1, by simpa using ho.2.2.2, hx⟩
    · cases h
  · rw [if_neg ho] at h; cases h

set_option maxHeartbeats 1000000 in
set_option maxRecDepth 10000 in
theorem open1_ok (n : Nat) (ep nx kd ky now : Int) (s v : Value) (L : List CallV) (W : World) (hn : L.length ≤ 900000) (hs : Row12 W s L) (ob : OB n W ep nx s kd ky now nx v 0) (hv : Own12 W (n + 6) v L)
    (hf : openErr ⟨ep, nx, L⟩ kd ky now = 0) (T : Nat) (hT : n + 6 ≤ T) (hTW : T < W.heap.size) (hTv : v.ownBlock ≠ some T) :
    Calls Tryd.prog 32 #[.pointer (some ⟨n, 0, none⟩), .pointer (some ⟨n + 1, 0, none⟩), .pointer (some ⟨n + 2, 0, none⟩), .pointer (some ⟨n + 3, 0, none⟩), .pointer (some ⟨n + 5, 0, none⟩), .pointer (some ⟨n + 4, 0, none⟩)] W
      fun e w' => e = .returned (.tuple #[]) ∧ ∃ v', OB n w' ep nx s kd ky now (nx + 1) v' (ep * 1048576 + nx) ∧ Own12 w' (n + 6) v' (L ++ [⟨ep * 1048576 + nx, kd, ky, now⟩]) ∧ Below n W w' ∧ w'.heap[T]? = W.heap[T]? := by
  obtain ⟨i0, hi, hz0, hz1, hz2⟩ := info_parts infoC
  obtain ⟨e1, e2, e3, e4, e5⟩ := openErr_zero hf
  obtain ⟨i1, i2, i3, i4⟩ := rightB_in e1
  simp only at i1 i2 i3 i4 e4 e5
  obtain ⟨e2a, e2b⟩ := kindB_yes e2
  have HE := hid (Bool.and_eq_true_iff.1 e3)
  have E4 := hid e4
  have d9 : decide (nx < 1048576) = true := by simpa using e5
  obtain ⟨k0, k1, k2, _, l0⟩ := blk3 ob.b0
  obtain ⟨m1, _, l1⟩ := blk1 ob.b1
  obtain ⟨m2, _, l2⟩ := blk1 ob.b2
  obtain ⟨m3, _, l3⟩ := blk1 ob.b3
  have HC := hid (check_any ep nx s L W (by omega) hs)
  rw [e1] at HC
  have HS := hid hs
  have OBH := hid ob
  have HV := hid hv
  clear hs ob hv hf e1 e2 e3 e4
  have hTV := hid hTv
  clear hTv
  go_enter Tryd.func32, Tryd.ntmps32
  go_wp2_with fail
  refine HC.out.mono ?_
  rintro e w1 ⟨he, hb⟩
  obtain rfl : e = .returned (.tuple #[]) := he
  clear k0 k1 k2 l0 m1 l1 m2 l2 m3 l3
  have ob1 := OBH.out.below hb (OB.size OBH.out)
  obtain ⟨k0, k1, k2, _, l0⟩ := blk3 ob1.b0
  obtain ⟨m1, _, l1⟩ := blk1 ob1.b1
  obtain ⟨m2, _, l2⟩ := blk1 ob1.b2
  obtain ⟨m3, _, l3⟩ := blk1 ob1.b3
  have OB1 := hid ob1
  clear ob1
  go_wp2_with fail
  refine (kind_yes _ _ e2a e2b).mono ?_
  rintro e w' ⟨rfl, rfl⟩
  go_wp2_with fail
  refine (numbers2_yes _ ky now _ (by simp [go_sem]) (by simp [go_sem]) HE.out.1 HE.out.2).mono ?_
  rintro e w' ⟨rfl, rfl⟩
  have hb2 : Below W.heap.size W (w1.alloc (.cells #[.int .i64 ky, .int .i64 now] 3)) := hb.alloc hb.size _
  have HH := hid (has_row ep nx kd ky s L _ (by omega) (HS.out.below hb2))
  rw [E4.out] at HH
  go_wp2_with fail
  refine HH.out.mono ?_
  rintro e w2 ⟨rfl, hb3⟩
  have hb4 := hb2.trans (hb3.mono hb2.size)
  have ob2 := OBH.out.below hb4 (OB.size OBH.out)
  have hv2 : Own12 w2 (n + 6) v L := HV.out.below hb4
  clear k0 k1 k2 l0 m1 l1 m2 l2 m3 l3
  obtain ⟨k0, k1, k2, kf0, l0⟩ := blk3 ob2.b0
  obtain ⟨m1, _, l1⟩ := blk1 ob2.b1
  obtain ⟨m2, _, l2⟩ := blk1 ob2.b2
  obtain ⟨m3, _, l3⟩ := blk1 ob2.b3
  obtain ⟨p0, p1, p2, pf, l4⟩ := blk3 ob2.b4
  obtain ⟨q0, qf, l5⟩ := blk1 ob2.b5
  have OB2 := hid ob2
  have HV2 := hid hv2
  clear ob2 hv2
  go_wp2_with fail
  refine (must_yes _ _).mono ?_
  rintro e w' ⟨rfl, rfl⟩
  go_wp2_with fail
  refine (must_yes _ _).mono ?_
  rintro e w' ⟨rfl, rfl⟩
  have c1 : L.length + 1 ≤ maxLen := by unfold maxLen; omega
  have c2 : (L.length + 1) * 32 ≤ 140737488355328 := by omega
  obtain ⟨X, hX⟩ : ∃ X, X = (w2.setCell ⟨n + 5, 0, none⟩ (.int .i64 (ep * 1048576 + nx))).setCell ⟨n + 4, 1, none⟩ (.int .i64 (nx + 1)) := ⟨_, rfl⟩
  have hXs : X.heap.size = w2.heap.size := by rw [hX]; simp [World.setCell]
  have hXv : Own12 X (n + 6) v L := by rw [hX]; exact (HV2.out.other (p := ⟨n + 5, 0, none⟩) (by simp) _).other (p := ⟨n + 4, 1, none⟩) (by simp) _
  have hX0 : X.heap[n]? = some (.cells #[.int .i64 ep, .int .i64 nx, s] 33) := by rw [hX]; exact blk_other (blk_other OB2.out.b0 (p := ⟨n + 5, 0, none⟩) (by simp) _) (p := ⟨n + 4, 1, none⟩) (by simp) _
  have hX1 : X.heap[n + 1]? = some (.cells #[.int .u8 kd] 5) := by rw [hX]; exact blk_other (blk_other OB2.out.b1 (p := ⟨n + 5, 0, none⟩) (by simp) _) (p := ⟨n + 4, 1, none⟩) (by simp) _
  have hX2 : X.heap[n + 2]? = some (.cells #[.int .i64 ky] 3) := by rw [hX]; exact blk_other (blk_other OB2.out.b2 (p := ⟨n + 5, 0, none⟩) (by simp) _) (p := ⟨n + 4, 1, none⟩) (by simp) _
  have hX3 : X.heap[n + 3]? = some (.cells #[.int .i64 now] 3) := by rw [hX]; exact blk_other (blk_other OB2.out.b3 (p := ⟨n + 5, 0, none⟩) (by simp) _) (p := ⟨n + 4, 1, none⟩) (by simp) _
  have hX4 : X.heap[n + 4]? = some (.cells #[.int .i64 ep, .int .i64 (nx + 1), v] 33) := by rw [hX]; exact blk_set (blk_other OB2.out.b4 (p := ⟨n + 5, 0, none⟩) (by simp) _) 1 _
  have hX5 : X.heap[n + 5]? = some (.cells #[.int .i64 (ep * 1048576 + nx)] 3) := by rw [hX]; exact blk_other (blk_set OB2.out.b5 0 _) (p := ⟨n + 4, 1, none⟩) (by simp) _
  have hXb : Below n W X := by rw [hX]; exact (((hb4.mono (by omega)).setCell (p := ⟨n + 5, 0, none⟩) (by simp) _).setCell (p := ⟨n + 4, 1, none⟩) (by simp) _)
  have hXT : X.heap[T]? = W.heap[T]? := by
    rw [hX, Below.heap_setCell _ _ _ _ (by simp; omega), Below.heap_setCell _ _ _ _ (by simp; omega)]
    exact hb4.block T hTW
  have hnew : ∀ j u, (encC ⟨ep * 1048576 + nx, kd, ky, now⟩)[j]? = some u → (X.alloc (.cells #[.int .i64 (ep * 1048576 + nx), .int .u8 kd, .int .i64 ky, .int .i64 now] 45)).cell? ((⟨w2.heap.size, 0, none⟩ : Addr).add j) = some u := by
    rw [← hXs]; exact new_cells X ⟨ep * 1048576 + nx, kd, ky, now⟩ _
  have c3 : ∀ o, n + 6 ≤ (X.alloc o).heap.size := fun o => by rw [World.size_alloc, hXs]; omega
  rw [hX] at hnew hXv c3
  have hne : ∀ k, k < n + 6 → some k ≠ v.ownBlock := fun k hk e => by
    have := (Owns.block HV.out k e.symm).1
    omega
  have HNE := hid hne
  have hn4 : n + 4 < n + 6 := by omega
  have HXv := hid hXv
  have HX0 := hid hX0
  have HX1 := hid hX1
  have HX2 := hid hX2
  have HX3 := hid hX3
  have HX4 := hid hX4
  have HX5 := hid hX5
  have HXT := hid hXT
  have HXB := hid hXb
  have HXE := hid hX
  have HNEW := hid hnew
  have HXS := hid hXs
  clear hX0 hX1 hX2 hX3 hX4 hX5 hXT hXb hX hnew hXv hXs hne
  go_wp2_with (at_builtin; refine wpList_append_own _ rfl _ _ 31 rfl (n + 6) 45 i0 _ 4 32 Tryd.underlying31 hi hz0 hz1 hz2 rfl (by decide) _ L.length _ rfl (World.ownsRow.alloc HXv.out _) ⟨w2.heap.size, 0, none⟩ 1 1 (encC ⟨ep * 1048576 + nx, kd, ky, now⟩) rfl rfl HNEW.out (encC_one _) c1 c2 (c3 _) ?_; intro v' w3 hown' hgrow _; rw [← HXE.out] at hgrow; obtain ⟨g', cap', rfl⟩ := ownsRow_succ hown'; have HOWN := hid hown'; have HGR := hid hgrow; clear hown' hgrow; have HY4 := hid (blk_grown (blk_alloc HX4.out _) HGR.out (HNE.out _ hn4)); obtain ⟨y0, y1, y2, yf, yl⟩ := blk3 HY4.out)
  go_end0
  have hrow : ∀ k, v.ownBlock = some k → n + 6 ≤ k := fun k e => (Owns.block HV.out k e).1
  have hg := HGR.out
  have hne : ∀ k, k < n + 6 → some k ≠ v.ownBlock := fun k hk e => by have := hrow k e.symm; omega
  refine ⟨rfl, .slice (some ⟨g', 0, none⟩) (L.length + 1) cap', ⟨?_, ?_, ?_, ?_, ?_, ?_⟩, ?_, ?_, ?_⟩
  · exact blk_other (blk_grown (blk_alloc HX0.out _) hg (hne _ (by omega))) (p := ⟨n + 4, 2, none⟩) (by simp) _
  · exact blk_other (blk_grown (blk_alloc HX1.out _) hg (hne _ (by omega))) (p := ⟨n + 4, 2, none⟩) (by simp) _
  · exact blk_other (blk_grown (blk_alloc HX2.out _) hg (hne _ (by omega))) (p := ⟨n + 4, 2, none⟩) (by simp) _
  · exact blk_other (blk_grown (blk_alloc HX3.out _) hg (hne _ (by omega))) (p := ⟨n + 4, 2, none⟩) (by simp) _
  · exact blk_set HY4.out 2 _
  · exact blk_other (blk_grown (blk_alloc HX5.out _) hg (hne _ (by omega))) (p := ⟨n + 4, 2, none⟩) (by simp) _
  · refine Owns.other (p := ⟨n + 4, 2, none⟩) ?_ (by simp) _
    unfold Owns
    have := HOWN.out
    simpa [List.flatMap_append] using this
  · exact ((HXB.out.alloc (by have := blk_lt HX0.out; omega) _).grown hg (by have := blk_lt HX0.out; simp; omega) (fun k e => by have := hrow k e; omega)).setCell (p := ⟨n + 4, 2, none⟩) (by simp) _
  · rw [Below.heap_setCell _ _ _ _ (by simp; omega)]
    have hTX : T < X.heap.size := by have := HXS.out; have := hb4.size; omega
    rw [hg.block T (by simp; omega) (fun e => hTV.out e.symm), Below.heap_alloc _ _ _ hTX]
    exact HXT.out
end Go.Proofs.YtljmhmdpihpafaaDoor
