/- A part of the proofs about open calls: contracts of functions, or plain facts that they want. -/
import Derived.Test.YtmphehlpakoheaaWk0
namespace Go.Proofs.Ytmphehlpakoheaa
open Go.RowKit Go.Shelf

set_option maxHeartbeats 4000000 in
set_option maxRecDepth 100000 in
theorem wakes_any (w : World) : Calls Try.prog 10 #[] w fun e w' => e = .returned (.bool true) ∧ Below w.heap.size w w' := by
  go_enter Try.func10, Try.ntmps10
  go_wp2_with fail
  refine (wk_begin _).mono ?_
  rintro e w1 ⟨he, hb⟩
  simp only [calls] at he
  subst he
  have Z := hid hb
  clear hb
  go_wp2_with fail
  refine (wk_open1 _).mono ?_
  rintro e w2 ⟨g, c, he, hr, hb⟩
  simp only [calls] at he
  subst he
  have hz := hb.size
  simp only [World.size_alloc] at hz
  have BC := hid (blk_below (heap_new w1 _) hb (by simp))
  have hq : Below w1.heap.size w1 w2 := ((Below.refl _ _).alloc (Nat.le_refl _) _).trans (hb.mono (by simp))
  have R := hid hr
  replace Z := hid (Z.out.trans (hq.mono Z.out.size))
  clear hb hz hq hr
  obtain ⟨bc0, bc1, bc2, _, bcl⟩ := blk3 BC.out
  go_wp2_with fail
  clear bc0 bc1 bc2 bcl
  refine (wk_open2 _ _ (RowOf.below R.out ((Below.refl _ _).alloc (Nat.le_refl _) _))).mono ?_
  rintro e w3 ⟨a3, n3, c3, he, hb⟩
  simp only [calls] at he
  subst he
  have hz := hb.size
  simp only [World.size_alloc] at hz
  replace BC := hid (blk_below (blk_alloc BC.out _) hb (by have := blk_lt BC.out; simp; omega))
  have BD := hid (blk_below (heap_new w2 _) hb (by simp))
  have hq : Below w2.heap.size w2 w3 := ((Below.refl _ _).alloc (Nat.le_refl _) _).trans (hb.mono (by simp))
  replace R := hid (RowOf.below R.out hq)
  replace Z := hid (Z.out.trans (hq.mono Z.out.size))
  clear hb hz hq
  obtain ⟨bc0, bc1, bc2, _, bcl⟩ := blk3 BC.out
  obtain ⟨bd0, bd1, bd2, _, bdl⟩ := blk3 BD.out
  go_wp2_with fail
  clear bc0 bc1 bc2 bcl
  clear bd0 bd1 bd2 bdl
  refine (wk_find1 _ _ (RowOf.below R.out ((Below.refl _ _).alloc (Nat.le_refl _) _))).mono ?_
  rintro e w4 ⟨he, hb⟩
  simp only [encS, x1] at he
  subst he
  have hz := hb.size
  simp only [World.size_alloc] at hz
  replace BC := hid (blk_below (blk_alloc BC.out _) hb (by have := blk_lt BC.out; simp; omega))
  replace BD := hid (blk_below (blk_alloc BD.out _) hb (by have := blk_lt BD.out; simp; omega))
  have hq : Below w3.heap.size w3 w4 := ((Below.refl _ _).alloc (Nat.le_refl _) _).trans (hb.mono (by simp))
  replace R := hid (RowOf.below R.out hq)
  replace Z := hid (Z.out.trans (hq.mono Z.out.size))
  clear hb hz hq
  obtain ⟨bc0, bc1, bc2, _, bcl⟩ := blk3 BC.out
  obtain ⟨bd0, bd1, bd2, _, bdl⟩ := blk3 BD.out
  go_wp2_with fail
  clear bc0 bc1 bc2 bcl
  clear bd0 bd1 bd2 bdl
  refine (wk_close _ _ (RowOf.below R.out ((Below.refl _ _).alloc (Nat.le_refl _) _))).mono ?_
  rintro e w5 ⟨a5, n5, c5, he, hr, hb⟩
  simp only [calls] at he
  subst he
  have hz := hb.size
  simp only [World.size_alloc] at hz
  replace BC := hid (blk_below (blk_alloc BC.out _) hb (by have := blk_lt BC.out; simp; omega))
  replace BD := hid (blk_below (blk_alloc BD.out _) hb (by have := blk_lt BD.out; simp; omega))
  have BX := hid (blk_below (heap_new w4 _) hb (by simp))
  have hq : Below w4.heap.size w4 w5 := ((Below.refl _ _).alloc (Nat.le_refl _) _).trans (hb.mono (by simp))
  replace R := hid (RowOf.below R.out hq)
  have R0 := hid hr
  replace Z := hid (Z.out.trans (hq.mono Z.out.size))
  clear hb hz hq hr
  obtain ⟨bc0, bc1, bc2, _, bcl⟩ := blk3 BC.out
  obtain ⟨bd0, bd1, bd2, _, bdl⟩ := blk3 BD.out
  obtain ⟨bx0, bx1, bx2, bx3, _, bxl⟩ := blk4 BX.out
  go_wp2_with fail
  clear bc0 bc1 bc2 bcl
  clear bd0 bd1 bd2 bdl
  clear bx0 bx1 bx2 bx3 bxl
  refine (wk_find0 _ _ R0.out).mono ?_
  rintro e w6 ⟨he, hb⟩
  simp only [encS] at he
  subst he
  have hz := hb.size
  replace BC := hid (blk_below BC.out hb (blk_lt BC.out))
  replace BD := hid (blk_below BD.out hb (blk_lt BD.out))
  replace BX := hid (blk_below BX.out hb (blk_lt BX.out))
  have hq : Below w5.heap.size w5 w6 := hb
  replace R := hid (RowOf.below R.out hq)
  replace Z := hid (Z.out.trans (hq.mono Z.out.size))
  clear hb hz hq
  obtain ⟨bc0, bc1, bc2, _, bcl⟩ := blk3 BC.out
  obtain ⟨bd0, bd1, bd2, _, bdl⟩ := blk3 BD.out
  obtain ⟨bx0, bx1, bx2, bx3, _, bxl⟩ := blk4 BX.out
  go_wp2_with fail
  clear bc0 bc1 bc2 bcl
  clear bd0 bd1 bd2 bdl
  clear bx0 bx1 bx2 bx3 bxl
  refine (wk_late _ _ (RowOf.below R.out ((Below.refl _ _).alloc (Nat.le_refl _) _))).mono ?_
  rintro e w7 ⟨a7, n7, c7, he, hr, hb⟩
  simp only [calls] at he
  subst he
  have hz := hb.size
  simp only [World.size_alloc] at hz
  replace BC := hid (blk_below (blk_alloc BC.out _) hb (by have := blk_lt BC.out; simp; omega))
  replace BD := hid (blk_below (blk_alloc BD.out _) hb (by have := blk_lt BD.out; simp; omega))
  replace BX := hid (blk_below (blk_alloc BX.out _) hb (by have := blk_lt BX.out; simp; omega))
  have hq : Below w6.heap.size w6 w7 := ((Below.refl _ _).alloc (Nat.le_refl _) _).trans (hb.mono (by simp))
  replace R := hid (RowOf.below R.out hq)
  replace Z := hid (Z.out.trans (hq.mono Z.out.size))
  have R1 := hid hr
  clear hb hz hq hr
  obtain ⟨bc0, bc1, bc2, _, bcl⟩ := blk3 BC.out
  obtain ⟨bd0, bd1, bd2, _, bdl⟩ := blk3 BD.out
  obtain ⟨bx0, bx1, bx2, bx3, _, bxl⟩ := blk4 BX.out
  go_wp2_with fail
  clear bc0 bc1 bc2 bcl
  clear bd0 bd1 bd2 bdl
  clear bx0 bx1 bx2 bx3 bxl
  refine (wk_find0 _ _ R1.out).mono ?_
  rintro e w8 ⟨he, hb⟩
  simp only [encS] at he
  subst he
  have hz := hb.size
  replace BC := hid (blk_below BC.out hb (blk_lt BC.out))
  replace BD := hid (blk_below BD.out hb (blk_lt BD.out))
  replace BX := hid (blk_below BX.out hb (blk_lt BX.out))
  have hq : Below w7.heap.size w7 w8 := hb
  replace R := hid (RowOf.below R.out hq)
  replace Z := hid (Z.out.trans (hq.mono Z.out.size))
  clear hb hz hq
  obtain ⟨bc0, bc1, bc2, _, bcl⟩ := blk3 BC.out
  obtain ⟨bd0, bd1, bd2, _, bdl⟩ := blk3 BD.out
  obtain ⟨bx0, bx1, bx2, bx3, _, bxl⟩ := blk4 BX.out
  go_wp2_with fail
  clear bc0 bc1 bc2 bcl
  clear bd0 bd1 bd2 bdl
  clear bx0 bx1 bx2 bx3 bxl
  refine (wk_open3 _).mono ?_
  rintro e w9 ⟨a9, n9, c9, he, hb⟩
  simp only [calls] at he
  subst he
  have hz := hb.size
  simp only [World.size_alloc] at hz
  replace BC := hid (blk_below (blk_alloc BC.out _) hb (by have := blk_lt BC.out; simp; omega))
  replace BD := hid (blk_below (blk_alloc BD.out _) hb (by have := blk_lt BD.out; simp; omega))
  replace BX := hid (blk_below (blk_alloc BX.out _) hb (by have := blk_lt BX.out; simp; omega))
  have hq : Below w8.heap.size w8 w9 := ((Below.refl _ _).alloc (Nat.le_refl _) _).trans (hb.mono (by simp))
  replace R := hid (RowOf.below R.out hq)
  replace Z := hid (Z.out.trans (hq.mono Z.out.size))
  clear hb hz hq
  obtain ⟨bc0, bc1, bc2, _, bcl⟩ := blk3 BC.out
  obtain ⟨bd0, bd1, bd2, _, bdl⟩ := blk3 BD.out
  obtain ⟨bx0, bx1, bx2, bx3, _, bxl⟩ := blk4 BX.out
  go_wp2_with fail
  clear bc0 bc1 bc2 bcl
  clear bd0 bd1 bd2 bdl
  clear bx0 bx1 bx2 bx3 bxl
  refine (wk_has1 _ _ (RowOf.below R.out ((Below.refl _ _).alloc (Nat.le_refl _) _))).mono ?_
  rintro e w10 ⟨he, hb⟩
  skip
  subst he
  have hz := hb.size
  simp only [World.size_alloc] at hz
  replace BC := hid (blk_below (blk_alloc BC.out _) hb (by have := blk_lt BC.out; simp; omega))
  replace BD := hid (blk_below (blk_alloc BD.out _) hb (by have := blk_lt BD.out; simp; omega))
  replace BX := hid (blk_below (blk_alloc BX.out _) hb (by have := blk_lt BX.out; simp; omega))
  have hq : Below w9.heap.size w9 w10 := ((Below.refl _ _).alloc (Nat.le_refl _) _).trans (hb.mono (by simp))
  replace R := hid (RowOf.below R.out hq)
  replace Z := hid (Z.out.trans (hq.mono Z.out.size))
  clear hb hz hq
  obtain ⟨bc0, bc1, bc2, _, bcl⟩ := blk3 BC.out
  obtain ⟨bd0, bd1, bd2, _, bdl⟩ := blk3 BD.out
  obtain ⟨bx0, bx1, bx2, bx3, _, bxl⟩ := blk4 BX.out
  go_wp2_with fail
  clear bc0 bc1 bc2 bcl
  clear bd0 bd1 bd2 bdl
  clear bx0 bx1 bx2 bx3 bxl
  refine (wk_has0 _).mono ?_
  rintro e w11 ⟨he, hb⟩
  skip
  subst he
  have hz := hb.size
  replace BC := hid (blk_below BC.out hb (blk_lt BC.out))
  replace BD := hid (blk_below BD.out hb (blk_lt BD.out))
  replace BX := hid (blk_below BX.out hb (blk_lt BX.out))
  have hq : Below w10.heap.size w10 w11 := hb
  replace R := hid (RowOf.below R.out hq)
  replace Z := hid (Z.out.trans (hq.mono Z.out.size))
  clear hb hz hq
  obtain ⟨bc0, bc1, bc2, _, bcl⟩ := blk3 BC.out
  obtain ⟨bd0, bd1, bd2, _, bdl⟩ := blk3 BD.out
  obtain ⟨bx0, bx1, bx2, bx3, _, bxl⟩ := blk4 BX.out
  go_wp2_with fail
  clear bc0 bc1 bc2 bcl
  clear bd0 bd1 bd2 bdl
  clear bx0 bx1 bx2 bx3 bxl
  refine (wk_right1 _ _ R.out).mono ?_
  rintro e w12 ⟨he, hb⟩
  skip
  subst he
  have hz := hb.size
  replace BC := hid (blk_below BC.out hb (blk_lt BC.out))
  replace BD := hid (blk_below BD.out hb (blk_lt BD.out))
  replace BX := hid (blk_below BX.out hb (blk_lt BX.out))
  have hq : Below w11.heap.size w11 w12 := hb
  replace R := hid (RowOf.below R.out hq)
  replace Z := hid (Z.out.trans (hq.mono Z.out.size))
  clear hb hz hq
  obtain ⟨bc0, bc1, bc2, _, bcl⟩ := blk3 BC.out
  obtain ⟨bd0, bd1, bd2, _, bdl⟩ := blk3 BD.out
  obtain ⟨bx0, bx1, bx2, bx3, _, bxl⟩ := blk4 BX.out
  go_wp2_with fail
  clear bc0 bc1 bc2 bcl
  clear bd0 bd1 bd2 bdl
  clear bx0 bx1 bx2 bx3 bxl
  refine (wk_right0 _).mono ?_
  rintro e w13 ⟨he, hb⟩
  skip
  subst he
  have hz := hb.size
  replace BC := hid (blk_below BC.out hb (blk_lt BC.out))
  replace BD := hid (blk_below BD.out hb (blk_lt BD.out))
  replace BX := hid (blk_below BX.out hb (blk_lt BX.out))
  have hq : Below w12.heap.size w12 w13 := hb
  replace R := hid (RowOf.below R.out hq)
  replace Z := hid (Z.out.trans (hq.mono Z.out.size))
  clear hb hz hq
  go_wp2
  go_ret
  exact ⟨rfl, Z.out⟩
end Go.Proofs.Ytmphehlpakoheaa
