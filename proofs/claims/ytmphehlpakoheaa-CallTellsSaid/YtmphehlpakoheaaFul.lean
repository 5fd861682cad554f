/- A part of the proofs about open calls: contracts of functions, or plain facts that they want. -/
import Derived.Test.YtmphehlpakoheaaWk
namespace Go.Proofs.Ytmphehlpakoheaa
open Go.RowKit Go.Shelf

def fullX (epoch k key now : Int) : CallV := ⟨epoch * 1048576 + 1048575, k, key, now⟩

theorem full_begin0 (epoch : Int) (w : World) (h : epoch < 0 ∨ 524288 < epoch) : Calls Try.prog 18 #[.int .i64 epoch] w fun e w' => e = .returned (.tuple #[calls 0 0 (.slice none 0 0), .int .i64 2]) ∧ Below w.heap.size w w' := by
  have hb := begin_any epoch w
  rw [show beginV epoch = (0, 0, 2) by simp [beginV, h]] at hb
  exact hb
theorem full_begin1 (epoch : Int) (w : World) (h0 : 0 ≤ epoch) (h1 : epoch ≤ 524288) : Calls Try.prog 18 #[.int .i64 epoch] w fun e w' => e = .returned (.tuple #[calls epoch 1 (.slice none 0 0), .int .i64 0]) ∧ Below w.heap.size w w' := by
  have hb := begin_any epoch w
  rw [show beginV epoch = (epoch, 1, 0) by unfold beginV; rw [if_neg (by omega)]] at hb
  exact hb
theorem full_right1 (epoch : Int) (h0 : 0 ≤ epoch) (h1 : epoch ≤ 524288) : rightB ⟨epoch, 1048575, []⟩ = true := by
  simp [rightB, goR, h0, h1]
theorem full_open0 (epoch k key now : Int) (w : World) (h0 : 0 ≤ epoch) (h1 : epoch ≤ 524288) (hn : (kindB k && (numB key && numB now)) = false) :
    Calls Try.prog 13 #[calls epoch 1048575 (.slice none 0 0), .int .u8 k, .int .i64 key, .int .i64 now] w fun e w' => ∃ a n c, e = .returned (.tuple #[calls epoch 1048575 (.slice a n c), .int .i64 0, .int .i64 2]) ∧ Below w.heap.size w w' := by
  have he : openErr ⟨epoch, 1048575, []⟩ k key now = 2 := by
    have : openOk ⟨epoch, 1048575, []⟩ k key now = false := by
      unfold openOk; rw [full_right1 epoch h0 h1]
      simp only [hasB, List.any_nil, Bool.not_false, Bool.and_true, Bool.true_and]; exact hn
    unfold openErr; rw [this]; rfl
  refine (open_any epoch 1048575 k key now (.slice none 0 0) [] w (by simp) RowOf.nil).mono ?_
  rintro e w' ⟨v, h, ho, hb⟩
  rw [show openC ⟨epoch, 1048575, []⟩ k key now = ⟨epoch, 1048575, []⟩ by unfold openC; rw [he]; rfl, show openId ⟨epoch, 1048575, []⟩ k key now = 0 by unfold openId; rw [he]; rfl, he] at h
  rw [show openC ⟨epoch, 1048575, []⟩ k key now = ⟨epoch, 1048575, []⟩ by unfold openC; rw [he]; rfl] at ho
  obtain ⟨a, n, c, rfl⟩ := ho.shape
  exact ⟨a, n, c, h, hb⟩
theorem full_open1 (epoch k key now : Int) (w : World) (h0 : 0 ≤ epoch) (h1 : epoch ≤ 524288) (hn : (kindB k && (numB key && numB now)) = true) :
    Calls Try.prog 13 #[calls epoch 1048575 (.slice none 0 0), .int .u8 k, .int .i64 key, .int .i64 now] w fun e w' => ∃ g c, e = .returned (.tuple #[calls epoch 1048576 (.slice (some ⟨g, 0, none⟩) 1 c), .int .i64 (epoch * 1048576 + 1048575), .int .i64 0]) ∧ Row12 w' (.slice (some ⟨g, 0, none⟩) 1 c) [fullX epoch k key now] ∧ Below w.heap.size w w' := by
  have he : openErr ⟨epoch, 1048575, []⟩ k key now = 0 := by
    have : openOk ⟨epoch, 1048575, []⟩ k key now = true := by
      unfold openOk; rw [full_right1 epoch h0 h1]
      simp only [hasB, List.any_nil, Bool.not_false, Bool.and_true, Bool.true_and]; exact hn
    unfold openErr; rw [this]; rfl
  have hC : openC ⟨epoch, 1048575, []⟩ k key now = ⟨epoch, 1048576, [fullX epoch k key now]⟩ := by unfold openC; rw [he]; rfl
  have hI : openId ⟨epoch, 1048575, []⟩ k key now = epoch * 1048576 + 1048575 := by unfold openId; rw [he]; rfl
  refine (open_any epoch 1048575 k key now (.slice none 0 0) [] w (by simp) RowOf.nil).mono ?_
  rintro e w' ⟨v, h, ho, hb⟩
  rw [hC, hI, he] at h
  rw [hC] at ho
  rcases ho.form with ⟨_, h⟩ | ⟨g, c, rfl, _⟩
  · cases h
  · exact ⟨g, c, h, ho.row encC_len (by decide), hb⟩
theorem full_right2 (epoch k key now : Int) (h0 : 0 ≤ epoch) (h1 : epoch ≤ 524288) (hn : (kindB k && (numB key && numB now)) = true) : rightB ⟨epoch, 1048576, [fullX epoch k key now]⟩ = true := by
  simp only [Bool.and_eq_true] at hn
  have a1 : epoch * 1048576 < epoch * 1048576 + 1048575 := by omega
  have a2 : epoch * 1048576 + 1048575 < epoch * 1048576 + 1048576 := by omega
  simp only [rightB, goR, fullX, h0, h1, hn.1, hn.2.1, hn.2.2, a1, a2, decide_true, Bool.and_self, Bool.true_and, Bool.and_true]
  simp
theorem full_open2 (epoch k key now : Int) (v : Value) (w : World) (h0 : 0 ≤ epoch) (h1 : epoch ≤ 524288) (hn : (kindB k && (numB key && numB now)) = true) (hr : Row12 w v [fullX epoch k key now]) :
    Calls Try.prog 13 #[calls epoch 1048576 v, .int .u8 (k % 7 + 1), .int .i64 key, .int .i64 now] w fun e w' => ∃ a n c, e = .returned (.tuple #[calls epoch 1048576 (.slice a n c), .int .i64 0, .int .i64 241]) ∧ Row12 w' (.slice a n c) [fullX epoch k key now] ∧ Below w.heap.size w w' := by
  have hr2 := full_right2 epoch k key now h0 h1 hn
  have he : openErr ⟨epoch, 1048576, [fullX epoch k key now]⟩ (k % 7 + 1) key now = 241 := by
    have : openOk ⟨epoch, 1048576, [fullX epoch k key now]⟩ (k % 7 + 1) key now = true := by
      unfold openOk; rw [hr2]
      simp only [Bool.and_eq_true] at hn
      have hk := kindB_yes hn.1
      have h2 : kindB (k % 7 + 1) = true := by unfold kindB; rw [decide_eq_true_eq]; omega
      have h3 : (k == k % 7 + 1) = false := by simp; omega
      simp [hasB, fullX, h2, h3, hn.2.1, hn.2.2]
    unfold openErr; rw [this]; rfl
  have hC : openC ⟨epoch, 1048576, [fullX epoch k key now]⟩ (k % 7 + 1) key now = ⟨epoch, 1048576, [fullX epoch k key now]⟩ := by unfold openC; rw [he]; rfl
  have hI : openId ⟨epoch, 1048576, [fullX epoch k key now]⟩ (k % 7 + 1) key now = 0 := by unfold openId; rw [he]; rfl
  refine (open_any epoch 1048576 (k % 7 + 1) key now v _ w (by simp) hr).mono ?_
  rintro e w' ⟨v, h, ho, hb⟩
  rw [hC, hI, he] at h
  rw [hC] at ho
  obtain ⟨a, n, c, rfl⟩ := ho.shape
  exact ⟨a, n, c, h, ho.row encC_len (by decide), hb⟩
theorem full_same (epoch k key now : Int) (v v' : Value) (w : World) (hr : Row12 w v [fullX epoch k key now]) (hr' : Row12 w v' [fullX epoch k key now]) :
    Calls Try.prog 25 #[calls epoch 1048576 v, calls epoch 1048576 v'] w fun e w' => e = .returned (.bool true) ∧ Below w.heap.size w w' := by
  have h := same_any epoch 1048576 epoch 1048576 v v' _ _ w hr hr' (by simp) (by simp)
  rw [show sameV ⟨epoch, 1048576, [fullX epoch k key now]⟩ ⟨epoch, 1048576, [fullX epoch k key now]⟩ = true by simp [sameV]] at h
  exact h

set_option maxHeartbeats 2000000 in
set_option maxRecDepth 100000 in
theorem full_walk (epoch k key now : Int) (hk : in8 k) (w : World) :
    Calls Try.prog 7 #[.int .i64 epoch, .int .u8 k, .int .i64 key, .int .i64 now] w fun e w' => e = .returned (.bool true) ∧ Below w.heap.size w w' := by
  obtain ⟨hk0, hk1⟩ := hk
  by_cases h0 : 0 ≤ epoch
  · by_cases h1 : epoch ≤ 524288
    · by_cases hn : (kindB k && (numB key && numB now)) = true
      · have HN := hid hn
        clear hn
        go_enter Try.func7, Try.ntmps7
        go_wp2_with fail
        refine (full_begin1 epoch _ h0 h1).mono ?_
        rintro e w1 ⟨he, hb1⟩
        simp only [calls] at he
        subst he
        go_wp2_with fail
        refine (full_open1 epoch k key now _ h0 h1 HN.out).mono ?_
        rintro e w2 ⟨g, c, he, hr, hb2⟩
        simp only [calls] at he
        subst he
        have R := hid hr
        have BC := hid (blk_below (blk_alloc (heap_new w1 (.cells #[.int .i64 epoch, .int .i64 1048575, .slice none 0 0] 24)) (.cells #[] 0)) (B := w1.heap.size + 1) (W' := (w1.alloc (.cells #[.int .i64 epoch, .int .i64 1048575, .slice none 0 0] 24)).alloc (.cells #[] 0)) (Below.refl _ _) (by omega))
        clear BC
        have BC := hid (blk_below (heap_new w1 (.cells #[.int .i64 epoch, .int .i64 1048575, .slice none 0 0] 24)) hb2 (by simp))
        have q2 : Below w1.heap.size w1 w2 := ((Below.refl _ _).alloc (Nat.le_refl _) _).trans (hb2.mono (by simp))
        have Z := hid (hb1.trans (q2.mono hb1.size))
        clear hr hb1 hb2 q2
        go_wp2_with fail
        refine (full_open2 epoch k key now _ _ h0 h1 HN.out (RowOf.below R.out ((Below.refl _ _).alloc (Nat.le_refl _) _))).mono ?_
        rintro e w3 ⟨a, n, c', he, hr, hb3⟩
        simp only [calls] at he
        subst he
        have q3 : Below w2.heap.size w2 w3 := ((Below.refl _ _).alloc (Nat.le_refl _) _).trans (hb3.mono (by simp))
        have BD := hid (blk_below (heap_new w2 _) hb3 (by simp))
        replace BC := hid (blk_below BC.out q3 (blk_lt BC.out))
        replace R := hid (RowOf.below R.out q3)
        have RG := hid hr
        replace Z := hid (Z.out.trans (q3.mono Z.out.size))
        clear hr hb3 q3
        obtain ⟨c0, c1, c2, _, cl⟩ := blk3 BC.out
        obtain ⟨d0, d1, d2, _, dl⟩ := blk3 BD.out
        have hid2 : (epoch * 1048576 + 1048575 == epoch * 1048576 + 1048576 - 1) = true := by rw [beq_iff_eq]; omega
        go_wp2_with fail
        refine (full_same epoch k key now _ _ _ (RowOf.below RG.out ((Below.refl _ _).alloc (Nat.le_refl _) _)) (RowOf.below R.out ((Below.refl _ _).alloc (Nat.le_refl _) _))).mono ?_
        rintro e w4 ⟨rfl, hb4⟩
        have q4 : Below w3.heap.size w3 w4 := ((Below.refl _ _).alloc (Nat.le_refl _) _).trans (hb4.mono (by simp))
        replace BC := hid (blk_below BC.out q4 (blk_lt BC.out))
        replace Z := hid (Z.out.trans (q4.mono Z.out.size))
        clear hb4 q4 d0 d1 d2 dl
        clear c0 c1 c2 cl
        obtain ⟨c0, c1, c2, _, cl⟩ := blk3 BC.out
        go_wp2_with fail
        refine (wakes_any _).mono ?_
        rintro e wz ⟨rfl, hbz⟩
        go_wp2
        go_ret
        exact ⟨rfl, Z.out.trans (hbz.mono Z.out.size)⟩
      · have hn' : (kindB k && (numB key && numB now)) = false := by simpa using hn
        have HN := hid hn'
        clear hn hn'
        go_enter Try.func7, Try.ntmps7
        go_wp2_with fail
        refine (full_begin1 epoch _ h0 h1).mono ?_
        rintro e w1 ⟨he, hb1⟩
        simp only [calls] at he
        subst he
        go_wp2_with fail
        refine (full_open0 epoch k key now _ h0 h1 HN.out).mono ?_
        rintro e w2 ⟨a, n, c, he, hb2⟩
        simp only [calls] at he
        subst he
        have BC := hid (blk_below (heap_new w1 (.cells #[.int .i64 epoch, .int .i64 1048575, .slice none 0 0] 24)) hb2 (by simp))
        have q2 : Below w1.heap.size w1 w2 := ((Below.refl _ _).alloc (Nat.le_refl _) _).trans (hb2.mono (by simp))
        have Z := hid (hb1.trans (q2.mono hb1.size))
        clear hb1 hb2 q2
        obtain ⟨c0, c1, c2, _, cl⟩ := blk3 BC.out
        go_wp2_with fail
        refine (wakes_any _).mono ?_
        rintro e wz ⟨rfl, hbz⟩
        go_wp2
        go_ret
        exact ⟨rfl, Z.out.trans (((Below.refl _ _).alloc (Nat.le_refl _) _).trans (hbz.mono (by simp)) |>.mono Z.out.size)⟩
    · have d1 : decide (epoch < 0) = false := by simpa using h0
      have d2 : decide (524288 < epoch) = true := by simp; omega
      go_enter Try.func7, Try.ntmps7
      go_wp2_with fail
      refine (full_begin0 epoch _ (.inr (by omega))).mono ?_
      rintro e w1 ⟨he, hb1⟩
      simp only [calls] at he
      subst he
      go_wp2_with fail
      refine (wakes_any _).mono ?_
      rintro e wz ⟨rfl, hbz⟩
      go_wp2
      go_ret
      exact ⟨rfl, hb1.trans (((Below.refl _ _).alloc (Nat.le_refl _) _).trans (hbz.mono (by simp)) |>.mono hb1.size)⟩
  · have d1 : decide (epoch < 0) = true := by simp; omega
    go_enter Try.func7, Try.ntmps7
    go_wp2_with fail
    refine (full_begin0 epoch _ (.inl (by omega))).mono ?_
    rintro e w1 ⟨he, hb1⟩
    simp only [calls] at he
    subst he
    go_wp2_with fail
    refine (wakes_any _).mono ?_
    rintro e wz ⟨rfl, hbz⟩
    go_wp2
    go_ret
    exact ⟨rfl, hb1.trans (((Below.refl _ _).alloc (Nat.le_refl _) _).trans (hbz.mono (by simp)) |>.mono hb1.size)⟩
end Go.Proofs.Ytmphehlpakoheaa
