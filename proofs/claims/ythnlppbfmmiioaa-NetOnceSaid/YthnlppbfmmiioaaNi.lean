/- slices.Clone and slices.Equal at the types of package net. -/
import Derived.Test.YthnlppbfmmiioaaNv
namespace Go.Proofs.Ythnlppbfmmiioaa
open Go.RowKit Go.Shelf

set_option maxHeartbeats 400000 in
theorem cloneN_any (s : Value) (L : List SeenV) (w : World) (hn : L.length ≤ 1000000) (hs : RowN w s L) :
    Calls Try.prog 42 #[s] w fun e w' => ∃ v, e = .returned v ∧ OwnN w' w.heap.size v L ∧ Below w.heap.size w w' := by
  obtain ⟨i0, hi, hz0, hz1, hz2⟩ := info_parts infoN
  rcases hs.open with ⟨a, c, rfl, hl1, hl2, hl3, hop⟩
  have HS := hid hs
  have he0 : ∀ w, (binOp .eql 28 (.slice none 0 0) (.slice none 0 0)).run Try.prog w = .ok (.bool true) w := fun w => by kernel_rfl
  have he1 : ∀ ad n c w, (binOp .eql 28 (.slice (some ad) n c) (.slice none 0 0)).run Try.prog w = .ok (.bool false) w := fun ad n c w => by kernel_rfl
  cases a with
  | none =>
    rcases hs with ⟨a', c', he, rfl, hac, _⟩ | ⟨_, b, off, c', he, _⟩
    · cases he
      obtain rfl := hac rfl
      go_enter Try.func42, Try.ntmps42
      go_wp2
      go_ret
      exact ⟨_, rfl, Owns.nil _ _, Below.refl _ _⟩
    · cases he
  | some ad =>
    clear hs hop
    have c1 : ([] : List SeenV).length + L.length ≤ maxLen := by unfold maxLen; simp; omega
    have c2 : (([] : List SeenV).length + L.length) * 40 ≤ 140737488355328 := by simp; omega
    go_enter Try.func42, Try.ntmps42
    go_wp2_with (at_builtin; refine append_rows rfl _ _ 28 rfl w.heap.size 51 i0 _ 40 Try.underlying28 hi hz0 hz1 hz2 rfl (by decide) encN_len encN_one _ [] rfl (World.ownsRow_made w #[] 0 (Nat.le_refl _) (by decide) rfl) _ L rfl (HS.out.below ((Below.refl _ _).alloc (Nat.le_refl _) _)) c1 c2 (by simp) ?_; intro v' w1 hown hgrow)
    go_ret
    exact ⟨v', rfl, by simpa using hown, ((Below.refl _ _).alloc (Nat.le_refl _) _).grown hgrow (by simp) (fun k e => by
      have e' : some k = some w.heap.size := e.symm.trans rfl
      cases e'; exact Nat.le_refl _)⟩

theorem eqA_false_at {L M : List AskV} {k : Nat} {x y : AskV} (hx : L[k]? = some x) (hy : M[k]? = some y) (h : ¬ x = y) : decide (L = M) = false := by
  apply decide_eq_false
  rintro rfl
  rw [hx] at hy
  exact h (by simpa using hy)
set_option maxHeartbeats 1000000 in
set_option maxRecDepth 10000 in
theorem equalA_any (s t : Value) (L M : List AskV) (w : World) (hs : RowA w s L) (ht : RowA w t M) (hL : L.length ≤ 1000000) (_hM : M.length ≤ 1000000) :
    Calls Try.prog 33 #[s, t] w fun e w' => e = .returned (.bool (decide (L = M))) ∧ Below w.heap.size w w' := by
  obtain ⟨a, c, rfl, hl1, hl2, hl3, hop⟩ := hs.open
  obtain ⟨b, d, rfl, hm1, hm2, hm3, hoq⟩ := ht.open
  have HOP := hid hop
  have HOQ := hid hoq
  clear hop hoq hs ht
  by_cases hlen : L.length = M.length
  · have HLEN := hid hlen
    rw [← hlen]
    clear hlen
    have hlm : M.length ≤ L.length ∧ L.length ≤ M.length := by have := HLEN.out; omega
    go_enter Try.func33, Try.ntmps33
    go_wp2
    go_loopw [13] (fun i wr => ∃ k : Nat, k ≤ L.length ∧ i = .int .i64 k ∧ L.take k = M.take k ∧ Below w.heap.size w wr) (fun i _ => L.length - (intOf i).toNat)
    case atStart => exact ⟨0, Nat.zero_le _, rfl, rfl, Below.refl _ _⟩
    case round =>
      obtain ⟨k, hk, rfl, htk, hB⟩ := hrel
      have HT := hid htk
      clear htk
      obtain ⟨hc, hf⟩ := bcell hB
      by_cases hlt : k < L.length
      · obtain ⟨b1, o1, rfl, hb1, hr1⟩ := HOP.out (by omega)
        obtain ⟨b2, o2, rfl, hb2, hr2⟩ := HOQ.out (by omega)
        obtain ⟨x, hx⟩ := get_lt hlt
        obtain ⟨y, hy⟩ := get_lt (show k < M.length by omega)
        obtain ⟨g0, g1, g2, g3, g4, g5⟩ := rowA hr1 hx
        obtain ⟨h0, h1, h2, h3, h4, h5⟩ := rowA hr2 hy
        have HX := hid hx
        have HY := hid hy
        have HS := hid (take_snoc L k x hx)
        have HS' := hid (take_snoc M k y hy)
        have hkL : (k : Int) < (L.length : Int) := by omega
        clear hx hy
        have hne := neqA_run x y
        by_cases hxy : x = y
        · rw [sameA_iff.2 hxy] at hne
          have HXY := hid hxy
          clear hxy
          go_wp2
          go_quiet (fail)
          go_wp2
          go_roundw
          case rel => exact ⟨k + 1, by omega, by go_num, by rw [HS.out, HS'.out, HT.out, HXY.out], below_drewN hB _⟩
          case measure => simp [intOf]; omega
        · have : sameA x y = false := by apply Bool.eq_false_iff.2; intro h; exact hxy (sameA_iff.1 h)
          rw [this] at hne
          have HXY := hid hxy
          clear hxy this
          go_wp2
          go_quiet (fail)
          go_wp2
          go_ret
          exact ⟨ret_bool (eqA_false_at HX.out HY.out HXY.out).symm, below_drewN hB _⟩
      · obtain rfl : k = L.length := by omega
        go_wp2
        go_ret
        refine ⟨ret_bool (decide_eq_true ?_).symm, hB⟩
        have := HT.out
        rw [List.take_length, HLEN.out, List.take_length] at this
        exact this
  · have hz : ((L.length : Int) != (M.length : Int)) = true := by simp; omega
    have HN := hid hlen
    clear hlen
    go_enter Try.func33, Try.ntmps33
    go_wp2
    go_ret
    exact ⟨ret_bool (decide_eq_false (fun h => HN.out (by rw [h]))).symm, Below.refl _ _⟩

theorem eqN_false_at {L M : List SeenV} {k : Nat} {x y : SeenV} (hx : L[k]? = some x) (hy : M[k]? = some y) (h : ¬ x = y) : decide (L = M) = false := by
  apply decide_eq_false
  rintro rfl
  rw [hx] at hy
  exact h (by simpa using hy)
set_option maxHeartbeats 1000000 in
set_option maxRecDepth 10000 in
theorem equalN_any (s t : Value) (L M : List SeenV) (w : World) (hs : RowN w s L) (ht : RowN w t M) (hL : L.length ≤ 1000000) (_hM : M.length ≤ 1000000) :
    Calls Try.prog 36 #[s, t] w fun e w' => e = .returned (.bool (decide (L = M))) ∧ Below w.heap.size w w' := by
  obtain ⟨a, c, rfl, hl1, hl2, hl3, hop⟩ := hs.open
  obtain ⟨b, d, rfl, hm1, hm2, hm3, hoq⟩ := ht.open
  have HOP := hid hop
  have HOQ := hid hoq
  clear hop hoq hs ht
  by_cases hlen : L.length = M.length
  · have HLEN := hid hlen
    rw [← hlen]
    clear hlen
    have hlm : M.length ≤ L.length ∧ L.length ≤ M.length := by have := HLEN.out; omega
    go_enter Try.func36, Try.ntmps36
    go_wp2
    go_loopw [13] (fun i wr => ∃ k : Nat, k ≤ L.length ∧ i = .int .i64 k ∧ L.take k = M.take k ∧ Below w.heap.size w wr) (fun i _ => L.length - (intOf i).toNat)
    case atStart => exact ⟨0, Nat.zero_le _, rfl, rfl, Below.refl _ _⟩
    case round =>
      obtain ⟨k, hk, rfl, htk, hB⟩ := hrel
      have HT := hid htk
      clear htk
      obtain ⟨hc, hf⟩ := bcell hB
      by_cases hlt : k < L.length
      · obtain ⟨b1, o1, rfl, hb1, hr1⟩ := HOP.out (by omega)
        obtain ⟨b2, o2, rfl, hb2, hr2⟩ := HOQ.out (by omega)
        obtain ⟨x, hx⟩ := get_lt hlt
        obtain ⟨y, hy⟩ := get_lt (show k < M.length by omega)
        obtain ⟨g0, g1, g2, g3, g4, g5, g6⟩ := rowN hr1 hx
        obtain ⟨h0, h1, h2, h3, h4, h5, h6⟩ := rowN hr2 hy
        have HX := hid hx
        have HY := hid hy
        have HS := hid (take_snoc L k x hx)
        have HS' := hid (take_snoc M k y hy)
        have hkL : (k : Int) < (L.length : Int) := by omega
        clear hx hy
        have hne := neqN_run x y
        by_cases hxy : x = y
        · rw [sameN_iff.2 hxy] at hne
          have HXY := hid hxy
          clear hxy
          go_wp2
          go_quiet (fail)
          go_wp2
          go_roundw
          case rel => exact ⟨k + 1, by omega, by go_num, by rw [HS.out, HS'.out, HT.out, HXY.out], below_drewN hB _⟩
          case measure => simp [intOf]; omega
        · have : sameN x y = false := by apply Bool.eq_false_iff.2; intro h; exact hxy (sameN_iff.1 h)
          rw [this] at hne
          have HXY := hid hxy
          clear hxy this
          go_wp2
          go_quiet (fail)
          go_wp2
          go_ret
          exact ⟨ret_bool (eqN_false_at HX.out HY.out HXY.out).symm, below_drewN hB _⟩
      · obtain rfl : k = L.length := by omega
        go_wp2
        go_ret
        refine ⟨ret_bool (decide_eq_true ?_).symm, hB⟩
        have := HT.out
        rw [List.take_length, HLEN.out, List.take_length] at this
        exact this
  · have hz : ((L.length : Int) != (M.length : Int)) = true := by simp; omega
    have HN := hid hlen
    clear hlen
    go_enter Try.func36, Try.ntmps36
    go_wp2
    go_ret
    exact ⟨ret_bool (decide_eq_false (fun h => HN.out (by rw [h]))).symm, Below.refl _ _⟩
end Go.Proofs.Ythnlppbfmmiioaa
