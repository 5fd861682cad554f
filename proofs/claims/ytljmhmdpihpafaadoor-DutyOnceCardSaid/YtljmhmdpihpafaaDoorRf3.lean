/- The reference's Same. -/
import Derived.Test.YtljmhmdpihpafaaDoorRf2
namespace Go.Proofs.YtljmhmdpihpafaaDoor
open Go.RowKit Go.Shelf

set_option maxHeartbeats 1000000 in
set_option maxRecDepth 100000 in
theorem rsame_in (ep nx : Int) (s t : Value) (L M : List CallV) (w : World) (hs : Row12 w s L) (ht : Row12 w t M) (hL : L.length ≤ 1000000) (hM : M.length ≤ 1000000) :
    Calls Tryd.prog 11 #[calls ep nx s, calls ep nx t] w fun e w' => e = .returned (.bool (decide (L = M))) ∧ Below w.heap.size w w' := by
  unfold calls
  obtain ⟨a, c, rfl, hl1, hl2, hl3, hop⟩ := hs.open
  obtain ⟨b, d, rfl, hm1, hm2, hm3, hoq⟩ := ht.open
  have HOP := hid hop
  have HOQ := hid hoq
  have d1 : (ep != ep) = false := by simp
  have d2 : (nx != nx) = false := by simp
  clear hop hoq hs ht
  by_cases hlen : L.length = M.length
  · have HLEN := hid hlen
    rw [← hlen]
    clear hlen
    have d3 : ((L.length : Int) != (L.length : Int)) = false := by simp
    go_enter Tryd.func11, Tryd.ntmps11
    go_wp2
    obtain ⟨wo, hwo⟩ : ∃ wo : World, wo = (w.alloc (.cells #[.int .i64 ep, .int .i64 nx, .slice a L.length c] 33)).alloc (.cells #[.int .i64 ep, .int .i64 nx, .slice b L.length d] 33) := ⟨_, rfl⟩
    have B0 : Hid (wo.heap[w.heap.size]? = some (.cells #[.int .i64 ep, .int .i64 nx, .slice a L.length c] 33)) := hid (by rw [hwo]; exact blk_alloc (heap_new w _) _)
    have B1 : Hid (wo.heap[w.heap.size + 1]? = some (.cells #[.int .i64 ep, .int .i64 nx, .slice b L.length d] 33)) := hid (by rw [hwo]; exact heap_new2 w _ _)
    have Z : Hid (Below w.heap.size w wo) := hid (by rw [hwo]; exact ((Below.refl _ _).alloc (Nat.le_refl _) _).alloc (by simp) _)
    rw [← hwo]
    clear hwo
    go_loopw [5] (fun i wr => ∃ k : Nat, k ≤ L.length ∧ i = .int .i64 k ∧ L.take k = M.take k ∧ Below wo.heap.size wo wr) (fun i _ => L.length - (intOf i).toNat)
    case atStart => exact ⟨0, Nat.zero_le _, rfl, rfl, Below.refl _ _⟩
    case round =>
      obtain ⟨k, hk, rfl, htk, hB⟩ := hrel
      have HT := hid htk
      have HB := hid hB
      have HBZ := hid (Z.out.trans (hB.mono Z.out.size))
      clear htk hB
      obtain ⟨b00, b01, b02, b0f, b0l⟩ := blk3 (blk_below B0.out HB.out (blk_lt B0.out))
      obtain ⟨b10, b11, b12, b1f, b1l⟩ := blk3 (blk_below B1.out HB.out (blk_lt B1.out))
      by_cases hlt : k < L.length
      · obtain ⟨b1, o1, rfl, hb1, hr1⟩ := HOP.out (by omega)
        obtain ⟨b2, o2, rfl, hb2, hr2⟩ := HOQ.out (by have := HLEN.out; omega)
        obtain ⟨x, hx⟩ := get_lt hlt
        obtain ⟨y, hy⟩ := get_lt (show k < M.length by have := HLEN.out; omega)
        obtain ⟨g0, g1, g2, g3⟩ := row4 (hr1.below HBZ.out hb1) hx
        obtain ⟨h0, h1, h2, h3⟩ := row4 (hr2.below HBZ.out hb2) hy
        have HX := hid hx
        have HY := hid hy
        have HS := hid (take_snoc L k x hx)
        have HS' := hid (take_snoc M k y hy)
        have hkL : (k : Int) < (L.length : Int) := by omega
        have hz1 : b1 < wr.heap.size := by have := HBZ.out.size; omega
        have hz2 : b2 < wr.heap.size := by have := HBZ.out.size; omega
        clear hx hy hr1 hr2
        have hne := neq_run x y
        by_cases hxy : x = y
        · rw [sameX_iff.2 hxy] at hne
          have HXY := hid hxy
          clear hxy
          go_wp2_with fail
          go_quiet (fail)
          go_wp2
          go_roundw
          case rel => exact ⟨k + 1, by omega, by go_num, by rw [HS.out, HS'.out, HT.out, HXY.out], below_drewN HB.out _⟩
          case measure => simp [intOf]; omega
        · have : sameX x y = false := by apply Bool.eq_false_iff.2; intro h; exact hxy (sameX_iff.1 h)
          rw [this] at hne
          have HXY := hid hxy
          clear hxy this
          go_wp2_with fail
          go_quiet (fail)
          go_wp2
          go_ret
          exact ⟨ret_bool (eq_false_at HX.out HY.out HXY.out).symm, below_drewN HBZ.out _⟩
      · obtain rfl : k = L.length := by omega
        go_wp2
        go_ret
        refine ⟨ret_bool (decide_eq_true ?_).symm, HBZ.out⟩
        have := HT.out
        rw [List.take_length, HLEN.out, List.take_length] at this
        exact this
  · have d3 : ((L.length : Int) != (M.length : Int)) = true := by simp; omega
    have hd : decide (L = M) = false := by simp; intro h; exact hlen (by rw [h])
    rw [hd]
    clear hd
    go_enter Tryd.func11, Tryd.ntmps11
    go_wp2
    go_ret
    exact ⟨rfl, ((Below.refl _ _).alloc (Nat.le_refl _) _).alloc (by simp) _⟩

set_option maxHeartbeats 1000000 in
theorem rsame_any (ep nx ep' nx' : Int) (s s' : Value) (L M : List CallV) (w : World) (hs : Row12 w s L) (hs' : Row12 w s' M) (hL : L.length ≤ 1000000) (hM : M.length ≤ 1000000) :
    Calls Tryd.prog 11 #[calls ep nx s, calls ep' nx' s'] w fun e w' => e = .returned (.bool (sameV ⟨ep, nx, L⟩ ⟨ep', nx', M⟩)) ∧ Below w.heap.size w w' := by
  by_cases h1 : ep = ep'
  · subst h1
    by_cases h2 : nx = nx'
    · subst h2
      have hsv : sameV ⟨ep, nx, L⟩ ⟨ep, nx, M⟩ = decide (L = M) := by simp [sameV]
      rw [hsv]
      exact rsame_in ep nx s s' L M w hs hs' hL hM
    · have hsv : sameV ⟨ep, nx, L⟩ ⟨ep, nx', M⟩ = false := by simp [sameV, h2]
      have d1 : (ep != ep) = false := by simp
      have d2 : (nx != nx') = true := by simpa using h2
      rw [hsv]
      unfold calls
      clear hs hs' hsv
      go_enter Tryd.func11, Tryd.ntmps11
      go_wp2
      go_ret
      exact ⟨rfl, ((Below.refl _ _).alloc (Nat.le_refl _) _).alloc (by simp) _⟩
  · have hsv : sameV ⟨ep, nx, L⟩ ⟨ep', nx', M⟩ = false := by simp [sameV, h1]
    have d1 : (ep != ep') = true := by simpa using h1
    rw [hsv]
    unfold calls
    clear hs hs' hsv
    go_enter Tryd.func11, Tryd.ntmps11
    go_wp2
    go_ret
    exact ⟨rfl, ((Below.refl _ _).alloc (Nat.le_refl _) _).alloc (by simp) _⟩
end Go.Proofs.YtljmhmdpihpafaaDoor
