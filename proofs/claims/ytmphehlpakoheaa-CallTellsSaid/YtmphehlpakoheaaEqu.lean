/- A part of the proofs about open calls: contracts of functions, or plain facts that they want. -/
import Derived.Test.YtmphehlpakoheaaCln
namespace Go.Proofs.Ytmphehlpakoheaa
open Go.RowKit Go.Shelf

def sameX (x y : CallV) : Bool := x.id == y.id && (x.kind == y.kind && (x.key == y.key && x.sent == y.sent))
theorem sameX_iff {x y : CallV} : sameX x y = true ↔ x = y := by
  cases x; cases y; simp [sameX]
theorem neq_run (x y : CallV) (w : World) : (binOp .neq 28 (.agg #[.int .i64 x.id, .int .u8 x.kind, .int .i64 x.key, .int .i64 x.sent]) (.agg #[.int .i64 y.id, .int .u8 y.kind, .int .i64 y.key, .int .i64 y.sent])).run Try.prog w = .ok (.bool (!sameX x y)) w := by
  simp [go_sem]
  by_cases h1 : x.id = y.id <;> by_cases h2 : x.kind = y.kind <;> by_cases h3 : x.key = y.key <;> by_cases h4 : x.sent = y.sent <;> simp [sameX, h1, h2, h3, h4]
theorem eq_false_at {L M : List CallV} {k : Nat} {x y : CallV} (hx : L[k]? = some x) (hy : M[k]? = some y) (h : ¬ x = y) : decide (L = M) = false := by
  apply decide_eq_false
  rintro rfl
  rw [hx] at hy
  exact h (by simpa using hy)

set_option maxHeartbeats 400000 in
set_option maxRecDepth 10000 in
theorem equal_any (s t : Value) (L M : List CallV) (w : World) (hs : Row12 w s L) (ht : Row12 w t M) (hL : L.length ≤ 1000000) (hM : M.length ≤ 1000000) :
    Calls Try.prog 44 #[s, t] w fun e w' => e = .returned (.bool (decide (L = M))) ∧ Below w.heap.size w w' := by
  obtain ⟨a, c, rfl, hl1, hl2, hl3, hop⟩ := hs.open
  obtain ⟨b, d, rfl, hm1, hm2, hm3, hoq⟩ := ht.open
  have HOP := hid hop
  have HOQ := hid hoq
  clear hop hoq hs ht
  by_cases hlen : L.length = M.length
  · have HLEN := hid hlen
    rw [← hlen]
    clear hlen
    have hlm : M.length ≤ L.length ∧ L.length ≤ M.length := by have := HLEN.out; omega
    go_enter Try.func44, Try.ntmps44
    go_wp2
    go_loopw [13] (fun i wr => ∃ k : Nat, k ≤ L.length ∧ i = .int .i64 k ∧ L.take k = M.take k ∧ Below w.heap.size w wr) (fun i _ => L.length - (intOf i).toNat)
    case atStart => exact ⟨0, Nat.zero_le _, rfl, rfl, Below.refl _ _⟩
    case round =>
      obtain ⟨k, hk, rfl, htk, hB⟩ := hrel
      have HT := hid htk
      clear htk
      obtain ⟨hc, hf⟩ := bcell hB
      by_cases hlt : k < L.length
      · obtain ⟨b1, o1, rfl, hb1, hr1⟩ := HOP.out (by omega)
        obtain ⟨b2, o2, rfl, hb2, hr2⟩ := HOQ.out (by omega)
        obtain ⟨x, hx⟩ := get_lt hlt
        obtain ⟨y, hy⟩ := get_lt (show k < M.length by omega)
        obtain ⟨g0, g1, g2, g3⟩ := row4 hr1 hx
        obtain ⟨h0, h1, h2, h3⟩ := row4 hr2 hy
        have HX := hid hx
        have HY := hid hy
        have HS := hid (take_snoc L k x hx)
        have HS' := hid (take_snoc M k y hy)
        have hkL : (k : Int) < (L.length : Int) := by omega
        clear hx hy
        have hne := neq_run x y
        by_cases hxy : x = y
        · rw [sameX_iff.2 hxy] at hne
          have HXY := hid hxy
          clear hxy
          go_wp2
          go_quiet (fail)
          go_wp2
          go_roundw
          case rel => exact ⟨k + 1, by omega, by go_num, by rw [HS.out, HS'.out, HT.out, HXY.out], below_drewN hB _⟩
          case measure => simp [intOf]; omega
        · have : sameX x y = false := by apply Bool.eq_false_iff.2; intro h; exact hxy (sameX_iff.1 h)
          rw [this] at hne
          have HXY := hid hxy
          clear hxy this
          go_wp2
          go_quiet (fail)
          go_wp2
          go_ret
          exact ⟨ret_bool (eq_false_at HX.out HY.out HXY.out).symm, below_drewN hB _⟩
      · obtain rfl : k = L.length := by omega
        go_wp2
        go_ret
        refine ⟨ret_bool (decide_eq_true ?_).symm, hB⟩
        have := HT.out
        rw [List.take_length, HLEN.out, List.take_length] at this
        exact this
  · have hz : ((L.length : Int) != (M.length : Int)) = true := by simp; omega
    have HN := hid hlen
    clear hlen
    go_enter Try.func44, Try.ntmps44
    go_wp2
    go_ret
    exact ⟨ret_bool (decide_eq_false (fun h => HN.out (by rw [h]))).symm, Below.refl _ _⟩
end Go.Proofs.Ytmphehlpakoheaa
