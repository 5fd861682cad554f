/- The reference's Great: is more on its way than is asked? -/
import Derived.Test.YthnlppbfmmiioaaNs
import Derived.Deep.Cut
namespace Go.Proofs.Ythnlppbfmmiioaa
open Go.RowKit Go.Shelf

/-- At most 70 Asks, 70 Tells, 60 boxes in each. -/
def small (n : NetV) : Prop := n.asks.length ≤ 70 ∧ n.tells.length ≤ 70 ∧ seenOk 60 n.tells
def GreatEnd (n : NetV) (w : World) (e : Ending) (w' : World) : Prop := ∃ b : Bool, e = .returned (.bool b) ∧ (b = false → small n) ∧ Below w.heap.size w w'
theorem small.ok {n : NetV} (h : small n) : netOk n := ⟨by have := h.1; omega, by have := h.2.1; omega, h.2.2.mono (by omega)⟩

set_option maxHeartbeats 4000000 in
set_option maxRecDepth 100000 in
theorem great_any (va vt : Value) (n : NetV) (w : World) (hn : NetIs w va vt n) :
    Calls Try.prog 8 #[netv va vt] w (GreatEnd n w) := by
  have hn0 := hn
  obtain ⟨ha, ms, hr, hms⟩ := hn0
  obtain ⟨a0, c0, rfl, hl1, hl2, hl3, hop0⟩ := ha.open
  obtain ⟨a1, c1, rfl, hm1, hm2, hm3, hop⟩ := hr.open
  obtain ⟨W, hW⟩ : ∃ W, W = w.alloc (.cells #[.slice a0 n.asks.length c0, .slice a1 ms.length c1] 25) := ⟨_, rfl⟩
  have hB : Below w.heap.size w W := by rw [hW]; exact (Below.refl _ _).alloc (Nat.le_refl _) _
  have B0 : Hid (W.heap[w.heap.size]? = some (.cells #[.slice a0 n.asks.length c0, .slice a1 ms.length c1] 25)) := hid (by rw [hW]; exact heap_new _ _)
  have HB := hid hB
  have HOP := hid hop
  have HMS := hid hms
  clear ha hr hop0 hop hms hn hB
  unfold netv
  go_enter Try.func8, Try.ntmps8
  go_wp2_with fail
  rw [← hW]
  clear hW
  obtain ⟨k0, k1, kf, kl⟩ := blk2 B0.out
  go_wp2_with fail
  clear k0 k1 kf kl
  go_loopw [3] (fun i wr => ∃ k : Nat, k ≤ ms.length ∧ k ≤ 71 ∧ i = .int .i64 k ∧ (∀ j m t, j < k → ms[j]? = some m → n.tells[j]? = some t → t.seen.length ≤ 60) ∧ W = wr) (fun i _ => ms.length - (intOf i).toNat)
  case atStart => exact ⟨0, Nat.zero_le _, by omega, rfl, fun j m t h => by omega, rfl⟩
  case round =>
    obtain ⟨k, hk, hk71, rfl, hall, rfl⟩ := hrel
    have HALL := hid hall
    clear hall
    obtain ⟨k0, k1, kf, kl⟩ := blk2 B0.out
    by_cases hlt : k < ms.length
    · by_cases h70 : k ≤ 70
      · obtain ⟨b1, o1, rfl, hb1, hr1⟩ := HOP.out (by omega)
        obtain ⟨x, hx⟩ := get_lt hlt
        obtain ⟨g0, g1, g2, g3, g4, g5⟩ := rowT (hr1.below HB.out hb1) hx
        obtain ⟨tx, htx, hrx, hvx⟩ := tell_at HMS.out hx
        obtain ⟨xa, xc, hxs⟩ := shape_row hrx
        rw [hxs] at g4
        have hkL : (k : Int) < (ms.length : Int) := by omega
        have hk7 : (k : Int) ≤ 70 := by omega
        have HX := hid hx
        have HTX := hid htx
        clear hx htx hrx hvx hxs
        by_cases h60 : 60 < tx.seen.length
        · go_wp2
          go_ret
          exact ⟨true, rfl, by simp, HB.out⟩
        · go_wp2
          go_roundw
          case rel =>
            refine ⟨k + 1, by omega, by omega, by go_num, fun j m t hj h1 h2 => ?_, trivial⟩
            by_cases hjk : j = k
            · subst hjk
              rw [HTX.out] at h2
              cases h2
              omega
            · exact HALL.out j m t (by omega) h1 h2
          case measure => simp [intOf]; omega
      · have h7 : ¬ ((k : Int) ≤ 70) := by omega
        have hkL : (k : Int) < (ms.length : Int) := by omega
        have ht : 70 < ms.length := by omega
        go_wp2
        all_goals go_ret
        all_goals first
          | exact ⟨true, rfl, by simp, HB.out⟩
          | (refine ⟨_, rfl, fun hg => ?_, HB.out⟩
             simp only [Bool.or_eq_false_iff, decide_eq_false_iff_not] at hg
             omega)
    · obtain rfl : k = ms.length := by omega
      go_wp2
      all_goals go_ret
      all_goals first
        | exact ⟨true, rfl, by simp, HB.out⟩
        | (refine ⟨_, rfl, fun hg => ?_, HB.out⟩
           simp only [Bool.or_eq_false_iff, decide_eq_false_iff_not] at hg
           refine ⟨by omega, by rw [← HMS.out.1]; omega, fun t ht => ?_⟩
           obtain ⟨j, hj⟩ := List.getElem?_of_mem ht
           obtain ⟨m, hm⟩ := get_lt (show j < ms.length by rw [HMS.out.1]; exact lt_get hj)
           exact HALL.out j m t (lt_get hm) hm hj)
end Go.Proofs.Ythnlppbfmmiioaa
