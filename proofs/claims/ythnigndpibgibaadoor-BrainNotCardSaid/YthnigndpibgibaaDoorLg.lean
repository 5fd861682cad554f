/- brain.legal: whether a change of phases may be. -/
import Derived.Test.YthnigndpibgibaaDoorFk
namespace Go.Proofs.YthnigndpibgibaaDoor
open Go.RowKit Go.Shelf

theorem row8 {w : World} {b off : Nat} {l : List Int} (h : RowAt 1 enc8 w b off l) {i : Nat} {x : Int} (hi : l[i]? = some x) : w.cell? ⟨b, off + i, none⟩ = some (.int .u8 x) := by
  have := h i x hi 0 _ rfl
  simpa using this
set_option maxHeartbeats 1000000 in
set_option maxRecDepth 100000 in
theorem index8_any (s : Value) (I : List Int) (v : Int) (w : World) (hs : RowOf 1 enc8 w s I) (hL : I.length ≤ 1000000) :
    Calls Tryd.prog 93 #[s, .int .u8 v] w fun e w' => e = .returned (.int .i64 (idxL I (fun x => v == x))) ∧ Below w.heap.size w w' := by
  obtain ⟨a, c, rfl, hl1, hl2, hl3, hop⟩ := hs.open
  have HOP := hid hop
  clear hop hs
  go_enter Tryd.func93, Tryd.ntmps93
  go_wp2
  go_loopw [8] (fun i wr => ∃ k : Nat, k ≤ I.length ∧ i = .int .i64 k ∧ (∀ y ∈ I.take k, (fun x => v == x) y = false) ∧ Below w.heap.size w wr) (fun i _ => I.length - (intOf i).toNat)
  case atStart => exact ⟨0, Nat.zero_le _, rfl, by simp, Below.refl _ _⟩
  case round =>
    obtain ⟨k, hk, rfl, htk, hB⟩ := hrel
    have HT := hid htk
    clear htk
    have hsz := hB.size
    by_cases hlt : k < I.length
    · obtain ⟨b1, o1, rfl, hb1, hr1⟩ := HOP.out (by omega)
      obtain ⟨x, hx⟩ := get_lt hlt
      have g0 := row8 (hr1.below hB hb1) hx
      have hb1r : b1 < wr.heap.size := by omega
      have HX := hid hx
      have HB := hid hB
      have hkL : (k : Int) < (I.length : Int) := by omega
      obtain ⟨q, hq⟩ : ∃ q, (v == x) = q := ⟨_, rfl⟩
      have HQ := hid hq
      clear hx hB
      cases q with
      | true =>
        go_wp2
        go_ret
        exact ⟨by rw [idxL_at HX.out HQ.out HT.out]; rfl, HB.out⟩
      | false =>
        go_wp2
        go_roundw
        case rel => exact ⟨k + 1, by omega, by go_num, idxL_next HX.out HT.out HQ.out, HB.out⟩
        case measure => simp [intOf]; omega
    · obtain rfl : k = I.length := by omega
      go_wp2
      go_ret
      exact ⟨by rw [idxL_no (fun y hy => HT.out y (by rw [List.take_length]; exact hy))]; rfl, hB⟩
theorem contains8_any (s : Value) (I : List Int) (v : Int) (q : Bool) (hq : I.contains v = q) (w : World) (hs : RowOf 1 enc8 w s I) (hL : I.length ≤ 1000000) :
    Calls Tryd.prog 89 #[s, .int .u8 v] w fun e w' => e = .returned (.bool q) ∧ Below w.heap.size w w' := by
  have HC := hid (index8_any s I v w hs hL)
  have HQ := hid (show (if (0 : Int) ≤ idxL I (fun x => v == x) then true else false) = q by
    rw [← hq]
    rcases idxL_cases I (fun x => v == x) with ⟨h1, h2⟩ | ⟨k, x, h1, h2, h3, _⟩
    · rw [h1]
      have : I.contains v = false := by
        apply Bool.eq_false_iff.2
        intro hc
        have := h2 v (by simpa using hc)
        simp at this
      rw [this]; rfl
    · rw [h1]
      have hvx : v = x := by simpa using h3
      have : I.contains v = true := by rw [hvx]; simpa using mem_get h2
      rw [this]
      simp)
  clear hs hq
  go_enter Tryd.func89, Tryd.ntmps89
  go_wp2_with fail
  refine HC.out.mono ?_
  rintro e w1 ⟨rfl, hb⟩
  have HB := hid hb
  clear hb
  go_wp2
  go_ret
  exact ⟨ret_bool (by rw [← HQ.out]; by_cases h : (0 : Int) ≤ idxL I (fun x => v == x) <;> simp [h]), HB.out⟩

/-- Whether a change of phases may be. -/
def legalB (p t : Int) : Bool := decide (p < 11) && (decide (t < 11) && (chL.getD p.toNat []).contains t)
set_option maxHeartbeats 1000000 in
theorem legal_any (p t : Int) (hp : in8 p) (ht : 0 ≤ t) (w : World) (hC : Changes w) :
    Calls Tryd.prog 71 #[.int .u8 p, .int .i64 t] w fun e w' => e = .returned (.bool (legalB p t)) ∧ Below w.heap.size w w' := by
  unfold in8 at hp
  by_cases h1 : p < 11
  · by_cases h2 : t < 11
    · obtain ⟨l, hl⟩ := get_lt (l := chL) (k := p.toNat) (by simp [chL]; omega)
      obtain ⟨v, hv, hr⟩ := hC p.toNat l hl
      obtain ⟨a, c, rfl, _, _, _, _⟩ := hr.open
      have hll : l.length ≤ 1000000 := by
        have hm := mem_get hl
        simp only [chL, List.mem_cons, List.mem_nil_iff, or_false] at hm
        rcases hm with rfl | rfl | rfl | rfl | rfl | rfl | rfl | rfl | rfl | rfl | rfl <;> simp
      obtain ⟨q, hq⟩ : ∃ q, l.contains t = q := ⟨_, rfl⟩
      have HC := hid (contains8_any _ l t q hq w hr hll)
      have e : legalB p t = q := by unfold legalB; rw [List.getD_eq_getElem?_getD, hl]; simp [h1, h2]; simpa using hq
      rw [e]
      have hpn : ((p.toNat : Nat) : Int) = p := by omega
      obtain ⟨n, hn⟩ : ∃ n, p.toNat = n := ⟨_, rfl⟩
      rw [hn] at hpn hv
      subst hpn
      have hlt := lt_of_cell hv
      dsimp only at hlt
      clear hr hq e hC hl hn
      go_enter Tryd.func71, Tryd.ntmps71
      go_wp2_with fail
      refine HC.out.mono ?_
      rintro e w1 ⟨rfl, hb⟩
      have HB := hid hb
      clear hb
      go_wp2
      go_ret
      exact ⟨rfl, HB.out⟩
    · have e : legalB p t = false := by unfold legalB; simp [h2]
      rw [e]
      go_enter Tryd.func71, Tryd.ntmps71
      go_wp2
      go_ret
      exact ⟨rfl, Below.refl _ _⟩
  · have e : legalB p t = false := by unfold legalB; simp [h1]
    rw [e]
    go_enter Tryd.func71, Tryd.ntmps71
    go_wp2
    go_ret
    exact ⟨rfl, Below.refl _ _⟩
end Go.Proofs.YthnigndpibgibaaDoor
