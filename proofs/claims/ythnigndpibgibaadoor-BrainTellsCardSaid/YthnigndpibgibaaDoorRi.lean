/- brain.rising. -/
import Derived.Test.YthnigndpibgibaaDoorCk7
namespace Go.Proofs.YthnigndpibgibaaDoor
open Go.RowKit Go.Shelf

def RiseP (hi : Int) (l : List Int) : Prop := (∀ x ∈ l, 0 < x ∧ x ≤ hi) ∧ l.Pairwise (· < ·)
def riseB (hi : Int) (l : List Int) : Bool := decide ((∀ x ∈ l, 0 < x ∧ x ≤ hi) ∧ l.Pairwise (· < ·))
theorem riseB_iff {hi : Int} {l : List Int} : riseB hi l = true ↔ RiseP hi l := by unfold riseB RiseP; exact decide_eq_true_iff
def RiseL (hi : Int) (l : List Int) (last : Int) : Prop := RiseP hi l ∧ (∀ y ∈ l, y ≤ last) ∧ 0 ≤ last ∧ (last = 0 ∨ last ∈ l)
theorem RiseL.nil (hi : Int) : RiseL hi [] 0 := ⟨⟨by simp, List.Pairwise.nil⟩, by simp, by omega, .inl rfl⟩
theorem RiseL.snoc {hi : Int} {l : List Int} {last x : Int} (h : RiseL hi l last) (h1 : ¬ x ≤ last) (h2 : ¬ hi < x) : RiseL hi (l ++ [x]) x := by
  obtain ⟨⟨p1, p2⟩, p3, p4, _⟩ := h
  refine ⟨⟨?_, ?_⟩, ?_, by omega, .inr (by simp)⟩
  · intro y hy
    rcases List.mem_append.1 hy with hy | hy
    · exact p1 y hy
    · simp at hy; subst hy; omega
  · rw [List.pairwise_append]
    refine ⟨p2, List.pairwise_singleton _ _, ?_⟩
    intro a ha c hc
    simp at hc
    subst hc
    have := p3 a ha
    omega
  · intro y hy
    rcases List.mem_append.1 hy with hy | hy
    · have := p3 y hy; omega
    · simp at hy; omega
theorem RiseL.stop {hi : Int} {l : List Int} {last x : Int} {k : Nat} (h : RiseL hi (l.take k) last) (hx : l[k]? = some x) (hb : x ≤ last ∨ hi < x) : riseB hi l = false := by
  apply Bool.eq_false_iff.2
  intro hr
  obtain ⟨q1, q2⟩ := riseB_iff.1 hr
  have hm := q1 x (mem_get hx)
  obtain ⟨_, _, p4, p5⟩ := h
  rcases hb with hb | hb
  · rcases p5 with rfl | hin
    · omega
    · obtain ⟨j, hj, e⟩ := List.mem_iff_getElem.1 hin
      have hjk : j < k := by simp at hj; omega
      have hkl := lt_get hx
      have := List.pairwise_iff_getElem.1 q2 j k (by omega) hkl hjk
      rw [List.getElem_take] at e
      rw [List.getElem?_eq_getElem hkl] at hx
      cases hx
      omega
  · omega
set_option maxRecDepth 100000 in
set_option maxHeartbeats 1000000 in
theorem rising_any (s : Value) (l : List Int) (hi : Int) (w : World) (hs : RowOf 1 encI w s l) (hl : l.length ≤ 1000000) :
    Calls Tryd.prog 30 #[s, .int .i64 hi] w fun e w' => e = .returned (.bool (riseB hi l)) ∧ Below w.heap.size w w' := by
  obtain ⟨sa, sc, rfl, hs1, hs2, hs3, hop⟩ := hs.open
  have HOP := hid hop
  obtain ⟨r, hr⟩ : ∃ r, riseB hi l = r := ⟨_, rfl⟩
  rw [hr]
  have HR := hid hr
  clear hop hs hr
  go_enter Tryd.func30, Tryd.ntmps30
  go_wp2
  go_loopw [5, 10] (fun last i wr => ∃ (k : Nat) (z : Int), k ≤ l.length ∧ i = .int .i64 k ∧ last = .int .i64 z ∧ RiseL hi (l.take k) z ∧ wr = w) (fun _ i _ => l.length - (intOf i).toNat)
  case atStart => exact ⟨0, 0, Nat.zero_le _, rfl, rfl, RiseL.nil _, rfl⟩
  case round =>
    obtain ⟨k, z, hk, rfl, rfl, hrl, rfl⟩ := hrel
    have HRL := hid hrl
    clear hrl
    by_cases hlt : k < l.length
    · obtain ⟨b1, o1, rfl, hb1, hr1⟩ := HOP.out (by omega)
      obtain ⟨x, hx⟩ := get_lt hlt
      have g0 := rowN1 hr1 hx
      have HX := hid hx
      have hkL : (k : Int) < (l.length : Int) := by omega
      clear hx
      by_cases h1 : x ≤ z
      · have d1 : decide (x ≤ z) = true := by simpa using h1
        have hf := hid (show r = false by rw [← HR.out]; exact HRL.out.stop HX.out (.inl h1))
        clear h1
        go_wp2
        go_ret
        exact ⟨by rw [hf.out]; rfl, Below.refl _ _⟩
      · have d1 : decide (x ≤ z) = false := by simpa using h1
        by_cases h2 : hi < x
        · have d2 : decide (hi < x) = true := by simpa using h2
          have hf := hid (show r = false by rw [← HR.out]; exact HRL.out.stop HX.out (.inr h2))
          clear h1 h2
          go_wp2
          go_ret
          exact ⟨by rw [hf.out]; rfl, Below.refl _ _⟩
        · have d2 : decide (hi < x) = false := by simpa using h2
          have HN := hid (show RiseL hi (l.take (k + 1)) x by rw [take_snoc l k x HX.out]; exact HRL.out.snoc h1 h2)
          clear h1 h2
          go_wp2
          go_roundw
          case rel => exact ⟨k + 1, x, by omega, by go_num, rfl, HN.out, by first | rfl | trivial⟩
          case measure => simp [intOf]; omega
    · obtain rfl : k = l.length := by omega
      have hf := hid (show r = true by rw [← HR.out, riseB_iff]; have := HRL.out.1; rwa [List.take_length] at this)
      go_wp2
      go_ret
      exact ⟨by rw [hf.out]; rfl, Below.refl _ _⟩
end Go.Proofs.YthnigndpibgibaaDoor
