/- The walk of NetTells. -/
import Derived.Test.YthnlppbfmmiioaaPlw
import Derived.Test.YthnlppbfmmiioaaNrs
import Derived.Deep.RegionHeld3
namespace Go.Proofs.Ythnlppbfmmiioaa
open Go.RowKit Go.Shelf

theorem tn_self (va vt ua ut : Value) (n : NetV) (w : World) (hn : NetIs w va vt n) (hm : NetIs w ua ut n) (hl : netOk n) :
    Calls Try.prog 14 #[netv va vt, netv ua ut] w fun e w' => e = .returned (.bool true) ∧ Below w.heap.size w w' := by
  have h := rnsame_any va vt ua ut n n w hn hm hl hl
  rw [nsameB_self] at h; exact h
theorem tn_rsame (va vt ua ut : Value) (n m : NetV) (b : Bool) (w : World) (hb : nsameB n m = b) (hn : NetIs w va vt n) (hm : NetIs w ua ut m) (hl : netOk n) (hk : netOk m) :
    Calls Try.prog 14 #[netv va vt, netv ua ut] w fun e w' => e = .returned (.bool b) ∧ Below w.heap.size w w' := by
  subst hb; exact rnsame_any va vt ua ut n m w hn hm hl hk
theorem tn_same (va vt ua ut : Value) (n m : NetV) (b : Bool) (w : World) (hb : nsameB n m = b) (hn : NetIs w va vt n) (hm : NetIs w ua ut m) (hl : netOk n) (hk : netOk m) :
    Calls Try.prog 16 #[netv va vt, netv ua ut] w fun e w' => e = .returned (.bool b) ∧ Below w.heap.size w w' := by
  subst hb; exact nsame_any va vt ua ut n m w hn hm hl hk
theorem tn_own (va vt : Value) (n : NetV) (w : World) (hn : NetIs w va vt n) (hk : netOk n) :
    Calls Try.prog 15 #[netv va vt] w fun e w' => ∃ a c b d, e = .returned (.agg #[.slice a n.asks.length c, .slice b n.tells.length d]) ∧ NetIs w' (.slice a n.asks.length c) (.slice b n.tells.length d) n ∧ Below w.heap.size w w' := by
  refine (own_any va vt n w hn hk).mono ?_
  rintro e w' ⟨ua, ut, he, hn, hb⟩
  obtain ⟨a, c, b, d, rfl, rfl⟩ := hn.shape
  exact ⟨a, c, b, d, he, hn.is, hb⟩
theorem send_ok {n : NetV} (h : small n) (x : AskV) : netOk (sendV n x).1 := by
  unfold sendV; split
  · exact h.send x
  · exact h.ok
theorem post_ok {n : NetV} (h : small n) (x : TellV) (hx : x.seen.length ≤ 60) : netOk (postV n x).1 := by
  unfold postV; split
  · exact h.post x (by omega)
  · exact h.ok
theorem ask_ok {n : NetV} (h : small n) (at' : Int) : netOk (askV n at').1 := by
  unfold askV; split
  · exact ⟨by have := h.ok.1; rw [List.length_eraseIdx]; split <;> omega, h.ok.2.1, h.ok.2.2⟩
  · exact h.ok
theorem tell_ok {n : NetV} (h : small n) (at' : Int) : netOk (tellV n at').1 ∧ (tellV n at').2.1.seen.length ≤ 60 := by
  unfold tellV; split
  · rename_i x hx
    exact ⟨⟨h.ok.1, by have := h.ok.2.1; rw [List.length_eraseIdx]; split <;> omega, fun y hy => h.ok.2.2 y (List.mem_of_mem_eraseIdx hy)⟩, h.2.2 x (mem_get hx)⟩
  · exact ⟨h.ok, by simp [zeroT]⟩
theorem twice_ok {n : NetV} (h : small n) (at' : Int) (b : Bool) : netOk (twiceV n at' b).1 := by
  unfold twiceV; split
  · split
    · rename_i x hx
      exact post_ok h x (h.2.2 x (mem_get hx))
    · exact h.ok
  · split
    · exact send_ok h _
    · exact h.ok
theorem twice_any (va vt : Value) (n : NetV) (at' : Int) (b : Bool) (w : World) (hn : NetIs w va vt n) (hk : netOk n) :
    Calls Try.prog 22 #[netv va vt, .int .i64 at', .bool b] w fun e w' => ∃ ua ut, e = .returned (.tuple #[netv ua ut, .int .i64 (twiceV n at' b).2]) ∧ NetOwn w' w.heap.size ua ut (twiceV n at' b).1 ∧ Below w.heap.size w w' := by
  cases b
  · exact twiceA_any va vt n at' w hn hk
  · exact twiceT_any va vt n at' w hn hk
theorem rtwice_any (va vt : Value) (n : NetV) (at' : Int) (b : Bool) (w : World) (hn : NetIs w va vt n) (hk : netOk n) :
    Calls Try.prog 23 #[netv va vt, .int .i64 at', .bool b] w fun e w' => ∃ ua ut, e = .returned (.tuple #[netv ua ut, .int .i64 (twiceV n at' b).2]) ∧ NetOwn w' w.heap.size ua ut (twiceV n at' b).1 ∧ Below w.heap.size w w' := by
  cases b
  · exact rtwiceA_any va vt n at' w hn hk
  · exact rtwiceT_any va vt n at' w hn hk
/-- A row of boxes stays, where a cell of a net's box is written. -/
theorem RowN.box {w : World} {v : Value} {l : List SeenV} {b : Nat} {x y : Value} {t : TypeId} (h : RowN w v l) (hb : w.heap[b]? = some (.cells #[x, y] t)) (hx : ∀ k a, x ≠ .int k a) (hy : ∀ k a, y ≠ .int k a) (j : Nat) (u : Value) : RowN (w.setCell ⟨b, j, none⟩ u) v l := by
  rcases h with h | ⟨h0, b', off, c, rfl, h1, h2, hlt, hr⟩
  · exact .inl h
  · have hne : b' ≠ b := by
      rintro rfl
      obtain ⟨z, hz⟩ := get_lt h0
      have h3 := (rowN hr hz).1
      rw [blk_cell hb] at h3
      simp only [Nat.zero_mul, Nat.add_zero] at h3
      match off, h3 with
      | 0, h3 => simp at h3; exact hx _ _ h3
      | 1, h3 => simp at h3; exact hy _ _ h3
      | off + 2, h3 => simp at h3
    exact .inr ⟨h0, b', off, c, rfl, h1, h2, by simpa [World.setCell] using hlt, fun i z hz k q hq => by
      rw [World.cell?_of_block (w := w) (Below.heap_setCell w _ u b' hne)]
      exact hr i z hz k q hq⟩
end Go.Proofs.Ythnlppbfmmiioaa
