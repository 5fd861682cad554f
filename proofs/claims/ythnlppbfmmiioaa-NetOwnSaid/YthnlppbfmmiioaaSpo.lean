/- What is told is written over: asks, answers, boxes that are seen; all else stays. -/
import Derived.Test.YthnlppbfmmiioaaTn0
namespace Go.Proofs.Ythnlppbfmmiioaa
open Go.RowKit Go.Shelf

/-- Cells of asks and of boxes that are seen may have turned, and the first cells of answers; all else is as it was. -/
structure Spoil (w w' : World) : Prop where
  size : w.heap.size ≤ w'.heap.size
  block : ∀ (k : Nat) (cur : Array Value) (t : TypeId), w.heap[k]? = some (.cells cur t) → ∃ cur' : Array Value, w'.heap[k]? = some (.cells cur' t) ∧ cur'.size = cur.size ∧ (t ≠ 27 → t ≠ 51 → ∀ j, (t = 30 → j % 6 ≠ 0) → cur'[j]? = cur[j]?)
theorem Spoil.refl (w : World) : Spoil w w := ⟨Nat.le_refl _, fun _ cur _ h => ⟨cur, h, rfl, fun _ _ _ _ => rfl⟩⟩
theorem Spoil.trans {a b c : World} (h : Spoil a b) (k : Spoil b c) : Spoil a c := ⟨Nat.le_trans h.size k.size, fun i cur t hi => by
  obtain ⟨c1, h1, h2, h3⟩ := h.block i cur t hi
  obtain ⟨c2, k1, k2, k3⟩ := k.block i c1 t h1
  exact ⟨c2, k1, k2.trans h2, fun x y j hj => (k3 x y j hj).trans (h3 x y j hj)⟩⟩
theorem Spoil.below {a b : World} (h : Below a.heap.size a b) : Spoil a b := ⟨h.size, fun _i cur _t hi => ⟨cur, blk_below hi h (blk_lt hi), rfl, fun _ _ _ _ => rfl⟩⟩
theorem Spoil.set {a w : World} (h : Spoil a w) {b j : Nat} {cur : Array Value} {t : TypeId} (hb : w.heap[b]? = some (.cells cur t)) (ht : t = 27 ∨ t = 51 ∨ t = 30 ∧ j % 6 = 0) (u : Value) : Spoil a (w.setCell ⟨b, j, none⟩ u) := by
  refine h.trans ⟨by simp [World.setCell], fun i c s hi => ?_⟩
  by_cases hib : i = b
  · subst hib
    rw [hb] at hi
    cases hi
    refine ⟨cur.setIfInBounds j u, blk_set hb j u, by simp, fun x y q hq => ?_⟩
    rcases ht with ht | ht | ⟨ht, hm⟩
    · exact absurd ht x
    · exact absurd ht y
    · have := hq ht
      rw [Array.getElem?_setIfInBounds, if_neg (by intro e; subst e; exact this hm)]
  · exact ⟨c, (Below.heap_setCell w ⟨b, j, none⟩ u i hib).trans hi, rfl, fun _ _ _ _ => rfl⟩
theorem Spoil.cell {w w' : World} (h : Spoil w w') {k j : Nat} {cur : Array Value} {t : TypeId} (hk : w.heap[k]? = some (.cells cur t)) (h1 : t ≠ 27) (h2 : t ≠ 51) (h3 : t = 30 → j % 6 ≠ 0) : w'.cell? ⟨k, j, none⟩ = w.cell? ⟨k, j, none⟩ := by
  obtain ⟨c, hc, _, hr⟩ := h.block k cur t hk
  rw [blk_cell hc, blk_cell hk]
  exact hr h1 h2 j h3
theorem Spoil.blk {w w' : World} (h : Spoil w w') {k : Nat} {cur : Array Value} {t : TypeId} (hk : w.heap[k]? = some (.cells cur t)) (h1 : t ≠ 27) (h2 : t ≠ 51) (h3 : t ≠ 30) : w'.heap[k]? = some (.cells cur t) := by
  obtain ⟨c, hc, hs, hr⟩ := h.block k cur t hk
  rw [hc]
  congr 2
  exact Array.ext_getElem? (fun j => hr h1 h2 j (fun e => absurd e h3))

/-- A slice of n things, of k cells each, that may be written; its block lies behind a base. -/
def SlW (W : World) (base : Nat) (e : TypeId) (k : Nat) (v : Value) (n : Nat) : Prop :=
  ∃ a c, v = .slice a n c ∧ (0 < n → ∃ g cur, a = some ⟨g, 0, none⟩ ∧ base ≤ g ∧ W.heap[g]? = some (.cells cur e) ∧ n * k ≤ cur.size)
theorem SlW.spoil {W W' : World} {base k n : Nat} {e : TypeId} {v : Value} (h : SlW W base e k v n) (hs : Spoil W W') : SlW W' base e k v n := by
  obtain ⟨a, c, h1, h2⟩ := h
  refine ⟨a, c, h1, fun h0 => ?_⟩
  obtain ⟨g, cur, q1, q2, q3, q4⟩ := h2 h0
  obtain ⟨c', r1, r2, _⟩ := hs.block g cur e q3
  exact ⟨g, c', q1, q2, r1, by rw [r2]; exact q4⟩
theorem Owns.slw {α : Type} {k : Nat} {e : TypeId} {enc : α → List Value} {W : World} {base b : Nat} {v : Value} {l : List α} (h : Owns k e enc W base v l) (hb : b ≤ base) : SlW W b e k v l.length := by
  obtain ⟨_, ⟨h1, h2⟩ | ⟨g, cap, cur, h2, h3, h4, h5, h6, h7, h8⟩⟩ := h
  · exact ⟨none, 0, by rw [h1, h2], fun h0 => by omega⟩
  · exact ⟨_, cap, h2, fun _ => ⟨g, cur, rfl, by omega, h4, by rw [h7]; exact Nat.mul_le_mul_right k h5⟩⟩
/-- A net that may be written over. -/
def NetW (W : World) (base : Nat) (va vt : Value) : Prop :=
  ∃ na nt, SlW W base 27 6 va na ∧ na ≤ 1000 ∧ SlW W base 30 6 vt nt ∧ nt ≤ 1000 ∧ ∀ g c i, vt = .slice (some ⟨g, 0, none⟩) nt c → i < nt → ∃ s m, W.cell? ⟨g, i * 6 + 4, none⟩ = some s ∧ SlW W base 51 7 s m ∧ m ≤ 1000
theorem NetW.spoil {W W' : World} {base : Nat} {va vt : Value} (h : NetW W base va vt) (hs : Spoil W W') : NetW W' base va vt := by
  obtain ⟨na, nt, h1, h2, h3, h4, h5⟩ := h
  refine ⟨na, nt, h1.spoil hs, h2, h3.spoil hs, h4, fun g c i hv hi => ?_⟩
  obtain ⟨s, m, q1, q2, q3⟩ := h5 g c i hv hi
  obtain ⟨a, c', r1, r2⟩ := h3
  obtain ⟨g', cur, t1, t2, t3, t4⟩ := r2 (by omega)
  rw [r1] at hv
  cases hv
  cases t1
  refine ⟨s, m, ?_, q2.spoil hs, q3⟩
  rw [hs.cell t3 (by decide) (by decide) (fun _ => by omega)]
  exact q1
theorem NetOwn.w {W : World} {base b : Nat} {va vt : Value} {n : NetV} (h : NetOwn W base va vt n) (hk : netOk n) (hb : b ≤ base) : NetW W b va vt := by
  obtain ⟨h1, ms, h2, h3⟩ := h
  have hl : ms.length = n.tells.length := h3.1
  refine ⟨n.asks.length, ms.length, h1.slw hb, hk.1, h2.slw hb, by rw [hl]; exact hk.2.1, fun g c i hv hi => ?_⟩
  obtain ⟨x, hx⟩ := get_lt hi
  obtain ⟨t, ht⟩ := get_lt (l := n.tells) (k := i) (by omega)
  have hrow := h2.row encT_len (by decide)
  obtain ⟨va', vc', hde, _, _, _, hop⟩ := hrow.open
  rw [hv] at hde
  cases hde
  obtain ⟨g', off, hgo, _, hrw⟩ := hop (by omega)
  cases hgo
  have h5 := (rowT hrw hx).2.2.2.2.1
  rw [Nat.zero_add] at h5
  have h6 := (h3.2 i x t hx ht).1.slw hb
  exact ⟨x.sv, t.seen.length, h5, h6, hk.2.2 t (mem_get ht)⟩
end Go.Proofs.Ythnlppbfmmiioaa
