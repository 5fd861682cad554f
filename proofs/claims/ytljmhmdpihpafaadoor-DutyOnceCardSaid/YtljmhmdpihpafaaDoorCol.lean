
/- A part of the proofs about open calls: contracts of functions, or plain facts that they want. -/
import Derived.Test.YtljmhmdpihpafaaDoorCln
import Derived.Test.YtljmhmdpihpafaaDoorItr
namespace Go.Proofs.YtljmhmdpihpafaaDoor
open Go.RowKit Go.Shelf
attribute [local go_sem] Oper.semAt_some

theorem own_blk {W W' : World} {row : Option Nat} {b : Nat} {c : Array Value} {t : TypeId} (h : W.heap[b]? = some (.cells c t)) (hg : W.grownBy W' row) (hr : ∀ r, row = some r → ∃ o : Obj, W.heap[r]? = some o ∧ o.isCells = false) : W'.heap[b]? = some (.cells c t) :=
  blk_grown h hg (fun e => by obtain ⟨o, ho, hc⟩ := hr b e.symm; rw [h] at ho; cases ho; cases hc)

theorem Owns.own {α : Type} {k : Nat} {e : TypeId} {enc : α → List Value} {W W' : World} {base : Nat} {v : Value} {l : List α} {row : Option Nat} (h : Owns k e enc W base v l) (hg : W.grownBy W' row) (hr : ∀ r, row = some r → ∃ o : Obj, W.heap[r]? = some o ∧ o.isCells = false) : Owns k e enc W' base v l := by
  refine World.ownsRow.kept h hg ?_
  obtain ⟨_, ⟨rfl, _⟩ | ⟨g, cap, cur, rfl, _, hgc, _⟩⟩ := h
  · exact .inl rfl
  · refine .inr fun e => ?_
    obtain ⟨o, ho, hc⟩ := hr g (by rw [← e]; rfl)
    rw [hgc] at ho; cases ho; cases hc

theorem new_cells (W : World) (x : CallV) (t : TypeId) : ∀ j u, (encC x)[j]? = some u → (W.alloc (.cells #[.int .i64 x.id, .int .u8 x.kind, .int .i64 x.key, .int .i64 x.sent] t)).cell? ((⟨W.heap.size, 0, none⟩ : Addr).add j) = some u := by
  intro j u hj
  rw [show ((⟨W.heap.size, 0, none⟩ : Addr).add j) = ⟨W.heap.size, j, none⟩ by unfold Addr.add; split <;> simp_all]
  rw [blk_cell (heap_new W _)]
  simpa [encC] using hj

theorem keeps_grown {α : Type} {k : Nat} {e : TypeId} {enc : α → List Value} {W w1 : World} {base : Nat} {v : Value} {l : List α} {o : Obj} (h : Owns k e enc W base v l) (hg : (W.alloc o).grownBy w1 v.ownBlock) : KeepsOthers W w1 := by
  refine ⟨Nat.le_trans (by simp) hg.size, fun i o' hi ho => ?_⟩
  refine (hg.block i (by have := blk_lt hi; simp; omega) (fun e' => ?_)).trans (blk_alloc hi _)
  obtain ⟨_, ⟨rfl, _⟩ | ⟨g, cap, cur, rfl, _, hgc, _⟩⟩ := h
  · cases e'
  · cases e'; rw [hgc] at hi; cases hi; cases ho
theorem on_grown {S : Nat → Prop} {a w : World} {row : Option Nat} (h : a.grownBy w row) (hr : ∀ r, row = some r → ¬ S r) : On S a w :=
  ⟨h.size, fun k hk hl => h.block k hl (fun e => hr k e.symm hk)⟩

/-- What AppendSeq has collected. -/
def ColI (w : World) (pre : List CallV) (W : World) : Prop :=
  (∃ v, W.heap[w.heap.size]? = some (.cells #[v] 31) ∧ Own12 W (w.heap.size + 1) v pre) ∧ Below w.heap.size w W ∧ w.heap.size + 1 ≤ W.heap.size
theorem ColI.own {w : World} {B : Nat} (hB : w.heap.size ≤ B) : OwnFrom B (ColI w) := by
  rintro pre W W' row ⟨⟨v, h1, h2⟩, h3, h4⟩ hg hr
  exact ⟨⟨v, own_blk h1 hg (fun r e => (hr r e).2), h2.own hg (fun r e => (hr r e).2)⟩, h3.grown hg h3.size (fun k e => Nat.le_trans hB (hr k e).1), Nat.le_trans h4 hg.size⟩

/-- Where AppendSeq's loop variable lies. -/
def ColA (w : World) (frame : Nat → CallV → Act) (x : CallV) (a' : Act) (W : World) : Prop :=
  ∃ Bx, w.heap.size + 1 ≤ Bx ∧ W.heap[Bx]? = some (.cells #[.int .i64 x.id, .int .u8 x.kind, .int .i64 x.key, .int .i64 x.sent] 45) ∧ a' = frame Bx x
theorem ColA.own {w : World} {frame : Nat → CallV → Act} {B : Nat} (x : CallV) (a' : Act) : OwnFrom B (fun (_ : Unit) W => ColA w frame x a' W) := by
  rintro _ W W' row ⟨Bx, h1, h2, h3⟩ hg hr
  exact ⟨Bx, h1, own_blk h2 hg (fun r e => (hr r e).2), h3⟩

end Go.Proofs.YtljmhmdpihpafaaDoor
