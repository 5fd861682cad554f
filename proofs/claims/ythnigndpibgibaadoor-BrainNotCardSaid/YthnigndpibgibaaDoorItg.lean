/- What ranging over functions wants: words that hold of any program. -/
import Derived.Test.YthnigndpibgibaaDoorBrA
import Derived.RangeFuncNested
import Derived.RangeFuncBound
import Derived.RangeFuncCalls
import Derived.RangeFuncLeaves
import Derived.RangeFuncBox
import Derived.Shelf.Abstract
import Derived.Shelf.RegionOpen
import Derived.OwnWalkIn
import Derived.TacticsInMore
import Derived.LoopNIn
import Derived.LoopIn
import Derived.Sort.QuietTacIn
namespace Go.Proofs.YthnigndpibgibaaDoor
open Go.RowKit Go.Shelf
attribute [local go_sem] Oper.semAt_some

theorem On.putObj {S : Nat → Prop} {a w : World} (h : On S a w) {l : Nat} (hl : ¬ S l) (o : Obj) : On S a (w.putObj l o) :=
  ⟨by simpa [World.putObj] using h.size, fun k hk hlt => by
    rw [← h.block k hk hlt]; simp only [World.putObj, Array.getElem?_setIfInBounds]; rw [if_neg (fun e => hl (by rw [e]; exact hk))]⟩

theorem blk_put {b D : Nat} {W : World} {c : Array Value} {t : TypeId} {o : Obj} (h : W.heap[b]? = some (.cells c t)) (hD : W.heap[D]? = some o) (ho : o.isCells = false) (o' : Obj) : (W.putObj D o').heap[b]? = some (.cells c t) := by
  have hne : ¬ D = b := by rintro rfl; rw [h] at hD; cases hD; cases ho
  simp only [World.putObj, Array.getElem?_setIfInBounds]; rw [if_neg hne]; exact h
theorem below_put {B D : Nat} {a W : World} (h : Below B a W) (hD : B ≤ D) (o : Obj) : Below B a (W.putObj D o) :=
  ⟨h.os, h.tape, h.output, by simpa [World.putObj] using h.size, fun k hk => by
    rw [← h.block k hk]; simp only [World.putObj, Array.getElem?_setIfInBounds]; rw [if_neg (by omega)]⟩
theorem keeps_set {a w : World} (h : KeepsOthers a w) (p : Addr) (u : Value) : KeepsOthers a (w.setCell p u) := h.trans (KeepsOthers.setCell _ _ _)

theorem own_blk {W W' : World} {row : Option Nat} {b : Nat} {c : Array Value} {t : TypeId} (h : W.heap[b]? = some (.cells c t)) (hg : W.grownBy W' row) (hr : ∀ r, row = some r → ∃ o : Obj, W.heap[r]? = some o ∧ o.isCells = false) : W'.heap[b]? = some (.cells c t) :=
  blk_grown h hg (fun e => by obtain ⟨o, ho, hc⟩ := hr b e.symm; rw [h] at ho; cases ho; cases hc)

theorem Owns.own {α : Type} {k : Nat} {e : TypeId} {enc : α → List Value} {W W' : World} {base : Nat} {v : Value} {l : List α} {row : Option Nat} (h : Owns k e enc W base v l) (hg : W.grownBy W' row) (hr : ∀ r, row = some r → ∃ o : Obj, W.heap[r]? = some o ∧ o.isCells = false) : Owns k e enc W' base v l := by
  refine World.ownsRow.kept h hg ?_
  obtain ⟨_, ⟨rfl, _⟩ | ⟨g, cap, cur, rfl, _, hgc, _⟩⟩ := h
  · exact .inl rfl
  · refine .inr fun e => ?_
    obtain ⟨o, ho, hc⟩ := hr g (by rw [← e]; rfl)
    rw [hgc] at ho; cases ho; cases hc

theorem keeps_grown {α : Type} {k : Nat} {e : TypeId} {enc : α → List Value} {W w1 : World} {base : Nat} {v : Value} {l : List α} {o : Obj} (h : Owns k e enc W base v l) (hg : (W.alloc o).grownBy w1 v.ownBlock) : KeepsOthers W w1 := by
  refine ⟨Nat.le_trans (by simp) hg.size, fun i o' hi ho => ?_⟩
  refine (hg.block i (by have := blk_lt hi; simp; omega) (fun e' => ?_)).trans (blk_alloc hi _)
  obtain ⟨_, ⟨rfl, _⟩ | ⟨g, cap, cur, rfl, _, hgc, _⟩⟩ := h
  · cases e'
  · cases e'; rw [hgc] at hi; cases hi; cases ho
theorem on_grown {S : Nat → Prop} {a w : World} {row : Option Nat} (h : a.grownBy w row) (hr : ∀ r, row = some r → ¬ S r) : On S a w :=
  ⟨h.size, fun k hk hl => h.block k hl (fun e => hr k e.symm hk)⟩

theorem mkfunc (fn : Fn) (first cap : Array Value) (w : World) : (Instr.makeFunc fn first cap).run Tryd.prog w = .ok (.func fn first cap) w := rfl
end Go.Proofs.YthnigndpibgibaaDoor
