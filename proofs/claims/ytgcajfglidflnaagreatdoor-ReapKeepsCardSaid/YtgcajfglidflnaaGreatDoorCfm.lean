import Derived.Test.YtgcajfglidflnaaGreatDoorBrA
import Derived.RangeFuncNested
import Derived.RangeFuncBound
import Derived.RangeFuncCalls
import Derived.RangeFuncLeaves
import Derived.RangeFuncBox
import Derived.Shelf.Abstract
import Derived.Shelf.RegionOpen
import Derived.OwnWalkIn
import Derived.TacticsInMore
import Derived.LoopNIn
import Derived.LoopIn
import Derived.Sort.QuietTacIn
import Derived.Lib.QuietBelow
import Derived.Lib.QuietBelowIn
import Derived.Stop.RegionWithIn
/- Groups: the laid tables; whether a number is within; a floor. -/
namespace Go.Proofs.YtgcajfglidflnaaGreatDoor
open Go.RowKit Go.Shelf

/-- From where to where a group's numbers are. -/
def limL : List (Int × Int) := [(0, 6), (0, 100), (0, 3), (0, 3), (0, 20), (0, 20), (0, 20), (0, 20), (1, 20), (1, 20), (1, 20), (0, 20), (1, 1099511627776)]
def encL (p : Int × Int) : List Value := [.int .i64 p.1, .int .i64 p.2]
/-- The table of limits lies there. -/
def Limits (w : World) : Prop := RowAt 2 encL w 1 0 limL ∧ 1 < w.heap.size
theorem Limits.below {w w' : World} (h : Limits w) (hb : Below w.heap.size w w') : Limits w' := ⟨h.1.below hb h.2, Nat.lt_of_lt_of_le h.2 hb.size⟩
theorem Limits.on {S : Nat → Prop} {w w' : World} (h : Limits w) (hb : On S w w') (hS : S 1) : Limits w' := ⟨h.1.on hb hS h.2, Nat.lt_of_lt_of_le h.2 hb.size⟩
/-- Which phases may come behind one. -/
def chL : List (List Int) := [[], [2, 8], [3, 8], [4], [5, 3], [6, 4], [7], [8], [], [10, 8], [1]]
def enc8 (x : Int) : List Value := [.int .u8 x]
/-- The table of changes lies there. -/
def Changes (w : World) : Prop := ∀ (i : Nat) (l : List Int), chL[i]? = some l → ∃ v, w.cell? ⟨0, i, none⟩ = some v ∧ RowOf 1 enc8 w v l
theorem Changes.below {w w' : World} (h : Changes w) (hb : Below w.heap.size w w') : Changes w' := by
 intro i l hl
 obtain ⟨v, h1, h2⟩ := h i l hl
 exact ⟨v, cell_below h1 hb, h2.below hb⟩

def withB (n lo hi : Int) : Bool := decide (lo ≤ n ∧ n ≤ hi)
set_option maxHeartbeats 400000 in
theorem cwithin_any (n lo hi : Int) (b : Bool) (hb : withB n lo hi = b) (w : World) : Calls Tryz.prog 99 #[.int .i64 n, .agg #[.int .i64 lo, .int .i64 hi]] w fun e w' => e = .returned (.bool b) ∧ Below w.heap.size w w' := by
 have Z := hid (show Below w.heap.size w (w.alloc (.cells #[.int .i64 lo, .int .i64 hi] 148)) from (Below.refl _ _).alloc (Nat.le_refl _) _)
 by_cases h1 : lo ≤ n
 ·have d1 : decide (lo ≤ n) = true := by simpa using h1
  have e0 : b = decide (n ≤ hi) := by rw [← hb]; simp [withB, h1]
  rw [e0]
  clear hb
  go_enter Tryz.func99, Tryz.ntmps99
  go_wp2
  go_ret
  exact ⟨rfl, Z.out⟩
 ·have d1 : decide (lo ≤ n) = false := by simpa using h1
  have e0 : b = false := by rw [← hb]; simp [withB]; omega
  rw [e0]
  clear hb
  go_enter Tryz.func99, Tryz.ntmps99
  go_wp2
  go_ret
  exact ⟨rfl, Z.out⟩

/-- A group's floor, of numbers that are not too great. -/
def floorC (a b : Int) : Int := (a * b + 99) / 100
set_option maxHeartbeats 400000 in
theorem cfloor_any (f : Nat → Int) (g : Bool) (m : Value) (h0 : 0 ≤ f 0 ∧ f 0 ≤ 6) (h1 : 0 ≤ f 1 ∧ f 1 ≤ 100) (w : World) : Calls Tryz.prog 104 #[.agg (confA f g m)] w fun e w' => e = .returned (.int .i64 (floorC (f 0) (f 1))) ∧ Below w.heap.size w w' := by
 have Z := hid (show Below w.heap.size w (w.alloc (.cells (confA f g m) 27)) from (Below.refl _ _).alloc (Nat.le_refl _) _)
 have hm : 0 ≤ f 0 * f 1 ∧ f 0 * f 1 ≤ 600 := by
  obtain ⟨a1, a2⟩ := h0
  obtain ⟨b1, b2⟩ := h1
  exact ⟨Int.mul_nonneg a1 b1, by have := Int.mul_le_mul a2 b2 b1 (by decide); omega⟩
 unfold confA at Z ⊢
 unfold floorC
 go_enter Tryz.func104, Tryz.ntmps104
 go_wp2
 go_ret
 exact ⟨rfl, Z.out⟩
end Go.Proofs.YtgcajfglidflnaaGreatDoor

/- What ranging over functions wants: words that hold of any program. -/
namespace Go.Proofs.YtgcajfglidflnaaGreatDoor
open Go.RowKit Go.Shelf
attribute [local go_sem] Oper.semAt_some

theorem On.putObj {S : Nat → Prop} {a w : World} (h : On S a w) {l : Nat} (hl : ¬ S l) (o : Obj) : On S a (w.putObj l o) :=
 ⟨by simpa [World.putObj] using h.size, fun k hk hlt => by
  rw [← h.block k hk hlt]; simp only [World.putObj, Array.getElem?_setIfInBounds]; rw [if_neg (fun e => hl (by rw [e]; exact hk))]⟩

theorem blk_put {b D : Nat} {W : World} {c : Array Value} {t : TypeId} {o : Obj} (h : W.heap[b]? = some (.cells c t)) (hD : W.heap[D]? = some o) (ho : o.isCells = false) (o' : Obj) : (W.putObj D o').heap[b]? = some (.cells c t) := by
 have hne : ¬ D = b := by rintro rfl; rw [h] at hD; cases hD; cases ho
 simp only [World.putObj, Array.getElem?_setIfInBounds]; rw [if_neg hne]; exact h
theorem below_put {B D : Nat} {a W : World} (h : Below B a W) (hD : B ≤ D) (o : Obj) : Below B a (W.putObj D o) :=
 ⟨h.os, h.tape, h.output, by simpa [World.putObj] using h.size, fun k hk => by
  rw [← h.block k hk]; simp only [World.putObj, Array.getElem?_setIfInBounds]; rw [if_neg (by omega)]⟩
theorem keeps_set {a w : World} (h : KeepsOthers a w) (p : Addr) (u : Value) : KeepsOthers a (w.setCell p u) := h.trans (KeepsOthers.setCell _ _ _)

theorem own_blk {W W' : World} {row : Option Nat} {b : Nat} {c : Array Value} {t : TypeId} (h : W.heap[b]? = some (.cells c t)) (hg : W.grownBy W' row) (hr : ∀ r, row = some r → ∃ o : Obj, W.heap[r]? = some o ∧ o.isCells = false) : W'.heap[b]? = some (.cells c t) :=
 blk_grown h hg (fun e => by obtain ⟨o, ho, hc⟩ := hr b e.symm; rw [h] at ho; cases ho; cases hc)

theorem Owns.own {α : Type} {k : Nat} {e : TypeId} {enc : α → List Value} {W W' : World} {base : Nat} {v : Value} {l : List α} {row : Option Nat} (h : Owns k e enc W base v l) (hg : W.grownBy W' row) (hr : ∀ r, row = some r → ∃ o : Obj, W.heap[r]? = some o ∧ o.isCells = false) : Owns k e enc W' base v l := by
 refine World.ownsRow.kept h hg ?_
 obtain ⟨_, ⟨rfl, _⟩ | ⟨g, cap, cur, rfl, _, hgc, _⟩⟩ := h
 ·exact .inl rfl
 ·refine .inr fun e => ?_
  obtain ⟨o, ho, hc⟩ := hr g (by rw [← e]; rfl)
  rw [hgc] at ho; cases ho; cases hc

theorem mkfunc (fn : Fn) (first cap : Array Value) (w : World) : (Instr.makeFunc fn first cap).run Tryz.prog w = .ok (.func fn first cap) w := rfl
end Go.Proofs.YtgcajfglidflnaaGreatDoor

/- conf.fields goes over a group's numbers. -/
namespace Go.Proofs.YtgcajfglidflnaaGreatDoor
open Go.RowKit Go.Shelf
attribute [local go_sem] Oper.semAt_some

def itemF (Bc : Nat) (x : Fin 13) : Array Value := #[.int .i64 (x.val : Nat), .pointer (some ⟨Bc, x.val, none⟩)]
theorem fin13 (k : Nat) (hk : k < 13) : (List.finRange 13)[k]? = some ⟨k, hk⟩ := by simp [hk]

theorem idx13 (Bc : Nat) (k : Nat) (w : World) (hk : k < 13) : (Instr.index 133 (.agg #[.pointer (some ⟨Bc, 0, none⟩), .pointer (some ⟨Bc, 1, none⟩), .pointer (some ⟨Bc, 2, none⟩), .pointer (some ⟨Bc, 3, none⟩), .pointer (some ⟨Bc, 4, none⟩), .pointer (some ⟨Bc, 5, none⟩), .pointer (some ⟨Bc, 6, none⟩), .pointer (some ⟨Bc, 7, none⟩), .pointer (some ⟨Bc, 8, none⟩), .pointer (some ⟨Bc, 9, none⟩), .pointer (some ⟨Bc, 10, none⟩), .pointer (some ⟨Bc, 11, none⟩), .pointer (some ⟨Bc, 12, none⟩)]) (.int .i64 k)).run Tryz.prog w = .ok (.pointer (some ⟨Bc, k, none⟩)) w := by
 have h0 : (Instr.index 133 (.agg #[.pointer (some ⟨Bc, 0, none⟩), .pointer (some ⟨Bc, 1, none⟩), .pointer (some ⟨Bc, 2, none⟩), .pointer (some ⟨Bc, 3, none⟩), .pointer (some ⟨Bc, 4, none⟩), .pointer (some ⟨Bc, 5, none⟩), .pointer (some ⟨Bc, 6, none⟩), .pointer (some ⟨Bc, 7, none⟩), .pointer (some ⟨Bc, 8, none⟩), .pointer (some ⟨Bc, 9, none⟩), .pointer (some ⟨Bc, 10, none⟩), .pointer (some ⟨Bc, 11, none⟩), .pointer (some ⟨Bc, 12, none⟩)]) (.int .i64 0)).run Tryz.prog w = .ok (.pointer (some ⟨Bc, 0, none⟩)) w := by kernel_rfl
 have h1 : (Instr.index 133 (.agg #[.pointer (some ⟨Bc, 0, none⟩), .pointer (some ⟨Bc, 1, none⟩), .pointer (some ⟨Bc, 2, none⟩), .pointer (some ⟨Bc, 3, none⟩), .pointer (some ⟨Bc, 4, none⟩), .pointer (some ⟨Bc, 5, none⟩), .pointer (some ⟨Bc, 6, none⟩), .pointer (some ⟨Bc, 7, none⟩), .pointer (some ⟨Bc, 8, none⟩), .pointer (some ⟨Bc, 9, none⟩), .pointer (some ⟨Bc, 10, none⟩), .pointer (some ⟨Bc, 11, none⟩), .pointer (some ⟨Bc, 12, none⟩)]) (.int .i64 1)).run Tryz.prog w = .ok (.pointer (some ⟨Bc, 1, none⟩)) w := by kernel_rfl
 have h2 : (Instr.index 133 (.agg #[.pointer (some ⟨Bc, 0, none⟩), .pointer (some ⟨Bc, 1, none⟩), .pointer (some ⟨Bc, 2, none⟩), .pointer (some ⟨Bc, 3, none⟩), .pointer (some ⟨Bc, 4, none⟩), .pointer (some ⟨Bc, 5, none⟩), .pointer (some ⟨Bc, 6, none⟩), .pointer (some ⟨Bc, 7, none⟩), .pointer (some ⟨Bc, 8, none⟩), .pointer (some ⟨Bc, 9, none⟩), .pointer (some ⟨Bc, 10, none⟩), .pointer (some ⟨Bc, 11, none⟩), .pointer (some ⟨Bc, 12, none⟩)]) (.int .i64 2)).run Tryz.prog w = .ok (.pointer (some ⟨Bc, 2, none⟩)) w := by kernel_rfl
 have h3 : (Instr.index 133 (.agg #[.pointer (some ⟨Bc, 0, none⟩), .pointer (some ⟨Bc, 1, none⟩), .pointer (some ⟨Bc, 2, none⟩), .pointer (some ⟨Bc, 3, none⟩), .pointer (some ⟨Bc, 4, none⟩), .pointer (some ⟨Bc, 5, none⟩), .pointer (some ⟨Bc, 6, none⟩), .pointer (some ⟨Bc, 7, none⟩), .pointer (some ⟨Bc, 8, none⟩), .pointer (some ⟨Bc, 9, none⟩), .pointer (some ⟨Bc, 10, none⟩), .pointer (some ⟨Bc, 11, none⟩), .pointer (some ⟨Bc, 12, none⟩)]) (.int .i64 3)).run Tryz.prog w = .ok (.pointer (some ⟨Bc, 3, none⟩)) w := by kernel_rfl
 have h4 : (Instr.index 133 (.agg #[.pointer (some ⟨Bc, 0, none⟩), .pointer (some ⟨Bc, 1, none⟩), .pointer (some ⟨Bc, 2, none⟩), .pointer (some ⟨Bc, 3, none⟩), .pointer (some ⟨Bc, 4, none⟩), .pointer (some ⟨Bc, 5, none⟩), .pointer (some ⟨Bc, 6, none⟩), .pointer (some ⟨Bc, 7, none⟩), .pointer (some ⟨Bc, 8, none⟩), .pointer (some ⟨Bc, 9, none⟩), .pointer (some ⟨Bc, 10, none⟩), .pointer (some ⟨Bc, 11, none⟩), .pointer (some ⟨Bc, 12, none⟩)]) (.int .i64 4)).run Tryz.prog w = .ok (.pointer (some ⟨Bc, 4, none⟩)) w := by kernel_rfl
 have h5 : (Instr.index 133 (.agg #[.pointer (some ⟨Bc, 0, none⟩), .pointer (some ⟨Bc, 1, none⟩), .pointer (some ⟨Bc, 2, none⟩), .pointer (some ⟨Bc, 3, none⟩), .pointer (some ⟨Bc, 4, none⟩), .pointer (some ⟨Bc, 5, none⟩), .pointer (some ⟨Bc, 6, none⟩), .pointer (some ⟨Bc, 7, none⟩), .pointer (some ⟨Bc, 8, none⟩), .pointer (some ⟨Bc, 9, none⟩), .pointer (some ⟨Bc, 10, none⟩), .pointer (some ⟨Bc, 11, none⟩), .pointer (some ⟨Bc, 12, none⟩)]) (.int .i64 5)).run Tryz.prog w = .ok (.pointer (some ⟨Bc, 5, none⟩)) w := by kernel_rfl
 have h6 : (Instr.index 133 (.agg #[.pointer (some ⟨Bc, 0, none⟩), .pointer (some ⟨Bc, 1, none⟩), .pointer (some ⟨Bc, 2, none⟩), .pointer (some ⟨Bc, 3, none⟩), .pointer (some ⟨Bc, 4, none⟩), .pointer (some ⟨Bc, 5, none⟩), .pointer (some ⟨Bc, 6, none⟩), .pointer (some ⟨Bc, 7, none⟩), .pointer (some ⟨Bc, 8, none⟩), .pointer (some ⟨Bc, 9, none⟩), .pointer (some ⟨Bc, 10, none⟩), .pointer (some ⟨Bc, 11, none⟩), .pointer (some ⟨Bc, 12, none⟩)]) (.int .i64 6)).run Tryz.prog w = .ok (.pointer (some ⟨Bc, 6, none⟩)) w := by kernel_rfl
 have h7 : (Instr.index 133 (.agg #[.pointer (some ⟨Bc, 0, none⟩), .pointer (some ⟨Bc, 1, none⟩), .pointer (some ⟨Bc, 2, none⟩), .pointer (some ⟨Bc, 3, none⟩), .pointer (some ⟨Bc, 4, none⟩), .pointer (some ⟨Bc, 5, none⟩), .pointer (some ⟨Bc, 6, none⟩), .pointer (some ⟨Bc, 7, none⟩), .pointer (some ⟨Bc, 8, none⟩), .pointer (some ⟨Bc, 9, none⟩), .pointer (some ⟨Bc, 10, none⟩), .pointer (some ⟨Bc, 11, none⟩), .pointer (some ⟨Bc, 12, none⟩)]) (.int .i64 7)).run Tryz.prog w = .ok (.pointer (some ⟨Bc, 7, none⟩)) w := by kernel_rfl
 have h8 : (Instr.index 133 (.agg #[.pointer (some ⟨Bc, 0, none⟩), .pointer (some ⟨Bc, 1, none⟩), .pointer (some ⟨Bc, 2, none⟩), .pointer (some ⟨Bc, 3, none⟩), .pointer (some ⟨Bc, 4, none⟩), .pointer (some ⟨Bc, 5, none⟩), .pointer (some ⟨Bc, 6, none⟩), .pointer (some ⟨Bc, 7, none⟩), .pointer (some ⟨Bc, 8, none⟩), .pointer (some ⟨Bc, 9, none⟩), .pointer (some ⟨Bc, 10, none⟩), .pointer (some ⟨Bc, 11, none⟩), .pointer (some ⟨Bc, 12, none⟩)]) (.int .i64 8)).run Tryz.prog w = .ok (.pointer (some ⟨Bc, 8, none⟩)) w := by kernel_rfl
 have h9 : (Instr.index 133 (.agg #[.pointer (some ⟨Bc, 0, none⟩), .pointer (some ⟨Bc, 1, none⟩), .pointer (some ⟨Bc, 2, none⟩), .pointer (some ⟨Bc, 3, none⟩), .pointer (some ⟨Bc, 4, none⟩), .pointer (some ⟨Bc, 5, none⟩), .pointer (some ⟨Bc, 6, none⟩), .pointer (some ⟨Bc, 7, none⟩), .pointer (some ⟨Bc, 8, none⟩), .pointer (some ⟨Bc, 9, none⟩), .pointer (some ⟨Bc, 10, none⟩), .pointer (some ⟨Bc, 11, none⟩), .pointer (some ⟨Bc, 12, none⟩)]) (.int .i64 9)).run Tryz.prog w = .ok (.pointer (some ⟨Bc, 9, none⟩)) w := by kernel_rfl
 have h10 : (Instr.index 133 (.agg #[.pointer (some ⟨Bc, 0, none⟩), .pointer (some ⟨Bc, 1, none⟩), .pointer (some ⟨Bc, 2, none⟩), .pointer (some ⟨Bc, 3, none⟩), .pointer (some ⟨Bc, 4, none⟩), .pointer (some ⟨Bc, 5, none⟩), .pointer (some ⟨Bc, 6, none⟩), .pointer (some ⟨Bc, 7, none⟩), .pointer (some ⟨Bc, 8, none⟩), .pointer (some ⟨Bc, 9, none⟩), .pointer (some ⟨Bc, 10, none⟩), .pointer (some ⟨Bc, 11, none⟩), .pointer (some ⟨Bc, 12, none⟩)]) (.int .i64 10)).run Tryz.prog w = .ok (.pointer (some ⟨Bc, 10, none⟩)) w := by kernel_rfl
 have h11 : (Instr.index 133 (.agg #[.pointer (some ⟨Bc, 0, none⟩), .pointer (some ⟨Bc, 1, none⟩), .pointer (some ⟨Bc, 2, none⟩), .pointer (some ⟨Bc, 3, none⟩), .pointer (some ⟨Bc, 4, none⟩), .pointer (some ⟨Bc, 5, none⟩), .pointer (some ⟨Bc, 6, none⟩), .pointer (some ⟨Bc, 7, none⟩), .pointer (some ⟨Bc, 8, none⟩), .pointer (some ⟨Bc, 9, none⟩), .pointer (some ⟨Bc, 10, none⟩), .pointer (some ⟨Bc, 11, none⟩), .pointer (some ⟨Bc, 12, none⟩)]) (.int .i64 11)).run Tryz.prog w = .ok (.pointer (some ⟨Bc, 11, none⟩)) w := by kernel_rfl
 have h12 : (Instr.index 133 (.agg #[.pointer (some ⟨Bc, 0, none⟩), .pointer (some ⟨Bc, 1, none⟩), .pointer (some ⟨Bc, 2, none⟩), .pointer (some ⟨Bc, 3, none⟩), .pointer (some ⟨Bc, 4, none⟩), .pointer (some ⟨Bc, 5, none⟩), .pointer (some ⟨Bc, 6, none⟩), .pointer (some ⟨Bc, 7, none⟩), .pointer (some ⟨Bc, 8, none⟩), .pointer (some ⟨Bc, 9, none⟩), .pointer (some ⟨Bc, 10, none⟩), .pointer (some ⟨Bc, 11, none⟩), .pointer (some ⟨Bc, 12, none⟩)]) (.int .i64 12)).run Tryz.prog w = .ok (.pointer (some ⟨Bc, 12, none⟩)) w := by kernel_rfl
 have h13 : k = 0 ∨ k = 1 ∨ k = 2 ∨ k = 3 ∨ k = 4 ∨ k = 5 ∨ k = 6 ∨ k = 7 ∨ k = 8 ∨ k = 9 ∨ k = 10 ∨ k = 11 ∨ k = 12 := by omega
 rcases h13 with rfl | rfl | rfl | rfl | rfl | rfl | rfl | rfl | rfl | rfl | rfl | rfl | rfl
 ·exact h0
 ·exact h1
 ·exact h2
 ·exact h3
 ·exact h4
 ·exact h5
 ·exact h6
 ·exact h7
 ·exact h8
 ·exact h9
 ·exact h10
 ·exact h11
 ·exact h12

set_option maxRecDepth 100000 in
set_option maxHeartbeats 2000000 in
theorem fields1_in (n : Nat) (hn : 1 ≤ n) (l Bp Bc : Nat) (S : Nat → Prop) (J Jx : List (Fin 13) → World → Prop)
  (W : World) (hS : ∀ k, S k → k < W.heap.size) (hJ : AbidesFrom W.heap.size J)
  (hY : ∀ pre x W, J pre W → pre.length < 13 → YieldAt Fence.wide (n - 1) Tryz.prog l (itemF Bc x) W fun e W' =>
   (e = .returned (.bool true) ∧ J (pre ++ [x]) W' ∧ On S W W') ∨ (e = .returned (.bool false) ∧ Jx (pre ++ [x]) W'))
  (hBp : S Bp) (hp : W.cell? ⟨Bp, 0, none⟩ = some (.pointer (some ⟨Bc, 0, none⟩))) (h0 : J [] W) :
  CallsIn Fence.wide n Tryz.prog 72 #[.func (.yield l) #[] #[], .pointer (some ⟨Bp, 0, none⟩)] W fun e W' => (∃ v, e = .returned v) ∧
   ((∃ ys, ys = List.finRange 13 ∧ J ys W') ∨ (∃ pre, True ∧ Jx pre W')) := by
 have HY := hid hY
 clear hY
 have hlt := hS Bp hBp
 have HIX := hid (idx13 Bc)
 refine callsIn_of_wp Tryz.func72 rfl trivial ?_ rfl
 simp only [Tryz.ntmps72, List.size_toArray, List.length_cons, List.length_nil, Nat.reduceAdd, Nat.reduceSub, Array.replicate_succ, Array.replicate_zero, List.push_toArray, List.append_toArray, List.nil_append, List.cons_append]
 gi_wp2
 gi_quiet_th (fail)
 gi_wp2
 gi_loopw [45] (fun i wr => ∃ k : Nat, k ≤ 13 ∧ i = .int .i64 k ∧ J ((List.finRange 13).take k) wr ∧ On S W wr) (fun i _ => 13 - (intOf i).toNat)
 case atStart => exact ⟨0, Nat.zero_le _, rfl, hJ _ _ _ none h0 (grown_of_below (below_drewN (Below.refl _ _) nq) none) (by simp), On.of_below (below_drewN (Below.refl _ _) nq) hS⟩
 case round =>
  obtain ⟨k, hk1, rfl, hJs, hB⟩ := hrel
  by_cases hk : k < 13
  ·have hkI : (k : Int) < 13 := by omega
   obtain ⟨fn, tmps, assign, body, hy, hR⟩ := HY.out _ ⟨k, hk⟩ _ hJs (by simp; omega)
   dsimp only [itemF] at hy
   have hix := fun w => HIX.out k w hk
   have HR := hid hR
   clear hR
   gi_wp2
   refine HR.out.mono ?_
   rintro e W3 (⟨rfl, hJ3, hk3⟩ | ⟨rfl, hJx3⟩)
   ·gi_wp2
    go_roundw
    case rel => exact ⟨k + 1, by omega, by simp, by rw [take_snoc _ k ⟨k, hk⟩ (fin13 k hk)]; exact hJ3, hB.trans hk3⟩
    case measure => simp [intOf]; omega
   ·gi_wp2
    refine bodyPost_ret (results_none rfl _ _ _) rfl ?_
    exact ⟨⟨_, rfl⟩, .inr ⟨_, trivial, hJx3⟩⟩
  ·obtain rfl : k = 13 := by omega
   have HJ := hid (show J (List.finRange 13) wr by rwa [List.take_of_length_le (by simp)] at hJs)
   clear hJs
   gi_wp2
   go_end0
   exact ⟨⟨_, rfl⟩, .inl ⟨_, rfl, HJ.out⟩⟩

/-- fields hands back a value that goes over a group's numbers, in order. -/
theorem fields_stops (n : Nat) (hn : 1 ≤ n) (Bp Bc : Nat) (S : Nat → Prop) (w : World) (hS : ∀ k, S k → k < w.heap.size) (hBp : S Bp) (hp : w.cell? ⟨Bp, 0, none⟩ = some (.pointer (some ⟨Bc, 0, none⟩))) :
  SeqStopsK Fence.wide n Tryz.prog 72 #[.pointer (some ⟨Bp, 0, none⟩)] (itemF Bc) (On S) (fun ys => ys = List.finRange 13) (fun _ => True) 13 w := by
 intro l J Jx W hW hJ _ hY h0
 have hO : On S w W := On.of_below hW hS
 exact fields1_in n hn l Bp Bc S J Jx W (fun k hk => Nat.lt_of_lt_of_le (hS k hk) hW.size) hJ hY hBp ((hO.cell _ hBp (hS _ hBp)).trans hp) h0

theorem fields_any (Bc : Nat) (w : World) :
  Calls Tryz.prog 62 #[.pointer (some ⟨Bc, 0, none⟩)] w fun e w' => e = .returned (.func (.func 72) #[] #[.pointer (some ⟨w.heap.size, 0, none⟩)]) ∧ w' = w.alloc (.cells #[.pointer (some ⟨Bc, 0, none⟩)] 120) := by
 have hmf := mkfunc
 go_enter Tryz.func62, Tryz.ntmps62
 go_wp2
 go_ret
 exact ⟨rfl, rfl⟩
end Go.Proofs.YtgcajfglidflnaaGreatDoor

/- conf.Check: whether a group may be. -/
namespace Go.Proofs.YtgcajfglidflnaaGreatDoor
open Go.RowKit Go.Shelf

def limAt (i : Nat) : Int × Int := limL.getD i (0, 0)
def fieldsB (f : Nat → Int) : Bool := (List.range 13).all fun i => withB (f i) (limAt i).1 (limAt i).2
def marksB (M : List Int) : Bool := decide ((∀ x ∈ M, 1 ≤ x ∧ x ≤ 100) ∧ M.Pairwise (· < ·))
def checkB (f : Nat → Int) (M : List Int) : Bool := fieldsB f && (decide (M.length ≤ 4) && (marksB M && (f 0 == 0 || decide (floorC (f 0) (f 1) < f 2 + f 0))))
theorem fieldsB_at {f : Nat → Int} (h : fieldsB f = true) {i : Nat} (hi : i < 13) : (limAt i).1 ≤ f i ∧ f i ≤ (limAt i).2 := by
 unfold fieldsB at h
 rw [List.all_eq_true] at h
 have := h i (List.mem_range.2 hi)
 simpa [withB] using this
theorem fieldsB_no {f : Nat → Int} {i : Nat} (hi : i < 13) (h : withB (f i) (limAt i).1 (limAt i).2 = false) : fieldsB f = false := by
 apply Bool.eq_false_iff.2
 intro hf
 unfold fieldsB at hf
 rw [List.all_eq_true] at hf
 have := hf i (List.mem_range.2 hi)
 rw [h] at this
 cases this
theorem marksB_nil : marksB [] = true := by simp [marksB]
theorem marksB_next {M : List Int} {k : Nat} {x : Int} (hx : M[k]? = some x) (h : marksB (M.take k) = true) (h1 : withB x 1 100 = true) (h2 : ∀ y, 0 < k → M[k - 1]? = some y → y < x) : marksB (M.take (k + 1)) = true := by
 unfold marksB at h ⊢
 simp only [decide_eq_true_eq] at h ⊢
 obtain ⟨p1, p2⟩ := h
 rw [take_snoc M k x hx]
 have hw : 1 ≤ x ∧ x ≤ 100 := by simpa [withB] using h1
 refine ⟨?_, ?_⟩
 ·intro y hy
  rcases List.mem_append.1 hy with hy | hy
  ·exact p1 y hy
  ·simp at hy; subst hy; exact hw
 ·rw [List.pairwise_append]
  refine ⟨p2, List.pairwise_singleton _ _, ?_⟩
  intro a ha c hc
  simp at hc
  subst hc
  have hlt := lt_get hx
  obtain ⟨i, hi, rfl⟩ := List.mem_iff_getElem.1 ha
  have hk : i < k := by simp at hi; omega
  obtain ⟨y, hy⟩ := get_lt (l := M) (k := k - 1) (by omega)
  have hyx := h2 y (by omega) hy
  by_cases he : i = k - 1
  ·subst he
   have : (M.take k)[k - 1] = y := by
    rw [List.getElem_take]
    exact Option.some.inj ((List.getElem?_eq_getElem (by omega)).symm.trans hy)
   omega
  ·have hp := List.pairwise_iff_getElem.1 p2 i (k - 1) hi (by simp; omega) (by omega)
   have : (M.take k)[k - 1]'(by simp; omega) = y := by
    rw [List.getElem_take]
    exact Option.some.inj ((List.getElem?_eq_getElem (by omega)).symm.trans hy)
   omega
theorem marksB_bad {M : List Int} {k : Nat} {x : Int} (hx : M[k]? = some x) (h : withB x 1 100 = false ∨ ∃ y, 0 < k ∧ M[k - 1]? = some y ∧ x ≤ y) : marksB M = false := by
 apply Bool.eq_false_iff.2
 intro hm
 unfold marksB at hm
 simp only [decide_eq_true_eq] at hm
 obtain ⟨p1, p2⟩ := hm
 rcases h with h | ⟨y, h0, hy, hle⟩
 ·have := p1 x (mem_get hx)
  simp [withB] at h
  omega
 ·have hlt := lt_get hx
  have := List.pairwise_iff_getElem.1 p2 (k - 1) k (by omega) hlt (by omega)
  have e1 : M[k - 1] = y := Option.some.inj ((List.getElem?_eq_getElem (by omega)).symm.trans hy)
  have e2 : M[k] = x := Option.some.inj ((List.getElem?_eq_getElem hlt).symm.trans hx)
  omega

def okN (b : Bool) : Int := if b then 0 else 70
/-- Between two rounds of Check's first loop. -/
def ChkI (f : Nat → Int) (w0 : World) (pre : List (Fin 13)) (W : World) : Prop :=
 (∀ i ∈ pre, withB (f i.val) (limAt i.val).1 (limAt i.val).2 = true) ∧ Below w0.heap.size w0 W
theorem ChkI.own {f : Nat → Int} {w0 : World} {B : Nat} (hB : w0.heap.size ≤ B) : OwnFrom B (ChkI f w0) := by
 rintro pre W W' row ⟨h1, h2⟩ hg hr
 exact ⟨h1, h2.grown hg h2.size (fun k e => Nat.le_trans hB (hr k e).1)⟩
def ChkX (f : Nat → Int) (w0 : World) (c : Code) (_pre : List (Fin 13)) (W : World) : Prop := c = .goto 0 ∧ fieldsB f = false ∧ Below w0.heap.size w0 W
theorem ChkX.own {f : Nat → Int} {w0 : World} {B : Nat} (c : Code) (hB : w0.heap.size ≤ B) : OwnFrom B (ChkX f w0 c) := by
 rintro pre W W' row ⟨h0, h1, h2⟩ hg hr
 exact ⟨h0, h1, h2.grown hg h2.size (fun k e => Nat.le_trans hB (hr k e).1)⟩
def ChkA (frame : Fin 13 → Act) (x : Fin 13) (a' : Act) (_ : World) : Prop := a' = frame x
theorem ChkA.own {frame : Fin 13 → Act} {B : Nat} (x : Fin 13) (a' : Act) : OwnFrom B (fun (_ : Unit) W => ChkA frame x a' W) := by
 rintro _ W W' row h _ _
 exact h

/-- What holds where Check jumps to its end. -/
def ChkJ (r : Bool) (w : World) (a' : Act) (W : World) : Prop :=
 ∃ (D : Nat) (u0 u1 u2 u3 u4 u5 u6 u7 u8 u9 u10 u11 u12 u13 u14 u15 u16 u17 u18 u19 u20 u21 u22 u23 u24 u25 u26 u27 u28 u29 u30 u31 u32 u33 u34 u35 u36 u37 u38 u39 u40 u41 u42 u43 u44 u45 u46 u47 u48 u49 u50 u51 u52 u53 u54 u55 u56 u57 u58 u59 u60 u61 : Value), a' = { tmps := #[u0, u1, u2, u3, u4, u5, u6, u7, u8, u9, u10, u11, u12, u13, u14, u15, u16, u17, u18, u19, u20, u21, u22, u23, u24, u25, u26, u27, u28, u29, u30, u31, u32, u33, u34, u35, u36, u37, u38, u39, u40, u41, u42, u43, u44, u45, u46, u47, u48, u49, u50, u51, u52, u53, u54, u55, u56, u57, u58, u59, u60, u61], defers := [{ target := .collected D, args := #[] }] } ∧ r = false ∧ Below w.heap.size w W ∧ W.heap[D]? = some (.deferred (some [])) ∧ w.heap.size ≤ D

theorem keeps_below {W W' : World} (h : Below W.heap.size W W') : KeepsOthers W W' := ⟨h.size, fun i _o hi _ => (h.block i (blk_lt hi)).trans hi⟩
attribute [-go_sem] loadVar
attribute [local go_sem] load_other2
attribute [local go_sem] Oper.semAt_some
set_option maxRecDepth 100000 in
set_option maxHeartbeats 4000000 in
theorem ccheck_any (f : Nat → Int) (g : Bool) (mv : Value) (M : List Int) (w : World) (hM : RowOf 1 encI w mv M) (hL : Limits w) :
  Calls Tryz.prog 100 #[.agg (confA f g mv)] w fun e w' => e = .returned (.int .i64 (okN (checkB f M))) ∧ Below w.heap.size w w' := by
 have hmf := mkfunc
 obtain ⟨r, hr⟩ : ∃ r, checkB f M = r := ⟨_, rfl⟩
 rw [hr]
 have HR := hid hr
 clear hr
 refine (callsIn_wide (n := 4)).1 ?_
 refine callsIn_of_wp_marks Tryz.func100 rfl trivial ?_ rfl
 obtain ⟨W1, hW1⟩ : ∃ W1, W1 = w.alloc (.cells (confA f g mv) 27) := ⟨_, rfl⟩
 have hz1 : W1.heap.size = w.heap.size + 1 := by rw [hW1]; simp
 have HF := hid (fields_any w.heap.size W1)
 have HW1 := hid hW1
 simp only [Tryz.ntmps100, List.size_toArray, List.length_cons, List.length_nil, Nat.reduceAdd, Nat.reduceSub, Array.replicate_succ, Array.replicate_zero, List.push_toArray, List.append_toArray, List.nil_append, List.cons_append]
 refine wpIn_wide.2 ?_
 go_wp2
 refine wp_scope_jumps 0 (ChkJ r w) (fun _ _ => 0) rfl ?first ?pass
 case pass =>
  rintro a' W ⟨D, u0, u1, u2, u3, u4, u5, u6, u7, u8, u9, u10, u11, u12, u13, u14, u15, u16, u17, u18, u19, u20, u21, u22, u23, u24, u25, u26, u27, u28, u29, u30, u31, u32, u33, u34, u35, u36, u37, u38, u39, u40, u41, u42, u43, u44, u45, u46, u47, u48, u49, u50, u51, u52, u53, u54, u55, u56, u57, u58, u59, u60, u61, rfl, rfl, hb, hK, hD⟩
  dsimp only
  have HB := hid hb
  have HK := hid hK
  clear hb hK
  go_wp2
  simp only [Exit.jump]
  refine ⟨by simp, .inl ⟨_, _, rfl, run_takeDeferred HK.out, ?_⟩⟩
  exact ⟨_, results_tmp rfl _ _ _, rfl, below_put HB.out hD _⟩
 case first =>
  go_wp2_with fail
  rw [← hW1]
  refine HF.out.mono ?_
  rintro e w0 ⟨rfl, hw0⟩
  rw [hz1]
  have hB0 : Below w.heap.size w w0 := by rw [hw0, hW1]; exact ((Below.refl _ _).alloc (Nat.le_refl _) _).alloc (by simp) _
  have hs0 : w0.heap.size = w.heap.size + 2 := by rw [hw0]; simp [hz1]
  have q0 : w0.heap[w.heap.size]? = some (.cells (confA f g mv) 27) := by rw [hw0, hW1]; exact blk_alloc (heap_new _ _) _
  have q1 : w0.heap[w.heap.size + 1]? = some (.cells #[.pointer (some ⟨w.heap.size, 0, none⟩)] 120) := by rw [hw0, ← hz1]; exact heap_new _ _
  have Q0 := hid q0
  have Q1 := hid q1
  have HM := hid (hM.below hB0)
  have HL := hid (hL.below hB0)
  have HB0 := hid hB0
  have HSQ := hid (fields_stops 3 (by omega) (w.heap.size + 1) w.heap.size (fun k => k < w0.heap.size) w0 (fun _ h => h) (by omega) (blk1 q1).1)
  clear hw0 hB0 q0 q1 hW1
  go_wp2
  refine (wpIn_wide (n := 4)).1 ?_
  refine wpIn_rangeFunc_ownH rfl (by omega) (gf := 72) (lb := #[.pointer (some ⟨w.heap.size + 1, 0, none⟩)]) rfl trivial (enters_of Tryz.func72 (by kernel_rfl) rfl)
   HSQ.out (fun h k => h.trans k) (fun W l o o' hl _ _ _ => (On.refl _ _).putObj (by omega) _) (Below.refl _ _) (fun _ => rfl)
   (ChkI f w0) (ChkX f w0) (ChkI.own (Nat.le_refl _)) (fun c => ChkX.own c (Nat.le_refl _)) ⟨by simp, Below.refl _ _⟩
   (ChkA (fun x => { tmps := #[.agg (confA f g mv), .pointer (some ⟨w.heap.size, 0, none⟩), .int .i64 0, .int .i64 (x.val : Nat), .pointer (some ⟨w.heap.size, x.val, none⟩), undef, undef, .func (.func 72) #[] #[.pointer (some ⟨w.heap.size + 1, 0, none⟩)], .int .i64 (x.val : Nat), .pointer (some ⟨w.heap.size, x.val, none⟩), undef, undef, undef, undef, undef, undef, undef, undef, undef, undef, undef, undef, undef, undef, undef, undef, undef, undef, undef, undef, undef, undef, undef, undef, undef, undef, undef, undef, undef, undef, undef, undef, undef, undef, undef, undef, undef, undef, undef, undef, undef, undef, undef, undef, undef, undef, undef, undef, undef, undef, undef, undef], defers := [] }))
   (fun x a' => ChkA.own x a') ?assign ?body ?done ?stop
  case assign =>
   rintro l pre x W K hI hK
   have HK := hid hK
   clear hK
   simp only [itemF]
   gi_wp2
   exact HK.out _ _ ((KeepsOthers.refl _).from _) (On.refl _ _) hI rfl
  case body =>
   rintro l pre ⟨x, hx13⟩ a' W hl ⟨r', hr'⟩ ⟨hok, hb⟩ rfl hlt
   dsimp only
   have hxI : (x : Int) < 13 := by omega
   obtain ⟨lo, hlo⟩ : ∃ p, limL[x]? = some p := get_lt (by simpa [limL] using hx13)
   obtain ⟨lo, hi⟩ := lo
   have hla : limAt x = (lo, hi) := by unfold limAt; rw [List.getD_eq_getElem?_getD, hlo]; rfl
   have g0 := (HL.out.below hb).1 x (lo, hi) hlo 0 _ rfl
   have g1 := (HL.out.below hb).1 x (lo, hi) hlo 1 _ rfl
   simp only [Nat.zero_add, Nat.add_zero] at g0 g1
   have hc : W.cell? ⟨w.heap.size, x, none⟩ = some (.int .i64 (f x)) := by
    have e1 := blk_cell (blk_below Q0.out hb (by omega)) x
    rw [e1]
    unfold confA
    have h13 : x = 0 ∨ x = 1 ∨ x = 2 ∨ x = 3 ∨ x = 4 ∨ x = 5 ∨ x = 6 ∨ x = 7 ∨ x = 8 ∨ x = 9 ∨ x = 10 ∨ x = 11 ∨ x = 12 := by omega
    rcases h13 with rfl | rfl | rfl | rfl | rfl | rfl | rfl | rfl | rfl | rfl | rfl | rfl | rfl <;> rfl
   obtain ⟨bb, hbb⟩ : ∃ bb, withB (f x) lo hi = bb := ⟨_, rfl⟩
   have HC := hid (fun w' => cwithin_any (f x) lo hi bb hbb w')
   have HOK := hid hok
   have HBB := hid hb
   have HBW := hid hbb
   have HLA := hid hla
   clear hok hb hbb hlo hla hr'
   gi_wp2
   gi_region_with (refine ⟨trivial, (CallsIn.inRound l (callsIn_wide.2 (HC.out _))).mono ?_⟩; rintro e w3 ⟨rfl, hb3⟩)
   all_goals
    have hb4 := (below_drewN (Below.refl W.heap.size W) 1).trans hb3
    have HB4 := hid hb4
    clear hb3 hb4
    cases bb with
    | true =>
     gi_wp2
     refine ⟨(keeps_below HB4.out).from _, On.of_below HB4.out (fun k hk => by have := HBB.out.size; omega), ?_, HBB.out.trans (HB4.out.mono HBB.out.size)⟩
     intro i hi
     rcases List.mem_append.1 hi with hi | hi
     ·exact HOK.out i hi
     ·simp only [List.mem_singleton] at hi
      subst hi
      dsimp only
      rw [HLA.out]
      exact HBW.out
    | false =>
     gi_wp2
     refine wpIn_goto ?_
     try simp only [Exit.inBlock]
     refine ⟨(keeps_below HB4.out).from _, rfl, fieldsB_no hx13 (by rw [HLA.out]; exact HBW.out), HBB.out.trans (HB4.out.mono HBB.out.size)⟩
  case done =>
   rintro D xs W hD hxs ⟨hok, hb⟩ hK
   have HFB := hid (show fieldsB f = true by
    unfold fieldsB
    rw [List.all_eq_true]
    intro i hi
    have h13 := List.mem_range.1 hi
    have := hok ⟨i, h13⟩ (by rw [hxs]; exact List.mem_finRange _)
    exact this)
   have HBB := hid (HB0.out.trans (hb.mono (by omega)))
   have HK := hid hK
   have hDD : w.heap.size ≤ D := by omega
   have HMW := hid (HM.out.below hb)
   have HQ := hid (blk_below Q0.out hb (by omega))
   obtain ⟨ma, mc, rfl, hm1, _, _, hop⟩ := HMW.out.open
   have HOP := hid hop
   have c14 : W.cell? ⟨w.heap.size, 14, none⟩ = some (.slice ma M.length mc) := blk_cell HQ.out 14
   have hwl := blk_lt HQ.out
   clear hb hok hxs hK hop
   by_cases h4 : 4 < M.length
   ·have hmI : (4 : Int) < (M.length : Int) := by omega
    go_wp2
    go_step3
    try simp only [Exit.jump]
    refine ⟨by simp, D, _, _, _, _, _, _, _, _, _, _, _, _, _, _, _, _, _, _, _, _, _, _, _, _, _, _, _, _, _, _, _, _, _, _, _, _, _, _, _, _, _, _, _, _, _, _, _, _, _, _, _, _, _, _, _, _, _, _, _, _, _, _, rfl, ?_, HBB.out, HK.out, hDD⟩
    rw [← HR.out]; unfold checkB; simp; intro _ h; omega
   ·have hmI : ¬ (4 : Int) < (M.length : Int) := by omega
    obtain ⟨wa, rfl⟩ : ∃ wo : World, wo = W := ⟨_, rfl⟩
    go_wp2_with fail
    clear c14
    go_loopw [25] (fun i wr => ∃ k : Nat, i = .int .i64 k ∧ k ≤ M.length ∧ marksB (M.take k) = true ∧ Below wa.heap.size wa wr) (fun i _ => M.length - (intOf i).toNat)
    case atStart => exact ⟨0, rfl, Nat.zero_le _, by simp [marksB], Below.refl _ _⟩
    case round =>
     obtain ⟨k, rfl, hk, hmk, hB⟩ := hrel
     have HMK := hid hmk
     have HB := hid hB
     have hwlr := hB.size
     have HQR := hid (blk_below HQ.out hB (by omega))
     have HKR := hid ((hB.block D (blk_lt HK.out)).trans HK.out)
     have HBR := hid (HBB.out.trans (hB.mono HBB.out.size))
     have c14 : wr.cell? ⟨w.heap.size, 14, none⟩ = some (.slice ma M.length mc) := blk_cell HQR.out 14
     have hwl2 : w.heap.size < wr.heap.size := blk_lt HQR.out
     clear hmk hB
     by_cases hlt : k < M.length
     ·obtain ⟨b1, o1, rfl, hb1, hr1⟩ := HOP.out (by omega)
      obtain ⟨x, hx⟩ := get_lt hlt
      have g0 := rowN1 (hr1.below HB.out hb1) hx
      have hb1r : b1 < wr.heap.size := by omega
      have hkL : (k : Int) < (M.length : Int) := by omega
      obtain ⟨bb, hbb⟩ : ∃ bb, withB x 1 100 = bb := ⟨_, rfl⟩
      have HC := hid (cwithin_any x 1 100 bb hbb wr)
      have HX := hid hx
      have HBW := hid hbb
      have HR1 := hid hr1
      clear hx hbb hr1
      go_wp2_with fail
      refine HC.out.mono ?_
      rintro e w3 ⟨rfl, hb3⟩
      have HB3 := hid (HB.out.trans (hb3.mono (by omega)))
      have HQ3 := hid (blk_below HQR.out hb3 hwl2)
      have HK3 := hid ((hb3.block D (blk_lt HKR.out)).trans HKR.out)
      have HBR3 := hid (HBR.out.trans (hb3.mono HBR.out.size))
      clear c14 g0 hb3
      have c14 : w3.cell? ⟨w.heap.size, 14, none⟩ = some (.slice (some ⟨b1, o1, none⟩) M.length mc) := blk_cell HQ3.out 14
      have hwl3 : w.heap.size < w3.heap.size := blk_lt HQ3.out
      have hb13 : b1 < w3.heap.size := by have := HB3.out.size; omega
      cases bb with
      | false =>
       go_wp2
       go_step3
       try simp only [Exit.jump]
       refine ⟨by simp, D, _, _, _, _, _, _, _, _, _, _, _, _, _, _, _, _, _, _, _, _, _, _, _, _, _, _, _, _, _, _, _, _, _, _, _, _, _, _, _, _, _, _, _, _, _, _, _, _, _, _, _, _, _, _, _, _, _, _, _, _, _, _, rfl, ?_, HBR3.out, HK3.out, hDD⟩
       rw [← HR.out]; unfold checkB; rw [marksB_bad HX.out (.inl HBW.out)]; simp
      | true =>
       cases k with
       | zero =>
        go_wp2
        go_roundw
        case rel => exact ⟨1, rfl, by omega, marksB_next HX.out HMK.out HBW.out (by intro y h; omega), HB3.out⟩
        case measure => simp [intOf]; omega
       | succ j =>
        obtain ⟨y, hy⟩ := get_lt (l := M) (k := j) (by omega)
        have g1 := rowN1 (HR1.out.below HB3.out hb1) hy
        have HY := hid hy
        have hjL : (j : Int) < (M.length : Int) := by omega
        have hj0 : (0 : Int) < (j : Int) + 1 := by omega
        clear hy
        by_cases hyx : x ≤ y
        ·go_wp2
         go_step3
         try simp only [Exit.jump]
         refine ⟨by simp, D, _, _, _, _, _, _, _, _, _, _, _, _, _, _, _, _, _, _, _, _, _, _, _, _, _, _, _, _, _, _, _, _, _, _, _, _, _, _, _, _, _, _, _, _, _, _, _, _, _, _, _, _, _, _, _, _, _, _, _, _, _, _, rfl, ?_, HBR3.out, HK3.out, hDD⟩
         rw [← HR.out]; unfold checkB; rw [marksB_bad HX.out (.inr ⟨y, by omega, HY.out, hyx⟩)]; simp
        ·go_wp2
         go_roundw
         case rel => exact ⟨j + 1 + 1, by go_num, by omega, marksB_next HX.out HMK.out HBW.out (by intro z _ hz; have := HY.out; rw [Nat.add_sub_cancel] at hz; rw [hz] at this; cases this; omega), HB3.out⟩
         case measure => simp [intOf]; omega
     ·obtain rfl : k = M.length := by omega
      have hmm : marksB M = true := by have := HMK.out; rwa [List.take_length] at this
      have HMM := hid hmm
      have HCK := hid (show checkB f M = (f 0 == 0 || decide (floorC (f 0) (f 1) < f 2 + f 0)) by unfold checkB; rw [HFB.out, HMM.out]; simp; omega)
      have c0 : wr.cell? ⟨w.heap.size, 0, none⟩ = some (.int .i64 (f 0)) := blk_cell HQR.out 0
      have c2 : wr.cell? ⟨w.heap.size, 2, none⟩ = some (.int .i64 (f 2)) := blk_cell HQR.out 2
      have l0 := fieldsB_at HFB.out (i := 0) (by omega)
      have l1 := fieldsB_at HFB.out (i := 1) (by omega)
      have l2 := fieldsB_at HFB.out (i := 2) (by omega)
      simp [limAt, limL] at l0 l1 l2
      clear hmm c14
      have k0 := fun d os => cell_regrown c0 d os
      have k2 := fun d os => cell_regrown c2 d os
      have kl : ∀ d os, (loadVar 27 ⟨w.heap.size, 0, none⟩).run Tryz.prog (Sort.grow (redrawn wr d) os) = .ok (.agg (confA f g (.slice ma M.length mc))) (Sort.grow (redrawn wr d) os) := fun d os => load_conf (blk_below HQR.out (below_regrown wr d os) hwl2)
      have HFL := hid (fun d os => Calls.regrown_of (d := d) (os := os) (w := wr) (cfloor_any f g (.slice ma M.length mc) (by omega) (by omega) _))
      by_cases hf0 : f 0 = 0
      ·have hq : (f 0 == 0) = true := by simpa using hf0
       have HRT := hid (show r = true by rw [← HR.out, HCK.out, hq]; rfl)
       clear hf0
       go_wp2_with fail
       go_quiet (fail)
       go_wp2
       try simp only [Exit.jump]
       refine ⟨by simp, .inl ⟨_, _, rfl, run_takeDeferred HKR.out, ?_⟩⟩
       refine ⟨_, results_tmp rfl _ _ _, by rw [HRT.out]; rfl, below_put (below_drewN HBR.out _) hDD _⟩
      ·have hq : (f 0 == 0) = false := by simpa using hf0
       clear hf0
       have hwr := IntWalk.i64_in (f 2 + f 0) (by omega)
       by_cases hfl : floorC (f 0) (f 1) < f 2 + f 0
       ·have HRT := hid (show r = true by rw [← HR.out, HCK.out, hq]; simpa using hfl)
        go_wp2_with fail
        refine wp_region_quiet_below (by kernel_rfl) (by kernel_rfl) ?_
        repeat (quiet_step (exact HFL.out _ _))
        refine wpQuiet_nil ?_
        intro _ hw'
        obtain ⟨⟨dq, osq⟩, hw''⟩ := hw'
        subst hw''
        have hbq := below_regrown wr dq osq
        have HKQ := hid ((hbq.block D (blk_lt HKR.out)).trans HKR.out)
        have HBQ := hid (HBR.out.trans (hbq.mono HBR.out.size))
        clear hbq
        go_wp2
        try simp only [Exit.jump]
        refine ⟨by simp, .inl ⟨_, _, rfl, run_takeDeferred HKQ.out, ?_⟩⟩
        refine ⟨_, results_tmp rfl _ _ _, by rw [HRT.out]; rfl, below_put HBQ.out hDD _⟩
       ·have HRF := hid (show r = false by rw [← HR.out, HCK.out, hq]; simpa using hfl)
        go_wp2_with fail
        refine wp_region_quiet_below (by kernel_rfl) (by kernel_rfl) ?_
        repeat (quiet_step (exact HFL.out _ _))
        refine wpQuiet_nil ?_
        intro _ hw'
        obtain ⟨⟨dq, osq⟩, hw''⟩ := hw'
        subst hw''
        have hbq := below_regrown wr dq osq
        have HKQ := hid ((hbq.block D (blk_lt HKR.out)).trans HKR.out)
        have HBQ := hid (HBR.out.trans (hbq.mono HBR.out.size))
        clear hbq
        go_wp2
        refine wp_label ?_
        go_wp2
        try simp only [Exit.jump]
        refine ⟨by simp, .inl ⟨_, _, rfl, run_takeDeferred HKQ.out, ?_⟩⟩
        refine ⟨_, results_tmp rfl _ _ _, by rw [HRF.out]; rfl, below_put HBQ.out hDD _⟩
  case stop =>
   rintro D c pre W hD hpre ⟨rfl, hno, hb⟩ hK
   refine wpIn_wide.2 ?_
   go_step3
   go_wp2
   try simp only [Exit.jump]
   refine ⟨by simp, D, _, _, _, _, _, _, _, _, _, _, _, _, _, _, _, _, _, _, _, _, _, _, _, _, _, _, _, _, _, _, _, _, _, _, _, _, _, _, _, _, _, _, _, _, _, _, _, _, _, _, _, _, _, _, _, _, _, _, _, _, _, _, rfl, ?_, ?_, hK, ?_⟩
   ·rw [← HR.out]; unfold checkB; rw [hno]; rfl
   ·exact HB0.out.trans (hb.mono (by omega))
   ·omega
end Go.Proofs.YtgcajfglidflnaaGreatDoor
