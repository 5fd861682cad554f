/- A range over a function whose rounds all go on, by an iterator that tells of the memory of what it hands out. -/
import Derived.Test.YtgcajfglidflnaaGreatDoorAow
import Derived.RangeFuncNested
import Derived.RangeFuncBound
import Derived.RangeFuncCalls
import Derived.RangeFuncLeaves
import Derived.RangeFuncBox
import Derived.Shelf.Abstract
import Derived.Shelf.RegionOpen
import Derived.OwnWalkIn
import Derived.TacticsInMore
import Derived.LoopNIn
import Derived.LoopIn
namespace Go.Proofs.YtgcajfglidflnaaGreatDoor
open Go.RowKit Go.Shelf

/-- The iterator hands out things of which G holds, till all have come; each round goes on, and keeps Kp. -/
def SeqAll {α : Type} (F : Fence) (n : Nat) (P : Program) (g : Nat) (lb : Array Value) (encs : α → Array Value) (Kp : World → World → Prop) (G : α → World → Prop) (S : List α → Prop) (N : Nat) (w : World) : Prop :=
 ∀ (l : Nat) (J : List α → World → Prop) (W : World), Below w.heap.size w W → AbidesFrom W.heap.size J →
  (∀ pre x W1, J pre W1 → G x W1 → pre.length < N → YieldAt F (n - 1) P l (encs x) W1 fun e W' => e = .returned (.bool true) ∧ J (pre ++ [x]) W' ∧ Kp W1 W') →
  J [] W → CallsIn F n P g (#[.func (.yield l) #[] #[]] ++ lb) W fun e W' => (∃ v, e = .returned v) ∧ ∃ xs, S xs ∧ J xs W'

/-- How a round's body ends, where it always goes on. -/
def onPost {α : Type} (B : Nat) (Kp : World → World → Prop) (I : List α → World → Prop) (xs : List α) (W : World) (e : Exit) (_ : Act) (W' : World) : Prop :=
 e = .normal ∧ KeepsFrom B W W' ∧ Kp W W' ∧ I xs W'

/-- The two blocks of a loop's book-keeping. -/
structure Book (w W : World) (r : Loop) : Prop where
 loop : W.heap[w.heap.size + 1]? = some (.loop r)
 mark : W.heap[w.heap.size]? = some (.deferred (some []))
theorem Book.lt {w W : World} {r : Loop} (h : Book w W r) : w.heap.size + 1 < W.heap.size := blk_lt h.loop
theorem Book.keeps {w W W' : World} {r : Loop} (h : Book w W r) (k : KeepsFrom w.heap.size W W') : Book w W' r := ⟨k.same _ _ (by omega) h.loop rfl, k.same _ _ (Nat.le_refl _) h.mark rfl⟩
theorem Book.put {w W : World} {r : Loop} (h : Book w W r) (r' : Loop) : Book w (W.putObj (w.heap.size + 1) (.loop r')) r' :=
 ⟨World.putObj_heap_same h.lt, (World.putObj_heap_other (by omega)).trans h.mark⟩
theorem Book.abides {w W W' : World} {r : Loop} {row : Option Nat} (h : Book w W r) (hg : W.grownBy W' row) (hr : ∀ x, row = some x → ∃ o : Obj, W.heap[x]? = some o ∧ o.isWalk = true) : Book w W' r :=
 ⟨(grownBy_keeps hg hr h.loop rfl).trans h.loop, (grownBy_keeps hg hr h.mark rfl).trans h.mark⟩

variable {F : Fence} {n : Nat} {P : Program}

theorem range_all {α : Type} {g : Operand} {ps : Array Tmp} {assign body : Code} {Q : Exit → Act → World → Prop} {a : Act} {w : World}
  (hro : F.round = none) (h1 : 1 ≤ n) {gf : Nat} {lb : Array Value} (hg : a.eval g = .func (.func gf) #[] lb) (hFg : F.fn gf) (eg : ∀ args w, (callFunc gf args).run P w = .ok (.enter gf args) w)
  {encs : α → Array Value} {Kp : World → World → Prop} {G : α → World → Prop} {S : List α → Prop} {N : Nat} {w0 : World} (hseq : SeqAll F (n - 1) P gf lb encs Kp G S N w0)
  (hKt : ∀ {A B C : World}, Kp A B → Kp B C → Kp A C) (hKb : ∀ (W : World) (l : Nat) (o o' : Obj), w.heap.size ≤ l → W.heap[l]? = some o → o.isCells = false → o.isWalk = false → Kp W (W.putObj l o'))
  (hb0 : Below w0.heap.size w0 w) (hps : ∀ x, (encs x).size = ps.size)
  (I : List α → World → Prop) (hI : OwnFrom w.heap.size I) (h0 : I [] w) (Ax : α → Act → World → Prop) (hAx : ∀ x a', OwnFrom w.heap.size (fun (_ : Unit) W => Ax x a' W))
  (hassign : ∀ (l : Nat) (pre : List α) (x : α) (W : World) (K : Act → World → Prop), I pre W → G x W → pre.length < N → (∀ a' W', KeepsFrom w.heap.size W W' → Kp W W' → I pre W' → Ax x a' W' → K a' W') →
   assign.wpIn (F.inRound l) (n - 1 - 1) P (Exit.then K (fun _ _ _ => False)) { tmps := (ps.zip (encs x)).foldl (fun t (p, v) => t.setIfInBounds p v) a.tmps, defers := [] } W)
  (hbody : ∀ (l : Nat) (pre : List α) (x : α) (a' : Act) (W : World), w.heap.size ≤ l → I pre W → Ax x a' W → pre.length < N → body.wpIn (F.inRound l) (n - 1 - 1) P (onPost w.heap.size Kp I (pre ++ [x]) W) a' W)
  (hdone : ∀ (D : Nat) (xs : List α) (W : World), w.heap.size ≤ D → S xs → I xs W → W.heap[D]? = some (.deferred (some [])) → Q .normal { a with defers := { target := .collected D, args := #[] } :: a.defers } W) :
  (Code.rangeFunc g ps assign body).wpIn F n P Q a w := by
 refine wpIn_rangeFunc fun fn hfn => ?_
 rw [hro]
 obtain ⟨R, hR⟩ : ∃ R : LoopState → Loop, R = fun st => { state := st, pending := none, fn := fn, tmps := a.tmps, params := ps, assign := assign, body := body, defers := w.heap.size } := ⟨_, rfl⟩
 obtain ⟨V, hV⟩ : ∃ V, V = (w.alloc (.deferred (some []))).alloc (.loop (R .ready)) := ⟨_, rfl⟩
 have hsz : V.heap.size = w.heap.size + 2 := by rw [hV]; simp
 have hbk : Book w V (R .ready) := ⟨by rw [hV]; exact heap_new2 _ _ _, by rw [hV]; exact blk_alloc (heap_new _ _) _⟩
 have hIV : I [] V := by rw [hV]; exact hI.alloc _ (hI.alloc _ h0)
 have hbV : Below w0.heap.size w0 V := by
  rw [hV]; exact (hb0.alloc hb0.size _).alloc (by have := hb0.size; simp; omega) _
 refine ⟨w.heap.size + 1, [{ target := .collected w.heap.size, args := #[] }], V, { target := .fn (.func gf) lb, args := #[.func (.yield (w.heap.size + 1)) #[] #[]] }, V, gf,
  #[.func (.yield (w.heap.size + 1)) #[] #[]] ++ lb, V, by rw [hV, hR]; exact run_enterLoop_outer _ _ _ _ _, ?_, ?_, by simp [invoke, go_sem, eg], fun _ => h1, ?_⟩
 ·simp only [resolve, hg]; simp [go_sem]
 ·intro f' hf'; simp [Target.leads] at hf'; subst hf'; exact hFg
 refine (hseq (w.heap.size + 1) (fun pre W => I pre W ∧ Book w W (R .ready)) V hbV ?_ ?_ ⟨hIV, hbk⟩).mono ?_
 ·rintro s A B row ⟨hs, hk⟩ hgr hr
  refine ⟨hI s A B row hs hgr fun x e => ?_, hk.abides hgr fun x e => (hr x e).2⟩
  obtain ⟨hx, o, ho, hw⟩ := hr x e
  exact ⟨by omega, o, ho, Obj.not_cells_of_walk hw⟩
 ·rintro pre x W ⟨hi, hk⟩ hG hlen
  have hy := run_yield (P := P) (args := encs x) hk.loop (by rw [hR]; exact hps x)
  rw [hR] at hy
  refine ⟨fn, _, assign, body, hy, roundIn_of_wpIn hfn (hassign _ pre x W _ hi hG hlen ?_)⟩
  intro a' W' hkf hkp hi' hax
  have hk' := hk.keeps hkf
  refine ⟨_, run_beginRound hk'.loop (by rw [hR]), ?_⟩
  have hkb := hk'.put { R .ready with state := .busy }
  have hlt := hk'.lt
  refine wpIn_mono (hbody _ pre x a' _ (by omega) (hI.putObj _ hi' (by omega) hk'.loop rfl) ((hAx x a').putObj (s := ()) _ hax (by omega) hk'.loop rfl) hlen) ?_
  rintro e a3 W3 ⟨rfl, hkf3, hkp3, hi3⟩
  have hk3 := hkb.keeps hkf3
  have hend := run_endRound (P := P) none hk3.loop
  refine ⟨_, _, hend, rfl, ⟨hI.putObj _ hi3 (by omega) hk3.loop rfl, ?_⟩, ?_⟩
  ·have := hk3.put { { R .ready with state := .busy } with state := .ready, pending := none }
   rw [hR] at this ⊢
   exact this
  ·exact hKt hkp (hKt (hKt (hKb _ _ _ _ (by omega) hk'.loop rfl rfl) hkp3) (hKb _ _ _ _ (by omega) hk3.loop rfl rfl))
 ·rintro e W2 ⟨⟨v, rfl⟩, xs, hS, hi, hk⟩
  have hend := run_endLoop (P := P) hk.loop (by rw [hR]; simp)
  rw [show (R .ready).pending = none by rw [hR]] at hend
  exact ⟨none, _, hend, hdone _ xs _ (Nat.le_refl _) hS (hI.putObj _ hi (by omega) hk.loop rfl) ((World.putObj_heap_other (by omega)).trans hk.mark)⟩
end Go.Proofs.YtgcajfglidflnaaGreatDoor
