/- Words that the proofs of this seat share: rows in memory that read as lists; lists cut at a place; what a call keeps. -/
import Derived.Test.YtgcajfglidflnaaDoorRows
import Derived.WalkKit
import Derived.WalkSpells
import Derived.WalkLawsBesides
import Derived.WalkSmall
import Derived.ScopeJumps
import Derived.WalkMore
import Derived.Defers
import Derived.Shelf.Abstract
import Derived.Recover
import Derived.BigQuiet
import Derived.Deep.QuietTactic
namespace Go.Proofs.YtgcajfglidflnaaDoor
open Go.RowKit Go.Shelf

theorem hid {p : Prop} (h : p) : Hid p := h

theorem ret_bool {a b : Bool} (h : a = b) : Ending.returned (.bool a) = .returned (.bool b) := by rw [h]

theorem take_snoc {α : Type} (l : List α) (k : Nat) (x : α) (h : l[k]? = some x) : l.take (k + 1) = l.take k ++ [x] := by
  obtain ⟨hk, rfl⟩ := List.getElem?_eq_some_iff.1 h
  exact List.take_succ_eq_append_getElem hk

theorem get_lt {α : Type} {l : List α} {k : Nat} (h : k < l.length) : ∃ x, l[k]? = some x := ⟨l[k], List.getElem?_eq_getElem h⟩
theorem lt_get {α : Type} {l : List α} {k : Nat} {x : α} (h : l[k]? = some x) : k < l.length := (List.getElem?_eq_some_iff.1 h).1
theorem mem_get {α : Type} {l : List α} {k : Nat} {x : α} (h : l[k]? = some x) : x ∈ l := List.mem_of_getElem? h

/-- The cells from an address on read as a list, k cells to an element. -/
def RowAt {α : Type} (k : Nat) (enc : α → List Value) (w : World) (b off : Nat) (l : List α) : Prop :=
  ∀ (i : Nat) (x : α), l[i]? = some x → ∀ (j : Nat) (v : Value), (enc x)[j]? = some v → w.cell? ⟨b, off + i * k + j, none⟩ = some v

/-- A slice reads as a list. -/
def RowOf {α : Type} (k : Nat) (enc : α → List Value) (w : World) (v : Value) (l : List α) : Prop :=
  (∃ a c, v = .slice a 0 c ∧ l = [] ∧ (a = none → c = 0) ∧ c ≤ maxLen) ∨
  (0 < l.length ∧ ∃ (b off c : Nat), v = .slice (some ⟨b, off, none⟩) l.length c ∧ l.length ≤ c ∧ c ≤ maxLen ∧ b < w.heap.size ∧ RowAt k enc w b off l)

section
variable {α : Type} {k : Nat} {enc : α → List Value} {w w' : World} {b off : Nat} {l : List α} {v : Value}

theorem RowAt.below {B : Nat} (h : RowAt k enc w b off l) (hB : Below B w w') (hb : b < B) : RowAt k enc w' b off l :=
  fun i x hi j v hj => (hB.cell (p := ⟨b, _, none⟩) hb).trans (h i x hi j v hj)

theorem RowOf.below (h : RowOf k enc w v l) (hB : Below w.heap.size w w') : RowOf k enc w' v l := by
  rcases h with h | ⟨h0, b, off, c, rfl, h1, h2, hb, hr⟩
  · exact .inl h
  · exact .inr ⟨h0, b, off, c, rfl, h1, h2, Nat.lt_of_lt_of_le hb hB.size, hr.below hB hb⟩

theorem RowOf.open (h : RowOf k enc w v l) : ∃ a c, v = .slice a l.length c ∧ l.length ≤ 9223372036854775807 ∧ c ≤ 9223372036854775807 ∧ l.length ≤ c ∧
    (0 < l.length → ∃ b off, a = some ⟨b, off, none⟩ ∧ b < w.heap.size ∧ RowAt k enc w b off l) := by
  rcases h with ⟨a, c, rfl, rfl, _, hc⟩ | ⟨h0, b, off, c, rfl, h1, h2, hb, hr⟩
  · unfold maxLen at hc; exact ⟨a, c, rfl, by simp, by omega, by simp, fun h => by simp at h⟩
  · unfold maxLen at h2; exact ⟨_, c, rfl, by omega, by omega, h1, fun _ => ⟨b, off, rfl, hb, hr⟩⟩

theorem RowOf.nil : RowOf k enc w (.slice none 0 0) ([] : List α) := .inl ⟨none, 0, rfl, rfl, fun _ => rfl, by decide⟩
end

theorem below_drewN {B : Nat} {a w : World} (h : Below B a w) (n : Nat) : Below B a (w.drewN n) := ⟨h.os, h.tape, h.output, h.size, h.block⟩
theorem lt_of_cell {w : World} {p : Addr} {v : Value} (h : w.cell? p = some v) : p.block < w.heap.size := by
  unfold World.cell? at h
  split at h
  · rename_i c e f heq; exact (Array.getElem?_eq_some_iff.1 heq).1
  · cases h

theorem cell_below {w w' : World} {p : Addr} {v : Value} (h : w.cell? p = some v) (hB : Below w.heap.size w w') : w'.cell? p = some v := (hB.cell (lt_of_cell h)).trans h

theorem grown_of_below {a w : World} (h : Below a.heap.size a w) (row : Option Nat) : a.grownBy w row := ⟨h.os, h.tape, h.output, h.size, fun i hi _ => h.block i hi⟩
theorem heap_new (w : World) (o : Obj) : (w.alloc o).heap[w.heap.size]? = some o := by show (w.heap.push o)[w.heap.size]? = _; simp
theorem heap_new2 (w : World) (a o : Obj) : ((w.alloc a).alloc o).heap[w.heap.size + 1]? = some o := by
  have := heap_new (w.alloc a) o
  rwa [World.size_alloc] at this

/-- All old cells and marks read as before. -/
theorem bcell {B : Nat} {W w1 : World} (hb : Below B W w1) : (∀ b o, b < B → w1.cell? ⟨b, o, none⟩ = W.cell? ⟨b, o, none⟩) ∧ (∀ b o, b < B → w1.frozen? ⟨b, o, none⟩ = W.frozen? ⟨b, o, none⟩) :=
  ⟨fun b o h => hb.cell (p := ⟨b, o, none⟩) h, fun b o h => hb.frozen (p := ⟨b, o, none⟩) h⟩

theorem blk_cell {W : World} {b : Nat} {c : Array Value} {t : TypeId} (h : W.heap[b]? = some (.cells c t)) (j : Nat) : W.cell? ⟨b, j, none⟩ = c[j]? := by
  unfold World.cell?; simp [h]
theorem blk_free {W : World} {b : Nat} {c : Array Value} {t : TypeId} (h : W.heap[b]? = some (.cells c t)) (j : Nat) : W.frozen? ⟨b, j, none⟩ = false := by
  unfold World.frozen?; simp [h]
theorem blk_lt {W : World} {b : Nat} {o : Obj} (h : W.heap[b]? = some o) : b < W.heap.size := (Array.getElem?_eq_some_iff.1 h).1
theorem blk_below {B b : Nat} {W W' : World} {o : Obj} (h : W.heap[b]? = some o) (hB : Below B W W') (hb : b < B) : W'.heap[b]? = some o := (hB.block b hb).trans h
theorem blk_alloc {b : Nat} {W : World} {o : Obj} (h : W.heap[b]? = some o) (o' : Obj) : (W.alloc o').heap[b]? = some o := (Below.heap_alloc W o' b (blk_lt h)).trans h
theorem blk_other {b : Nat} {W : World} {o : Obj} (h : W.heap[b]? = some o) {p : Addr} (hp : b ≠ p.block) (u : Value) : (W.setCell p u).heap[b]? = some o := (Below.heap_setCell W p u b hp).trans h
theorem blk_far {b g j : Nat} {W : World} {o : Obj} (h : W.heap[b]? = some o) (hne : b ≠ g) (u : Value) : (W.setCell ⟨g, j, none⟩ u).heap[b]? = some o := blk_other h hne u
theorem blk_set {b : Nat} {W : World} {c : Array Value} {t : TypeId} (h : W.heap[b]? = some (.cells c t)) (j : Nat) (u : Value) : (W.setCell ⟨b, j, none⟩ u).heap[b]? = some (.cells (c.setIfInBounds j u) t) := by
  simp [World.setCell, Array.getElem?_modify, h]
theorem blk_grown {b : Nat} {W W' : World} {row : Option Nat} {o : Obj} (h : W.heap[b]? = some o) (hg : W.grownBy W' row) (hr : some b ≠ row) : W'.heap[b]? = some o := (hg.block b (blk_lt h) hr).trans h

theorem blk1 {W : World} {b : Nat} {c0 : Value} {t : TypeId} (h : W.heap[b]? = some (.cells #[c0] t)) : W.cell? ⟨b, 0, none⟩ = some c0 ∧ (∀ j, W.frozen? ⟨b, j, none⟩ = false) ∧ b < W.heap.size :=
  ⟨blk_cell h 0, blk_free h, blk_lt h⟩
theorem blk2 {W : World} {b : Nat} {c0 c1 : Value} {t : TypeId} (h : W.heap[b]? = some (.cells #[c0, c1] t)) : W.cell? ⟨b, 0, none⟩ = some c0 ∧ W.cell? ⟨b, 1, none⟩ = some c1 ∧ (∀ j, W.frozen? ⟨b, j, none⟩ = false) ∧ b < W.heap.size :=
  ⟨blk_cell h 0, blk_cell h 1, blk_free h, blk_lt h⟩
theorem blk3 {W : World} {b : Nat} {c0 c1 c2 : Value} {t : TypeId} (h : W.heap[b]? = some (.cells #[c0, c1, c2] t)) : W.cell? ⟨b, 0, none⟩ = some c0 ∧ W.cell? ⟨b, 1, none⟩ = some c1 ∧ W.cell? ⟨b, 2, none⟩ = some c2 ∧ (∀ j, W.frozen? ⟨b, j, none⟩ = false) ∧ b < W.heap.size :=
  ⟨blk_cell h 0, blk_cell h 1, blk_cell h 2, blk_free h, blk_lt h⟩
theorem blk4 {W : World} {b : Nat} {c0 c1 c2 c3 : Value} {t : TypeId} (h : W.heap[b]? = some (.cells #[c0, c1, c2, c3] t)) : W.cell? ⟨b, 0, none⟩ = some c0 ∧ W.cell? ⟨b, 1, none⟩ = some c1 ∧ W.cell? ⟨b, 2, none⟩ = some c2 ∧ W.cell? ⟨b, 3, none⟩ = some c3 ∧ (∀ j, W.frozen? ⟨b, j, none⟩ = false) ∧ b < W.heap.size :=
  ⟨blk_cell h 0, blk_cell h 1, blk_cell h 2, blk_cell h 3, blk_free h, blk_lt h⟩

/-- The blocks of a set lie as they lay. -/
structure On (S : Nat → Prop) (w w' : World) : Prop where
  size : w.heap.size ≤ w'.heap.size
  block : ∀ k, S k → k < w.heap.size → w'.heap[k]? = w.heap[k]?
theorem On.refl (S : Nat → Prop) (w : World) : On S w w := ⟨Nat.le_refl _, fun _ _ _ => rfl⟩
theorem On.trans {S : Nat → Prop} {a b c : World} (h : On S a b) (k : On S b c) : On S a c :=
  ⟨Nat.le_trans h.size k.size, fun i hi hl => (k.block i hi (Nat.lt_of_lt_of_le hl h.size)).trans (h.block i hi hl)⟩
theorem On.mono {S T : Nat → Prop} {w w' : World} (h : On T w w') (hS : ∀ k, S k → T k) : On S w w' := ⟨h.size, fun k hk => h.block k (hS k hk)⟩
theorem On.of_below {S : Nat → Prop} {B : Nat} {w w' : World} (h : Below B w w') (hS : ∀ k, S k → k < B) : On S w w' := ⟨h.size, fun k hk _ => h.block k (hS k hk)⟩
theorem On.cell {S : Nat → Prop} {w w' : World} (h : On S w w') {b : Nat} (o : Nat) (hS : S b) (hb : b < w.heap.size) : w'.cell? ⟨b, o, none⟩ = w.cell? ⟨b, o, none⟩ := World.cell?_of_block (w := w) (h.block b hS hb)
theorem On.frozen {S : Nat → Prop} {w w' : World} (h : On S w w') {b : Nat} (o : Nat) (hS : S b) (hb : b < w.heap.size) : w'.frozen? ⟨b, o, none⟩ = w.frozen? ⟨b, o, none⟩ := World.frozen?_of_block (w := w) (h.block b hS hb)
theorem On.alloc {S : Nat → Prop} {a w : World} (h : On S a w) (o : Obj) : On S a (w.alloc o) :=
  ⟨Nat.le_trans h.size (by simp), fun k hk hl => (Below.heap_alloc w o k (Nat.lt_of_lt_of_le hl h.size)).trans (h.block k hk hl)⟩
theorem On.setCell {S : Nat → Prop} {a w : World} (h : On S a w) {p : Addr} (hp : ¬ S p.block) (u : Value) : On S a (w.setCell p u) :=
  ⟨by simpa [World.setCell] using h.size, fun k hk hl => (Below.heap_setCell w p u k (fun e => hp (e ▸ hk))).trans (h.block k hk hl)⟩
theorem On.trans_below {S : Nat → Prop} {a b c : World} (h : On S a b) (k : Below b.heap.size b c) : On S a c :=
  ⟨Nat.le_trans h.size k.size, fun i hi hl => (k.block i (Nat.lt_of_lt_of_le hl h.size)).trans (h.block i hi hl)⟩
theorem RowAt.on {α : Type} {k : Nat} {enc : α → List Value} {w w' : World} {b off : Nat} {l : List α} {S : Nat → Prop} (h : RowAt k enc w b off l) (hS : On S w w') (hb : S b) (hl : b < w.heap.size) : RowAt k enc w' b off l :=
  fun i x hi j v hj => (hS.cell _ hb hl).trans (h i x hi j v hj)
end Go.Proofs.YtgcajfglidflnaaDoor
