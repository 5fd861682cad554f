import Derived.Test.YtgcajfglidflnaaGreatDoorRows
import Derived.WalkKit
import Derived.WalkSpells
import Derived.WalkLawsBesides
import Derived.WalkSmall
import Derived.ScopeJumps
import Derived.WalkMore
import Derived.Defers
import Derived.Shelf.Abstract
import Derived.Recover
import Derived.BigQuiet
import Derived.Deep.QuietTactic
import Derived.Laws.AppendOwnNone
import Derived.Laws.IdiomCopy
/- Words that the proofs of this seat share: rows in memory that read as lists; lists cut at a place; what a call keeps. -/
namespace Go.Proofs.YtgcajfglidflnaaGreatDoor
open Go.RowKit Go.Shelf

theorem hid {p : Prop} (h : p) : Hid p := h

theorem ret_bool {a b : Bool} (h : a = b) : Ending.returned (.bool a) = .returned (.bool b) := by rw [h]

theorem take_snoc {α : Type} (l : List α) (k : Nat) (x : α) (h : l[k]? = some x) : l.take (k + 1) = l.take k ++ [x] := by
 obtain ⟨hk, rfl⟩ := List.getElem?_eq_some_iff.1 h
 exact List.take_succ_eq_append_getElem hk

theorem get_lt {α : Type} {l : List α} {k : Nat} (h : k < l.length) : ∃ x, l[k]? = some x := ⟨l[k], List.getElem?_eq_getElem h⟩
theorem lt_get {α : Type} {l : List α} {k : Nat} {x : α} (h : l[k]? = some x) : k < l.length := (List.getElem?_eq_some_iff.1 h).1
theorem mem_get {α : Type} {l : List α} {k : Nat} {x : α} (h : l[k]? = some x) : x ∈ l := List.mem_of_getElem? h

/-- The cells from an address on read as a list, k cells to an element. -/
def RowAt {α : Type} (k : Nat) (enc : α → List Value) (w : World) (b off : Nat) (l : List α) : Prop :=
 ∀ (i : Nat) (x : α), l[i]? = some x → ∀ (j : Nat) (v : Value), (enc x)[j]? = some v → w.cell? ⟨b, off + i * k + j, none⟩ = some v

/-- A slice reads as a list. -/
def RowOf {α : Type} (k : Nat) (enc : α → List Value) (w : World) (v : Value) (l : List α) : Prop :=
 (∃ a c, v = .slice a 0 c ∧ l = [] ∧ (a = none → c = 0) ∧ c ≤ maxLen) ∨
 (0 < l.length ∧ ∃ (b off c : Nat), v = .slice (some ⟨b, off, none⟩) l.length c ∧ l.length ≤ c ∧ c ≤ maxLen ∧ b < w.heap.size ∧ RowAt k enc w b off l)

section
variable {α : Type} {k : Nat} {enc : α → List Value} {w w' : World} {b off : Nat} {l : List α} {v : Value}

theorem RowAt.below {B : Nat} (h : RowAt k enc w b off l) (hB : Below B w w') (hb : b < B) : RowAt k enc w' b off l :=
 fun i x hi j v hj => (hB.cell (p := ⟨b, _, none⟩) hb).trans (h i x hi j v hj)

theorem RowOf.below (h : RowOf k enc w v l) (hB : Below w.heap.size w w') : RowOf k enc w' v l := by
 rcases h with h | ⟨h0, b, off, c, rfl, h1, h2, hb, hr⟩
 ·exact .inl h
 ·exact .inr ⟨h0, b, off, c, rfl, h1, h2, Nat.lt_of_lt_of_le hb hB.size, hr.below hB hb⟩

theorem RowOf.open (h : RowOf k enc w v l) : ∃ a c, v = .slice a l.length c ∧ l.length ≤ 9223372036854775807 ∧ c ≤ 9223372036854775807 ∧ l.length ≤ c ∧
  (0 < l.length → ∃ b off, a = some ⟨b, off, none⟩ ∧ b < w.heap.size ∧ RowAt k enc w b off l) := by
 rcases h with ⟨a, c, rfl, rfl, _, hc⟩ | ⟨h0, b, off, c, rfl, h1, h2, hb, hr⟩
 ·unfold maxLen at hc; exact ⟨a, c, rfl, by simp, by omega, by simp, fun h => by simp at h⟩
 ·unfold maxLen at h2; exact ⟨_, c, rfl, by omega, by omega, h1, fun _ => ⟨b, off, rfl, hb, hr⟩⟩

theorem RowOf.nil : RowOf k enc w (.slice none 0 0) ([] : List α) := .inl ⟨none, 0, rfl, rfl, fun _ => rfl, by decide⟩
end

theorem below_drewN {B : Nat} {a w : World} (h : Below B a w) (n : Nat) : Below B a (w.drewN n) := ⟨h.os, h.tape, h.output, h.size, h.block⟩
theorem lt_of_cell {w : World} {p : Addr} {v : Value} (h : w.cell? p = some v) : p.block < w.heap.size := by
 unfold World.cell? at h
 split at h
 ·rename_i c e f heq; exact (Array.getElem?_eq_some_iff.1 heq).1
 ·cases h

theorem cell_below {w w' : World} {p : Addr} {v : Value} (h : w.cell? p = some v) (hB : Below w.heap.size w w') : w'.cell? p = some v := (hB.cell (lt_of_cell h)).trans h

theorem grown_of_below {a w : World} (h : Below a.heap.size a w) (row : Option Nat) : a.grownBy w row := ⟨h.os, h.tape, h.output, h.size, fun i hi _ => h.block i hi⟩
theorem heap_new (w : World) (o : Obj) : (w.alloc o).heap[w.heap.size]? = some o := by show (w.heap.push o)[w.heap.size]? = _; simp
theorem heap_new2 (w : World) (a o : Obj) : ((w.alloc a).alloc o).heap[w.heap.size + 1]? = some o := by
 have := heap_new (w.alloc a) o
 rwa [World.size_alloc] at this

theorem blk_cell {W : World} {b : Nat} {c : Array Value} {t : TypeId} (h : W.heap[b]? = some (.cells c t)) (j : Nat) : W.cell? ⟨b, j, none⟩ = c[j]? := by
 unfold World.cell?; simp [h]
theorem blk_free {W : World} {b : Nat} {c : Array Value} {t : TypeId} (h : W.heap[b]? = some (.cells c t)) (j : Nat) : W.frozen? ⟨b, j, none⟩ = false := by
 unfold World.frozen?; simp [h]
theorem blk_lt {W : World} {b : Nat} {o : Obj} (h : W.heap[b]? = some o) : b < W.heap.size := (Array.getElem?_eq_some_iff.1 h).1
theorem blk_below {B b : Nat} {W W' : World} {o : Obj} (h : W.heap[b]? = some o) (hB : Below B W W') (hb : b < B) : W'.heap[b]? = some o := (hB.block b hb).trans h
theorem blk_alloc {b : Nat} {W : World} {o : Obj} (h : W.heap[b]? = some o) (o' : Obj) : (W.alloc o').heap[b]? = some o := (Below.heap_alloc W o' b (blk_lt h)).trans h
theorem blk_other {b : Nat} {W : World} {o : Obj} (h : W.heap[b]? = some o) {p : Addr} (hp : b ≠ p.block) (u : Value) : (W.setCell p u).heap[b]? = some o := (Below.heap_setCell W p u b hp).trans h
theorem blk_far {b g j : Nat} {W : World} {o : Obj} (h : W.heap[b]? = some o) (hne : b ≠ g) (u : Value) : (W.setCell ⟨g, j, none⟩ u).heap[b]? = some o := blk_other h hne u
theorem blk_set {b : Nat} {W : World} {c : Array Value} {t : TypeId} (h : W.heap[b]? = some (.cells c t)) (j : Nat) (u : Value) : (W.setCell ⟨b, j, none⟩ u).heap[b]? = some (.cells (c.setIfInBounds j u) t) := by
 simp [World.setCell, Array.getElem?_modify, h]
theorem blk_grown {b : Nat} {W W' : World} {row : Option Nat} {o : Obj} (h : W.heap[b]? = some o) (hg : W.grownBy W' row) (hr : some b ≠ row) : W'.heap[b]? = some o := (hg.block b (blk_lt h) hr).trans h

theorem blk1 {W : World} {b : Nat} {c0 : Value} {t : TypeId} (h : W.heap[b]? = some (.cells #[c0] t)) : W.cell? ⟨b, 0, none⟩ = some c0 ∧ (∀ j, W.frozen? ⟨b, j, none⟩ = false) ∧ b < W.heap.size :=
 ⟨blk_cell h 0, blk_free h, blk_lt h⟩
theorem blk2 {W : World} {b : Nat} {c0 c1 : Value} {t : TypeId} (h : W.heap[b]? = some (.cells #[c0, c1] t)) : W.cell? ⟨b, 0, none⟩ = some c0 ∧ W.cell? ⟨b, 1, none⟩ = some c1 ∧ (∀ j, W.frozen? ⟨b, j, none⟩ = false) ∧ b < W.heap.size :=
 ⟨blk_cell h 0, blk_cell h 1, blk_free h, blk_lt h⟩
theorem blk4 {W : World} {b : Nat} {c0 c1 c2 c3 : Value} {t : TypeId} (h : W.heap[b]? = some (.cells #[c0, c1, c2, c3] t)) : W.cell? ⟨b, 0, none⟩ = some c0 ∧ W.cell? ⟨b, 1, none⟩ = some c1 ∧ W.cell? ⟨b, 2, none⟩ = some c2 ∧ W.cell? ⟨b, 3, none⟩ = some c3 ∧ (∀ j, W.frozen? ⟨b, j, none⟩ = false) ∧ b < W.heap.size :=
 ⟨blk_cell h 0, blk_cell h 1, blk_cell h 2, blk_cell h 3, blk_free h, blk_lt h⟩

/-- The blocks of a set lie as they lay. -/
structure On (S : Nat → Prop) (w w' : World) : Prop where
 size : w.heap.size ≤ w'.heap.size
 block : ∀ k, S k → k < w.heap.size → w'.heap[k]? = w.heap[k]?
theorem On.refl (S : Nat → Prop) (w : World) : On S w w := ⟨Nat.le_refl _, fun _ _ _ => rfl⟩
theorem On.trans {S : Nat → Prop} {a b c : World} (h : On S a b) (k : On S b c) : On S a c :=
 ⟨Nat.le_trans h.size k.size, fun i hi hl => (k.block i hi (Nat.lt_of_lt_of_le hl h.size)).trans (h.block i hi hl)⟩
theorem On.mono {S T : Nat → Prop} {w w' : World} (h : On T w w') (hS : ∀ k, S k → T k) : On S w w' := ⟨h.size, fun k hk => h.block k (hS k hk)⟩
theorem On.of_below {S : Nat → Prop} {B : Nat} {w w' : World} (h : Below B w w') (hS : ∀ k, S k → k < B) : On S w w' := ⟨h.size, fun k hk _ => h.block k (hS k hk)⟩
theorem On.cell {S : Nat → Prop} {w w' : World} (h : On S w w') {b : Nat} (o : Nat) (hS : S b) (hb : b < w.heap.size) : w'.cell? ⟨b, o, none⟩ = w.cell? ⟨b, o, none⟩ := World.cell?_of_block (w := w) (h.block b hS hb)
theorem On.frozen {S : Nat → Prop} {w w' : World} (h : On S w w') {b : Nat} (o : Nat) (hS : S b) (hb : b < w.heap.size) : w'.frozen? ⟨b, o, none⟩ = w.frozen? ⟨b, o, none⟩ := World.frozen?_of_block (w := w) (h.block b hS hb)
theorem On.alloc {S : Nat → Prop} {a w : World} (h : On S a w) (o : Obj) : On S a (w.alloc o) :=
 ⟨Nat.le_trans h.size (by simp), fun k hk hl => (Below.heap_alloc w o k (Nat.lt_of_lt_of_le hl h.size)).trans (h.block k hk hl)⟩
theorem On.setCell {S : Nat → Prop} {a w : World} (h : On S a w) {p : Addr} (hp : ¬ S p.block) (u : Value) : On S a (w.setCell p u) :=
 ⟨by simpa [World.setCell] using h.size, fun k hk hl => (Below.heap_setCell w p u k (fun e => hp (e ▸ hk))).trans (h.block k hk hl)⟩
theorem On.trans_below {S : Nat → Prop} {a b c : World} (h : On S a b) (k : Below b.heap.size b c) : On S a c :=
 ⟨Nat.le_trans h.size k.size, fun i hi hl => (k.block i (Nat.lt_of_lt_of_le hl h.size)).trans (h.block i hi hl)⟩
theorem RowAt.on {α : Type} {k : Nat} {enc : α → List Value} {w w' : World} {b off : Nat} {l : List α} {S : Nat → Prop} (h : RowAt k enc w b off l) (hS : On S w w') (hb : S b) (hl : b < w.heap.size) : RowAt k enc w' b off l :=
 fun i x hi j v hj => (hS.cell _ hb hl).trans (h i x hi j v hj)
end Go.Proofs.YtgcajfglidflnaaGreatDoor

/- A part of the proofs about open calls: contracts of functions, or plain facts that they want. -/
namespace Go.Proofs.YtgcajfglidflnaaGreatDoor
open Go.RowKit Go.Shelf

/-- A slice that the call itself has made, and that reads as a list. -/
def Owns {α : Type} (k : Nat) (e : TypeId) (enc : α → List Value) (w : World) (base : Nat) (v : Value) (l : List α) : Prop :=
 w.ownsRow base e k v l.length (l.flatMap enc)

theorem flat_len {α : Type} {k : Nat} {enc : α → List Value} (hk : ∀ x, (enc x).length = k) (l : List α) : (l.flatMap enc).length = l.length * k := by
 induction l with
 | nil => simp
 | cons x l ih => simp [ih, hk x, Nat.add_mul]; omega

theorem flat_get {α : Type} {k : Nat} {enc : α → List Value} (hk : ∀ x, (enc x).length = k) : ∀ (l : List α) (i : Nat) (x : α), l[i]? = some x → ∀ (j : Nat), j < k → (l.flatMap enc)[i * k + j]? = (enc x)[j]?
 | [], i, x, h, _, _ => by simp at h
 | y :: l, 0, x, h, j, hj => by
  simp at h; subst h
  rw [List.flatMap_cons, List.getElem?_append_left (by rw [Nat.zero_mul, hk]; omega)]; simp
 | y :: l, i + 1, x, h, j, hj => by
  simp at h
  rw [List.flatMap_cons, List.getElem?_append_right (by rw [hk, Nat.add_mul]; omega), hk]
  rw [show (i + 1) * k + j - k = i * k + j by rw [Nat.add_mul]; omega]
  exact flat_get hk l i x h j hj

section
variable {α : Type} {k : Nat} {e : TypeId} {enc : α → List Value} {w w' : World} {base : Nat} {l : List α} {v : Value}

theorem Owns.row (h : Owns k e enc w base v l) (hk : ∀ x, (enc x).length = k) (_hk0 : 0 < k) : RowOf k enc w v l := by
 obtain ⟨hl, h | ⟨g, cap, cur, rfl, hb, hg, hn, hm, hs, ht⟩⟩ := h
 ·obtain ⟨rfl, hn⟩ := h
  have : l = [] := List.eq_nil_of_length_eq_zero hn
  subst this
  exact RowOf.nil
 ·by_cases h0 : 0 < l.length
  ·refine .inr ⟨h0, g, 0, cap, rfl, hn, hm, blk_lt hg, ?_⟩
   intro i x hi j u hj
   have hjk : j < k := by rw [← hk x]; exact (List.getElem?_eq_some_iff.1 hj).1
   have hf := flat_get hk l i x hi j hjk
   rw [hj, ← ht] at hf
   rw [Nat.zero_add, blk_cell hg]
   rw [List.getElem?_take] at hf
   split at hf
   ·simpa using hf
   ·cases hf
  ·have : l = [] := List.eq_nil_of_length_eq_zero (by omega)
   subst this
   exact .inl ⟨_, cap, rfl, rfl, fun h => by (cases h), hm⟩

theorem Owns.below (h : Owns k e enc w base v l) (hB : Below w.heap.size w w') : Owns k e enc w' base v l :=
 World.ownsRow.kept h (grown_of_below hB none) (by cases hv : v.ownBlock <;> simp)
theorem Owns.nil (w : World) (base : Nat) : Owns k e enc w base (.slice none 0 0) ([] : List α) := World.ownsRow_nil w base e k
theorem Owns.mono {base' : Nat} (h : Owns k e enc w base v l) (hb : base' ≤ base) : Owns k e enc w base' v l := by
 obtain ⟨h1, h2 | ⟨g, cap, cur, h2, h3, h4⟩⟩ := h
 ·exact ⟨h1, .inl h2⟩
 ·exact ⟨h1, .inr ⟨g, cap, cur, h2, Nat.le_trans hb h3, h4⟩⟩
theorem Owns.other (h : Owns k e enc w base v l) {p : Addr} (hp : p.block < base) (u : Value) : Owns k e enc (w.setCell p u) base v l :=
 ownsRow_setCell_below h hp u
theorem Owns.block (h : Owns k e enc w base v l) : ∀ g, v.ownBlock = some g → base ≤ g ∧ g < w.heap.size := World.ownsRow.lt h
theorem Owns.shape (h : Owns k e enc w base v l) : ∃ a n c, v = .slice a n c := by
 obtain ⟨_, ⟨rfl, _⟩ | ⟨g, cap, cur, rfl, _⟩⟩ := h
 ·exact ⟨_, _, _, rfl⟩
 ·exact ⟨_, _, _, rfl⟩
/-- What a slice of the call's own looks like. -/
theorem Owns.form (h : Owns k e enc w base v l) : (v = .slice none 0 0 ∧ l = []) ∨ ∃ g c, v = .slice (some ⟨g, 0, none⟩) l.length c ∧ base ≤ g ∧ g < w.heap.size := by
 obtain ⟨_, ⟨rfl, hn⟩ | ⟨g, cap, cur, rfl, h3, h4, _⟩⟩ := h
 ·exact .inl ⟨rfl, List.eq_nil_of_length_eq_zero hn⟩
 ·exact .inr ⟨g, cap, rfl, h3, blk_lt h4⟩
end

section
variable {α : Type} {k : Nat} {enc : α → List Value} {w : World} {P : Program}

/-- append(s, x..) where s is of the call's own, and x reads as a list. -/
theorem append_rows {ops : Array Oper} {rest : List Oper} {o : Oper} {a : Act} {Q : Exit → Act → World → Prop} (hgd : o.guard = none) (s x : Operand) (t : TypeId)
  (ho : o.op = .call { callee := .builtin .append, args := #[s, x], argTypes := #[t, t] })
  (base : Nat) (e : TypeId) (i : TypeInfo) (z : Value) (bytes : Nat) (ht : P.underlying t = some (.slice e)) (hi : P.info? e = some i) (hz : i.zero = some z)
  (hsize : i.size = k) (hby : i.bytes = bytes) (hzs : z.cells.size = k) (hsz : 0 < k) (hk : ∀ x, (enc x).length = k) (hone : ∀ x, ∀ u ∈ enc x, u.oneCell' = true)
  (v : Value) (l : List α) (hs : a.eval s = v) (hown : Owns k e enc w base v l)
  (sv : Value) (m : List α) (hx : a.eval x = sv) (hr : RowOf k enc w sv m)
  (h63 : l.length + m.length ≤ maxLen) (hbytes : (l.length + m.length) * bytes ≤ 140737488355328) (hbase : base ≤ w.heap.size)
  (h : ∀ v' w', Owns k e enc w' base v' (l ++ m) → w.grownBy w' v.ownBlock → wpList P ops Q rest (a.put o.dst v') w') : wpList P ops Q (o :: rest) a w := by
 have fin : ∀ v' w', w'.ownsRow base e k v' (l.length + m.length) (l.flatMap enc ++ m.flatMap enc) → w.grownBy w' v.ownBlock → wpList P ops Q rest (a.put o.dst v') w' := by
  intro v' w' h1 h2
  refine h v' w' ?_ h2
  unfold Owns
  rw [List.length_append, List.flatMap_append]
  exact h1
 rcases hr with ⟨ad, c, rfl, rfl, hac, hcm⟩ | ⟨h0, b, off, c, rfl, h1, h2, hb, hrow⟩
 ·cases ad with
  | none =>
   obtain rfl := hac rfl
   exact wpList_append_own_none hgd s x t ho base e i k ht hi v _ _ hs hown hx (h v w (by simpa using hown) ⟨rfl, rfl, rfl, Nat.le_refl _, fun _ _ _ => rfl⟩)
  | some ad =>
   exact wpList_append_own w hgd s x t ho base e i z k bytes ht hi hz hsize hby hzs hsz v l.length _ hs hown ad 0 c [] hx (by simp) (by simp) (by simp) h63 hbytes hbase fun v' w' h1 h2 _ => fin v' w' h1 h2
 ·refine wpList_append_own w hgd s x t ho base e i z k bytes ht hi hz hsize hby hzs hsz v l.length _ hs hown ⟨b, off, none⟩ m.length c (m.flatMap enc) hx (flat_len hk m) ?_ ?_ h63 hbytes hbase fun v' w' h1 h2 _ => fin v' w' h1 h2
  ·intro j u hj
   have hlt : j < m.length * k := by rw [← flat_len hk m]; exact (List.getElem?_eq_some_iff.1 hj).1
   have hq : j / k < m.length := Nat.div_lt_of_lt_mul (by rw [Nat.mul_comm]; exact hlt)
   obtain ⟨y, hy⟩ := get_lt hq
   have hf := flat_get hk m (j / k) y hy (j % k) (Nat.mod_lt _ hsz)
   have hjj : j / k * k + j % k = j := by rw [Nat.mul_comm]; exact Nat.div_add_mod j k
   rw [hjj, hj] at hf
   have := hrow (j / k) y hy (j % k) u hf.symm
   rw [show ((⟨b, off, none⟩ : Addr).add j) = ⟨b, off + j, none⟩ by unfold Addr.add; split <;> simp_all]
   rw [← this]
   congr 2
   omega
  ·intro u hu
   obtain ⟨y, _, hy⟩ := List.mem_flatMap.1 hu
   exact hone y u hy
end
end Go.Proofs.YtgcajfglidflnaaGreatDoor

/- append of one struct to a slice of the call's own. -/
namespace Go.Proofs.YtgcajfglidflnaaGreatDoor
open Go.RowKit Go.Shelf

theorem below_own {B : Nat} {w w' : World} {v : Value} (hg : w.grownBy w' v.ownBlock) (hB : B ≤ w.heap.size) (hr : ∀ g, v.ownBlock = some g → B ≤ g) : Below B w w' :=
 (Below.refl B w).grown hg hB hr

section
variable {α : Type} {k : Nat} {enc : α → List Value} {w : World} {P : Program}

/-- append(s, y) where s is of the call's own, and y lies, alone, at an address. -/
theorem append_one {ops : Array Oper} {rest : List Oper} {o : Oper} {a : Act} {Q : Exit → Act → World → Prop} (hgd : o.guard = none) (s x : Operand) (t : TypeId)
  (ho : o.op = .call { callee := .builtin .append, args := #[s, x], argTypes := #[t, t] })
  (base : Nat) (e : TypeId) (i : TypeInfo) (z : Value) (bytes : Nat) (ht : P.underlying t = some (.slice e)) (hi : P.info? e = some i) (hz : i.zero = some z)
  (hsize : i.size = k) (hby : i.bytes = bytes) (hzs : z.cells.size = k) (hsz : 0 < k) (hk : ∀ x, (enc x).length = k) (hone : ∀ x, ∀ u ∈ enc x, u.oneCell' = true)
  (v : Value) (l : List α) (hs : a.eval s = v) (hown : Owns k e enc w base v l)
  (ad : Addr) (y : α) (hx : a.eval x = .slice (some ad) 1 1) (hnew : ∀ (j : Nat) u, (enc y)[j]? = some u → w.cell? (ad.add j) = some u)
  (h63 : l.length + 1 ≤ maxLen) (hbytes : (l.length + 1) * bytes ≤ 140737488355328) (hbase : base ≤ w.heap.size)
  (h : ∀ v' w', Owns k e enc w' base v' (l ++ [y]) → Below base w w' → w.grownBy w' v.ownBlock → wpList P ops Q rest (a.put o.dst v') w') : wpList P ops Q (o :: rest) a w := by
 refine wpList_append_own w hgd s x t ho base e i z k bytes ht hi hz hsize hby hzs hsz v l.length _ hs hown ad 1 1 (enc y) hx (by rw [hk y]; simp) hnew (hone y) h63 hbytes hbase fun v' w' h1 h2 _ => ?_
 refine h v' w' ?_ (below_own h2 hbase (fun g e => (Owns.block hown g e).1)) h2
 unfold Owns
 rw [List.length_append, List.flatMap_append]
 simpa using h1
end
end Go.Proofs.YtgcajfglidflnaaGreatDoor

/- Slices of the call's own, written in place: a part overwritten, cut shorter, cleared behind. -/
namespace Go.Proofs.YtgcajfglidflnaaGreatDoor
open Go.RowKit Go.Shelf

theorem setCells_other (b : Nat) : ∀ (vs : List Value) (o : Nat) (w : World) (i : Nat), i ≠ b → (w.setCells b o vs).heap[i]? = w.heap[i]?
 | [], _, _, _, _ => rfl
 | v :: r, o, w, i, h => by
  rw [World.setCells, setCells_other b r (o + 1) _ i h]
  exact Below.heap_setCell w ⟨b, o, none⟩ v i h
theorem setCells_same (b : Nat) : ∀ (vs : List Value) (o : Nat) (w : World), (w.setCells b o vs).os = w.os ∧ (w.setCells b o vs).tape = w.tape ∧ (w.setCells b o vs).output = w.output ∧ (w.setCells b o vs).heap.size = w.heap.size
 | [], _, _ => ⟨rfl, rfl, rfl, rfl⟩
 | v :: r, o, w => by
  obtain ⟨h1, h2, h3, h4⟩ := setCells_same b r (o + 1) (w.setCell ⟨b, o, none⟩ v)
  rw [World.setCells]
  exact ⟨h1, h2, h3, by rw [h4]; simp [World.setCell]⟩
theorem setCells_grown (b o : Nat) (vs : List Value) (w : World) : w.grownBy (w.setCells b o vs) (some b) := by
 obtain ⟨h1, h2, h3, h4⟩ := setCells_same b vs o w
 exact ⟨h1, h2, h3, by rw [h4]; exact Nat.le_refl _, fun i _ hi => setCells_other b vs o w i (fun e => hi (by rw [e]))⟩
theorem setCells_blk (b : Nat) {t : TypeId} : ∀ (vs : List Value) (o : Nat) (w : World) (cur : Array Value), w.heap[b]? = some (.cells cur t) →
  ∃ cur', (w.setCells b o vs).heap[b]? = some (.cells cur' t) ∧ cur'.size = cur.size ∧ (∀ j, j < o → cur'[j]? = cur[j]?) ∧ (∀ j, o + vs.length ≤ j → cur'[j]? = cur[j]?) ∧ (o + vs.length ≤ cur.size → ∀ j, j < vs.length → cur'[o + j]? = vs[j]?)
 | [], o, w, cur, h => ⟨cur, h, rfl, fun _ _ => rfl, fun _ _ => rfl, fun _ j hj => by simp at hj⟩
 | v :: r, o, w, cur, h => by
  obtain ⟨cur', h1, h2, h3, h4, h5⟩ := setCells_blk b r (o + 1) (w.setCell ⟨b, o, none⟩ v) (cur.setIfInBounds o v) (blk_set h o v)
  refine ⟨cur', h1, by rw [h2]; simp, fun j hj => ?_, fun j hj => ?_, fun hsz j hj => ?_⟩
  ·rw [h3 j (by omega), Array.getElem?_setIfInBounds, if_neg (by omega)]
  ·simp at hj
   rw [h4 j (by omega), Array.getElem?_setIfInBounds, if_neg (by omega)]
  ·simp at hsz
   cases j with
   | zero =>
    rw [Nat.add_zero, h3 o (by omega), Array.getElem?_setIfInBounds, if_pos rfl, if_pos (by omega)]
    simp
   | succ j =>
    have := h5 (by simp; omega) j (by simpa using hj)
    rw [show o + (j + 1) = o + 1 + j by omega, this]
    simp

theorem flat_split {α : Type} {enc : α → List Value} (l : List α) (i : Nat) : l.flatMap enc = (l.take i).flatMap enc ++ (l.drop i).flatMap enc := by
 rw [← List.flatMap_append, List.take_append_drop]

section
variable {α : Type} {k : Nat} {e : TypeId} {enc : α → List Value} {w w' : World} {base g n c : Nat} {l : List α}

theorem Owns.blk (h : Owns k e enc w base (.slice (some ⟨g, 0, none⟩) n c) l) : ∃ cur, w.heap[g]? = some (.cells cur e) ∧ n = l.length ∧ n ≤ c ∧ c ≤ maxLen ∧ base ≤ g ∧ cur.size = c * k ∧ cur.toList.take (n * k) = l.flatMap enc := by
 obtain ⟨_, ⟨h1, _⟩ | ⟨g', cap, cur, h1, h2, h3, h4, h5, h6, h7⟩⟩ := h
 ·cases h1
 ·cases h1
  exact ⟨cur, h3, rfl, h4, h5, h2, h6, h7⟩
theorem Owns.mk (hk : ∀ x, (enc x).length = k) {cur : Array Value} (h1 : w.heap[g]? = some (.cells cur e)) (h2 : n = l.length) (h3 : n ≤ c) (h4 : c ≤ maxLen) (h5 : base ≤ g) (h6 : cur.size = c * k) (h7 : cur.toList.take (n * k) = l.flatMap enc) : Owns k e enc w base (.slice (some ⟨g, 0, none⟩) n c) l := by
 subst h2
 exact ⟨flat_len hk l, .inr ⟨g, c, cur, rfl, h5, h1, h3, h4, h6, h7⟩⟩

/-- A part of it is overwritten. -/
theorem Owns.write (hk : ∀ x, (enc x).length = k) (h : Owns k e enc w base (.slice (some ⟨g, 0, none⟩) n c) l) (i : Nat) (m : List α) (hi : i + m.length ≤ l.length) :
  Owns k e enc (w.setCells g (i * k) (m.flatMap enc)) base (.slice (some ⟨g, 0, none⟩) n c) (l.take i ++ m ++ l.drop (i + m.length)) := by
 obtain ⟨cur, h1, h2, h3, h4, h5, h6, h7⟩ := h.blk
 obtain ⟨cur', q1, q2, q3, q4, q5⟩ := setCells_blk g (m.flatMap enc) (i * k) w cur h1
 have hml := flat_len hk m
 have hnk : n * k ≤ c * k := Nat.mul_le_mul_right k h3
 have hik : i * k + m.length * k ≤ n * k := by rw [← Nat.add_mul]; exact Nat.mul_le_mul_right k (by omega)
 refine Owns.mk hk q1 ?_ h3 h4 h5 (by rw [q2, h6]) ?_
 ·simp; omega
 ·have hA : ((l.take i).flatMap enc).length = i * k := by rw [flat_len hk, List.length_take, Nat.min_eq_left (by omega)]
  have hcur : ∀ q, q < n * k → cur[q]? = (l.flatMap enc)[q]? := by
   intro q hq
   rw [← h7, List.getElem?_take, if_pos hq]; simp
  apply List.ext_getElem?
  intro q
  rw [List.flatMap_append, List.flatMap_append]
  by_cases hq : q < n * k
  ·rw [List.getElem?_take, if_pos hq]
   have e1 : cur'.toList[q]? = cur'[q]? := by simp
   rw [e1]
   by_cases c1 : q < i * k
   ·rw [q3 q c1, hcur q hq, List.append_assoc, List.getElem?_append_left (by rw [hA]; exact c1), flat_split l i, List.getElem?_append_left (by rw [hA]; exact c1)]
   ·by_cases c2 : q < i * k + m.length * k
    ·have := q5 (by rw [hml]; omega) (q - i * k) (by rw [hml]; omega)
     rw [show i * k + (q - i * k) = q by omega] at this
     rw [this, List.append_assoc, List.getElem?_append_right (by rw [hA]; omega), hA, List.getElem?_append_left (by rw [hml]; omega)]
    ·rw [q4 q (by rw [hml]; omega), hcur q hq, List.append_assoc, List.getElem?_append_right (by rw [hA]; omega), hA, List.getElem?_append_right (by rw [hml]; omega), hml]
     rw [flat_split l (i + m.length), List.getElem?_append_right (by rw [flat_len hk, List.length_take, Nat.min_eq_left (by omega), Nat.add_mul]; omega)]
     rw [flat_len hk, List.length_take, Nat.min_eq_left (by omega), Nat.add_mul]
     congr 1
     omega
  ·rw [List.getElem?_eq_none (by simp; omega), List.getElem?_eq_none]
   simp only [List.length_append, hA, hml, flat_len hk, List.length_drop]
   rw [Nat.sub_mul, Nat.add_mul, ← h2]
   omega
/-- It is cut shorter. -/
theorem Owns.cut (hk : ∀ x, (enc x).length = k) (h : Owns k e enc w base (.slice (some ⟨g, 0, none⟩) n c) l) (n' : Nat) (hn : n' ≤ n) : Owns k e enc w base (.slice (some ⟨g, 0, none⟩) n' c) (l.take n') := by
 obtain ⟨cur, h1, h2, h3, h4, h5, h6, h7⟩ := h.blk
 refine Owns.mk hk h1 ?_ (by omega) h4 h5 h6 ?_
 ·simp; omega
 ·have : cur.toList.take (n' * k) = (cur.toList.take (n * k)).take (n' * k) := by rw [List.take_take, Nat.min_eq_left (Nat.mul_le_mul_right k hn)]
  rw [this, h7, flat_split l n', List.take_append_of_le_length (by rw [flat_len hk, List.length_take, Nat.min_eq_left (by omega)]; exact Nat.le_refl _), List.take_of_length_le (by rw [flat_len hk, List.length_take, Nat.min_eq_left (by omega)]; exact Nat.le_refl _)]
/-- What lies behind it is written. -/
theorem Owns.beyond (hk : ∀ x, (enc x).length = k) (h : Owns k e enc w base (.slice (some ⟨g, 0, none⟩) n c) l) (o : Nat) (vs : List Value) (ho : n * k ≤ o) : Owns k e enc (w.setCells g o vs) base (.slice (some ⟨g, 0, none⟩) n c) l := by
 obtain ⟨cur, h1, h2, h3, h4, h5, h6, h7⟩ := h.blk
 obtain ⟨cur', q1, q2, q3, q4, q5⟩ := setCells_blk g vs o w cur h1
 refine Owns.mk hk q1 h2 h3 h4 h5 (by rw [q2, h6]) ?_
 rw [← h7]
 apply List.ext_getElem?
 intro q
 rw [List.getElem?_take, List.getElem?_take]
 split
 ·have := q3 q (by omega)
  simpa using this
 ·rfl
/-- Its cells: they are there, and may be written. -/
theorem Owns.cells (h : Owns k e enc w base (.slice (some ⟨g, 0, none⟩) n c) l) : (∀ j, j < c * k → (w.cell? ⟨g, j, none⟩).isSome = true) ∧ (∀ j, w.frozen? ⟨g, j, none⟩ = false) ∧ n = l.length ∧ n ≤ c ∧ c ≤ maxLen := by
 obtain ⟨cur, h1, h2, h3, h4, h5, h6, h7⟩ := h.blk
 refine ⟨fun j hj => ?_, blk_free h1, h2, h3, h4⟩
 rw [blk_cell h1, Array.getElem?_eq_getElem (by omega)]; rfl
end

variable {P : Program}
/-- 'clear(s)' on n elements of k cells each: whatever they hold behind it, nothing else has turned. -/
theorem run_clear_rows (w : World) (t e ty : TypeId) (z : Value) (k : Nat) (ht : P.underlying t = some (.slice e)) (hv : ∀ w, (zeroValue e).run P w = .ok z w) (hz : z.cells.size = k) (h1 : ∀ u ∈ z.cells.toList, u.oneCell' = true) (b o n c : Nat)
  (hc : ∀ j, j < n * k → (w.cell? ⟨b, o + j, none⟩).isSome = true) (hf : ∀ j, j < n * k → w.frozen? ⟨b, o + j, none⟩ = false) :
  ∃ vs : List Value, (Builtin.clear_ #[t] ty #[.slice (some ⟨b, o, none⟩) n c]).run P w = .ok (.tuple #[]) (w.setCells b o vs) ∧ vs.length ≤ n * k := by
 cases n with
 | zero => exact ⟨[], by simp [Builtin.clear_, run_underlying ht, World.setCells], by simp⟩
 | succ m =>
  have hl : (Builtin.zeroCells z.cells (m + 1)).toList.length = (m + 1) * k := by simp [Builtin.zeroCells, hz]
  refine ⟨(Builtin.zeroCells z.cells (m + 1)).toList, ?_, by rw [hl]; exact Nat.le_refl _⟩
  have hst := run_storeCells_cells (P := P) b o (Builtin.zeroCells z.cells (m + 1)).toList 0 w (by rw [hl]; simpa using hc) (by rw [hl]; simpa using hf) (by
   intro v hv'
   unfold Builtin.zeroCells at hv'
   rw [Array.mem_toList_iff] at hv'
   obtain ⟨i, hi, rfl⟩ := Array.mem_map.1 hv'
   have hi' : i < (m + 1) * z.cells.size := by simpa using hi
   have hz0 : 0 < z.cells.size := by
    rcases Nat.eq_zero_or_pos z.cells.size with h | h
    ·rw [h] at hi'; omega
    ·exact h
   have hlt := Nat.mod_lt i hz0
   rw [getElem!_pos z.cells (i % z.cells.size) hlt]
   exact h1 _ (Array.mem_toList_iff.2 (Array.getElem_mem hlt)))
  simp only [Nat.add_zero] at hst
  simp [Builtin.clear_, run_underlying ht, hv, hst]
end Go.Proofs.YtgcajfglidflnaaGreatDoor
