
/- Brains and duties: what they are in memory; what is asked of one in a phase. -/
import Derived.Test.YthhgpiolcnojfaaDoorBrA
import Derived.Test.YthhgpiolcnojfaaDoorCln
import Derived.WideKeyElems
import Derived.Maps.Own
import Derived.Laws.Rows
import Derived.TacticsIn
namespace Go.Proofs.YthhgpiolcnojfaaDoor
open Go.RowKit Go.Shelf

structure DutyV where
  kind : Int
  key : Int
instance : DecidableEq DutyV := fun a b => decidable_of_iff (a.kind = b.kind ∧ a.key = b.key) (by cases a; cases b; simp)
def encD (x : DutyV) : List Value := [.int .u8 x.kind, .int .i64 x.key]
def encDv (x : DutyV) : Value := .agg #[.int .u8 x.kind, .int .i64 x.key]
theorem encD_len (x : DutyV) : (encD x).length = 2 := rfl
theorem encD_one (x : DutyV) : ∀ u ∈ encD x, u.oneCell' = true := by
  intro u hu
  simp only [encD, List.mem_cons, List.mem_nil_iff, or_false] at hu
  rcases hu with rfl | rfl <;> rfl
theorem infoD : (Tryd.prog.info? 71).map (fun i => (i.zero, i.size, i.bytes)) = some (some (.agg #[.int .u8 0, .int .i64 0]), 2, 16) := by kernel_rfl
structure AskV where
  kind : Int
  call : Int
  a : Int
  b : Int
  c : Int
  d : Int
def encA (x : AskV) : List Value := [.int .u8 x.kind, .int .i64 x.call, .int .i64 x.a, .int .i64 x.b, .int .i64 x.c, .int .i64 x.d]
def encAv (x : AskV) : Value := .agg #[.int .u8 x.kind, .int .i64 x.call, .int .i64 x.a, .int .i64 x.b, .int .i64 x.c, .int .i64 x.d]
theorem encA_len (x : AskV) : (encA x).length = 6 := rfl
theorem encA_one (x : AskV) : ∀ u ∈ encA x, u.oneCell' = true := by
  intro u hu
  simp only [encA, List.mem_cons, List.mem_nil_iff, or_false] at hu
  rcases hu with rfl | rfl | rfl | rfl | rfl | rfl <;> rfl
theorem rowD {w : World} {b off : Nat} {l : List DutyV} (h : RowAt 2 encD w b off l) {i : Nat} {x : DutyV} (hi : l[i]? = some x) :
    w.cell? ⟨b, off + i * 2, none⟩ = some (.int .u8 x.kind) ∧ w.cell? ⟨b, off + i * 2 + 1, none⟩ = some (.int .i64 x.key) :=
  ⟨h i x hi 0 _ rfl, h i x hi 1 _ rfl⟩
theorem rowA {w : World} {b off : Nat} {l : List AskV} (h : RowAt 6 encA w b off l) {i : Nat} {x : AskV} (hi : l[i]? = some x) :
    w.cell? ⟨b, off + i * 6, none⟩ = some (.int .u8 x.kind) ∧ w.cell? ⟨b, off + i * 6 + 1, none⟩ = some (.int .i64 x.call) ∧ w.cell? ⟨b, off + i * 6 + 2, none⟩ = some (.int .i64 x.a) ∧ w.cell? ⟨b, off + i * 6 + 3, none⟩ = some (.int .i64 x.b) ∧ w.cell? ⟨b, off + i * 6 + 4, none⟩ = some (.int .i64 x.c) ∧ w.cell? ⟨b, off + i * 6 + 5, none⟩ = some (.int .i64 x.d) :=
  ⟨h i x hi 0 _ rfl, h i x hi 1 _ rfl, h i x hi 2 _ rfl, h i x hi 3 _ rfl, h i x hi 4 _ rfl, h i x hi 5 _ rfl⟩

theorem BC.list {cs : Array Value} {iv kv : Value} (h : BC cs iv kv) : ∃ c0 c1 c2 c3 c4 c5 c6 c7 c8 c9 c10 c11 c12 c13 c14 c15 c16 c17 c20 c21 c22 c23 c24 c25 c26 : Value, cs = #[c0, c1, c2, c3, c4, c5, c6, c7, c8, c9, c10, c11, c12, c13, c14, c15, c16, c17, iv, kv, c20, c21, c22, c23, c24, c25, c26] := by
  obtain ⟨l⟩ := cs
  obtain ⟨h1, h2, h3⟩ := h
  obtain ⟨c0, c1, c2, c3, c4, c5, c6, c7, c8, c9, c10, c11, c12, c13, c14, c15, c16, c17, c18, c19, c20, c21, c22, c23, c24, c25, c26, rfl⟩ := list27 l h1
  simp only [List.getElem?_toArray, List.getElem?_cons_succ, List.getElem?_cons_zero, Option.some.injEq] at h2 h3
  subst h2
  subst h3
  exact ⟨c0, c1, c2, c3, c4, c5, c6, c7, c8, c9, c10, c11, c12, c13, c14, c15, c16, c17, c20, c21, c22, c23, c24, c25, c26, rfl⟩
/-- What is asked of one in a phase; 0: nothing. -/
def askedK (p : Int) : Int := if p = 3 then 4 else if p = 5 then 5 else if p = 8 then 6 else if p = 10 then 2 else 0
def askedB (p : Int) : Bool := decide (p = 3 ∨ p = 5 ∨ p = 8 ∨ p = 10)
def keptD (x : KeptV) : List DutyV := if askedB x.phase then [⟨askedK x.phase, x.id⟩] else []
def intentD (x : IntentV) : DutyV := ⟨1, x.token⟩
def dutiesL (I : List IntentV) (K : List KeptV) : List DutyV := I.map intentD ++ K.flatMap keptD

/-- The table of what is asked lies there. -/
def Asked (w : World) : Prop := ∃ bm o, w.cell? ⟨0, 0, none⟩ = some (.map (some bm)) ∧ w.heap[bm]? = some o ∧
  ∀ w' : World, w'.heap[bm]? = some o → ∀ p : Int, in8 p → (Instr.lookup 107 (.map (some bm)) (.int .u8 p) true).run Tryd.prog w' = .ok (.tuple #[.int .u8 (askedK p), .bool (askedB p)]) w'
theorem Asked.on {S : Nat → Prop} {w w' : World} (h : Asked w) (hb : On S w w') (hS : ∀ k, k < w.heap.size → S k) : Asked w' := by
  obtain ⟨bm, o, h1, h2, h3⟩ := h
  have l1 := lt_of_cell h1
  have l2 := (Array.getElem?_eq_some_iff.1 h2).1
  exact ⟨bm, o, (hb.cell 0 (hS _ l1) l1).trans h1, (hb.block bm (hS _ l2) l2).trans h2, h3⟩
theorem Asked.below {w w' : World} (h : Asked w) (hb : Below w.heap.size w w') : Asked w' := by
  obtain ⟨bm, o, h1, h2, h3⟩ := h
  exact ⟨bm, o, cell_below h1 hb, (hb.block bm (Array.getElem?_eq_some_iff.1 h2).1).trans h2, h3⟩
/-- The look-up, as the walk wants it. -/
theorem Asked.open {w : World} (h : Asked w) : ∃ bm, w.cell? ⟨0, 0, none⟩ = some (.map (some bm)) ∧ ∀ w' : World, (∀ k, k < w.heap.size → w'.heap[k]? = w.heap[k]?) → ∀ p : Int, in8 p → (Instr.lookup 107 (.map (some bm)) (.int .u8 p) true).run Tryd.prog w' = .ok (.tuple #[.int .u8 (askedK p), .bool (askedB p)]) w' := by
  obtain ⟨bm, o, h1, h2, h3⟩ := h
  exact ⟨bm, h1, fun w' hb p hp => h3 w' ((hb bm (Array.getElem?_eq_some_iff.1 h2).1).trans h2) p hp⟩
end Go.Proofs.YthhgpiolcnojfaaDoor
