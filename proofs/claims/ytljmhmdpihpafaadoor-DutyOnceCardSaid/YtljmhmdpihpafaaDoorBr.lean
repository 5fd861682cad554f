/- Brains and duties: what they are in memory; what is asked of one in a phase. -/
import Derived.Test.YtljmhmdpihpafaaDoorCln
import Derived.WideKeyElems
import Derived.Maps.Own
import Derived.Laws.Rows
import Derived.TacticsIn
namespace Go.Proofs.YtljmhmdpihpafaaDoor
open Go.RowKit Go.Shelf

structure IntentV where
  token : Int
  version : Int
  zone : Int
  warm : Bool
def encIn (x : IntentV) : List Value := [.int .i64 x.token, .int .i64 x.version, .int .i64 x.zone, .bool x.warm]
theorem encIn_len (x : IntentV) : (encIn x).length = 4 := rfl
structure KeptV where
  id : Int
  token : Int
  version : Int
  zone : Int
  phase : Int
  since : Int
  guarded : Bool
  complete : Bool
def encKp (x : KeptV) : List Value := [.int .i64 x.id, .int .i64 x.token, .int .i64 x.version, .int .i64 x.zone, .int .u8 x.phase, .int .i64 x.since, .bool x.guarded, .bool x.complete]
theorem encKp_len (x : KeptV) : (encKp x).length = 8 := rfl
structure DutyV where
  kind : Int
  key : Int
instance : DecidableEq DutyV := fun a b => decidable_of_iff (a.kind = b.kind ∧ a.key = b.key) (by cases a; cases b; simp)
def encD (x : DutyV) : List Value := [.int .u8 x.kind, .int .i64 x.key]
def encDv (x : DutyV) : Value := .agg #[.int .u8 x.kind, .int .i64 x.key]
theorem encD_len (x : DutyV) : (encD x).length = 2 := rfl
theorem encD_one (x : DutyV) : ∀ u ∈ encD x, u.oneCell' = true := by
  intro u hu
  simp only [encD, List.mem_cons, List.mem_nil_iff, or_false] at hu
  rcases hu with rfl | rfl <;> rfl
theorem infoD : (Tryd.prog.info? 47).map (fun i => (i.zero, i.size, i.bytes)) = some (some (.agg #[.int .u8 0, .int .i64 0]), 2, 16) := by kernel_rfl
structure AskV where
  kind : Int
  call : Int
  a : Int
  b : Int
  c : Int
  d : Int
def encA (x : AskV) : List Value := [.int .u8 x.kind, .int .i64 x.call, .int .i64 x.a, .int .i64 x.b, .int .i64 x.c, .int .i64 x.d]
def encAv (x : AskV) : Value := .agg #[.int .u8 x.kind, .int .i64 x.call, .int .i64 x.a, .int .i64 x.b, .int .i64 x.c, .int .i64 x.d]
theorem encA_len (x : AskV) : (encA x).length = 6 := rfl
theorem encA_one (x : AskV) : ∀ u ∈ encA x, u.oneCell' = true := by
  intro u hu
  simp only [encA, List.mem_cons, List.mem_nil_iff, or_false] at hu
  rcases hu with rfl | rfl | rfl | rfl | rfl | rfl <;> rfl
theorem infoAs : (Tryd.prog.info? 52).map (fun i => (i.zero, i.size, i.bytes)) = some (some (.agg #[.int .u8 0, .int .i64 0, .int .i64 0, .int .i64 0, .int .i64 0, .int .i64 0]), 6, 48) := by kernel_rfl

theorem rowI {w : World} {b off : Nat} {l : List IntentV} (h : RowAt 4 encIn w b off l) {i : Nat} {x : IntentV} (hi : l[i]? = some x) :
    w.cell? ⟨b, off + i * 4, none⟩ = some (.int .i64 x.token) ∧ w.cell? ⟨b, off + i * 4 + 1, none⟩ = some (.int .i64 x.version) ∧ w.cell? ⟨b, off + i * 4 + 2, none⟩ = some (.int .i64 x.zone) ∧ w.cell? ⟨b, off + i * 4 + 3, none⟩ = some (.bool x.warm) :=
  ⟨h i x hi 0 _ rfl, h i x hi 1 _ rfl, h i x hi 2 _ rfl, h i x hi 3 _ rfl⟩
theorem rowK {w : World} {b off : Nat} {l : List KeptV} (h : RowAt 8 encKp w b off l) {i : Nat} {x : KeptV} (hi : l[i]? = some x) :
    w.cell? ⟨b, off + i * 8, none⟩ = some (.int .i64 x.id) ∧ w.cell? ⟨b, off + i * 8 + 1, none⟩ = some (.int .i64 x.token) ∧ w.cell? ⟨b, off + i * 8 + 2, none⟩ = some (.int .i64 x.version) ∧ w.cell? ⟨b, off + i * 8 + 3, none⟩ = some (.int .i64 x.zone) ∧
    w.cell? ⟨b, off + i * 8 + 4, none⟩ = some (.int .u8 x.phase) ∧ w.cell? ⟨b, off + i * 8 + 5, none⟩ = some (.int .i64 x.since) ∧ w.cell? ⟨b, off + i * 8 + 6, none⟩ = some (.bool x.guarded) ∧ w.cell? ⟨b, off + i * 8 + 7, none⟩ = some (.bool x.complete) :=
  ⟨h i x hi 0 _ rfl, h i x hi 1 _ rfl, h i x hi 2 _ rfl, h i x hi 3 _ rfl, h i x hi 4 _ rfl, h i x hi 5 _ rfl, h i x hi 6 _ rfl, h i x hi 7 _ rfl⟩
theorem rowD {w : World} {b off : Nat} {l : List DutyV} (h : RowAt 2 encD w b off l) {i : Nat} {x : DutyV} (hi : l[i]? = some x) :
    w.cell? ⟨b, off + i * 2, none⟩ = some (.int .u8 x.kind) ∧ w.cell? ⟨b, off + i * 2 + 1, none⟩ = some (.int .i64 x.key) :=
  ⟨h i x hi 0 _ rfl, h i x hi 1 _ rfl⟩
theorem rowA {w : World} {b off : Nat} {l : List AskV} (h : RowAt 6 encA w b off l) {i : Nat} {x : AskV} (hi : l[i]? = some x) :
    w.cell? ⟨b, off + i * 6, none⟩ = some (.int .u8 x.kind) ∧ w.cell? ⟨b, off + i * 6 + 1, none⟩ = some (.int .i64 x.call) ∧ w.cell? ⟨b, off + i * 6 + 2, none⟩ = some (.int .i64 x.a) ∧ w.cell? ⟨b, off + i * 6 + 3, none⟩ = some (.int .i64 x.b) ∧ w.cell? ⟨b, off + i * 6 + 4, none⟩ = some (.int .i64 x.c) ∧ w.cell? ⟨b, off + i * 6 + 5, none⟩ = some (.int .i64 x.d) :=
  ⟨h i x hi 0 _ rfl, h i x hi 1 _ rfl, h i x hi 2 _ rfl, h i x hi 3 _ rfl, h i x hi 4 _ rfl, h i x hi 5 _ rfl⟩

/-- A brain: its 27 cells; where its Intents, its Kept are. -/
def BC (cs : Array Value) (iv kv : Value) : Prop := cs.size = 27 ∧ cs[18]? = some iv ∧ cs[19]? = some kv
/-- A block holds a brain. -/
def BB (W : World) (b : Nat) (cs : Array Value) : Prop := W.heap[b]? = some (.cells cs 30)
theorem BB.two {W : World} {b : Nat} {cs : Array Value} {iv kv : Value} (h : BB W b cs) (hc : BC cs iv kv) : W.cell? ⟨b, 18, none⟩ = some iv ∧ W.cell? ⟨b, 19, none⟩ = some kv ∧ (∀ j, W.frozen? ⟨b, j, none⟩ = false) ∧ b < W.heap.size := ⟨(blk_cell h 18).trans hc.2.1, (blk_cell h 19).trans hc.2.2, blk_free h, blk_lt h⟩
theorem BB.below {W W1 : World} {b B : Nat} {cs : Array Value} (h : BB W b cs) (hb : Below B W W1) (hB : b < B) : BB W1 b cs := blk_below h hb hB
theorem BB.new (w : World) (cs : Array Value) : BB (w.alloc (.cells cs 30)) w.heap.size cs := heap_new w _
theorem brain_size {cs : Array Value} {iv kv : Value} (hc : BC cs iv kv) : (Tryd.prog.info? 30).map (·.size) = some cs.size := by rw [hc.1]; kernel_rfl
theorem brain_under : Tryd.prog.underlying 30 = some (.struct (Tryd.prog.fieldsOf 30)) := by kernel_rfl
/-- The load of a whole brain, as one step of a walk. -/
theorem load_brain {ops : Array Oper} {rest : List Oper} {o : Oper} {a : Act} {w : World} {Q : Exit → Act → World → Prop} (hgd : o.guard = none) (x : Operand) (ho : o.op = .load 30 x)
    (g : Nat) (hx : a.eval x = .pointer (some ⟨g, 0, none⟩)) (cs : Array Value) (iv kv : Value) (hc : BC cs iv kv) (hg : BB w g cs)
    (h : wpList Tryd.prog ops Q rest (a.put o.dst (.agg cs)) w) : wpList Tryd.prog ops Q (o :: rest) a w :=
  wpList_load_row hgd 30 x ho g hx 30 cs _ _ hg brain_under rfl (brain_size hc) h
theorem load_brainIn {F : Fence} (hro : F.round = none) {n : Nat} {ops : Array Oper} {rest : List Oper} {o : Oper} {a : Act} {w : World} {Q : Exit → Act → World → Prop} (hgd : o.guard = none) (x : Operand) (ho : o.op = .load 30 x)
    (g : Nat) (hx : a.eval x = .pointer (some ⟨g, 0, none⟩)) (cs : Array Value) (iv kv : Value) (hc : BC cs iv kv) (hg : BB w g cs)
    (h : wpListIn F n Tryd.prog ops Q rest (a.put o.dst (.agg cs)) w) : wpListIn F n Tryd.prog ops Q (o :: rest) a w := by
  refine wpListIn_plain hgd fun K hK => ?_
  have hr := run_loadVar_row (P := Tryd.prog) w g 30 30 cs _ _ hg brain_under rfl (brain_size hc)
  refine ⟨fun f hf => by simp [Oper.about, ho] at hf, ?_⟩
  rw [hro, Oper.semAt_none]
  simp only [execOp, ho, hx, Instr.loadAt, Instr.sureAddr, Sem.run_bind, Sem.run_pure, Result.andThen_ok, hr]
  exact hK _ _ h
/-- The load of a whole brain, for the walk's simp. -/
theorem BB.load {W : World} {b : Nat} {cs : Array Value} {iv kv : Value} (h : BB W b cs) (hc : BC cs iv kv) : (loadVar 30 ⟨b, 0, none⟩).run Tryd.prog W = .ok (.agg cs) W := run_loadVar_row W b 30 30 cs _ _ h brain_under rfl (brain_size hc)
/-- What a load is of any other type: laid open; of a brain it stays. -/
theorem load_other (t : TypeId) (a : Addr) (_h : t ≠ 30) : loadVar t a = isAgg t >>= fun b => if b = true then sizeOf t >>= fun n => loadCells a n >>= fun c => pure (.agg c) else load a := by unfold loadVar; rfl
theorem list27 (l : List Value) (h : l.length = 27) : ∃ c0 c1 c2 c3 c4 c5 c6 c7 c8 c9 c10 c11 c12 c13 c14 c15 c16 c17 c18 c19 c20 c21 c22 c23 c24 c25 c26 : Value, l = [c0, c1, c2, c3, c4, c5, c6, c7, c8, c9, c10, c11, c12, c13, c14, c15, c16, c17, c18, c19, c20, c21, c22, c23, c24, c25, c26] := by
  match l, h with
  | [c0, c1, c2, c3, c4, c5, c6, c7, c8, c9, c10, c11, c12, c13, c14, c15, c16, c17, c18, c19, c20, c21, c22, c23, c24, c25, c26], _ => exact ⟨c0, c1, c2, c3, c4, c5, c6, c7, c8, c9, c10, c11, c12, c13, c14, c15, c16, c17, c18, c19, c20, c21, c22, c23, c24, c25, c26, rfl⟩
theorem BC.list {cs : Array Value} {iv kv : Value} (h : BC cs iv kv) : ∃ c0 c1 c2 c3 c4 c5 c6 c7 c8 c9 c10 c11 c12 c13 c14 c15 c16 c17 c20 c21 c22 c23 c24 c25 c26 : Value, cs = #[c0, c1, c2, c3, c4, c5, c6, c7, c8, c9, c10, c11, c12, c13, c14, c15, c16, c17, iv, kv, c20, c21, c22, c23, c24, c25, c26] := by
  obtain ⟨l⟩ := cs
  obtain ⟨h1, h2, h3⟩ := h
  obtain ⟨c0, c1, c2, c3, c4, c5, c6, c7, c8, c9, c10, c11, c12, c13, c14, c15, c16, c17, c18, c19, c20, c21, c22, c23, c24, c25, c26, rfl⟩ := list27 l h1
  simp only [List.getElem?_toArray, List.getElem?_cons_succ, List.getElem?_cons_zero, Option.some.injEq] at h2 h3
  subst h2
  subst h3
  exact ⟨c0, c1, c2, c3, c4, c5, c6, c7, c8, c9, c10, c11, c12, c13, c14, c15, c16, c17, c20, c21, c22, c23, c24, c25, c26, rfl⟩
theorem below_call {a V W : World} (h1 : Below a.heap.size a V) (h2 : Below V.heap.size V W) : Below a.heap.size a W := h1.trans (h2.mono h1.size)
theorem below_alloc {a V : World} (h : Below a.heap.size a V) (o : Obj) : Below a.heap.size a (V.alloc o) := h.alloc h.size o
theorem below_realloc {a V : World} {o o' : Obj} (h : Below a.heap.size a (V.alloc o)) (hs : a.heap.size ≤ V.heap.size) : Below a.heap.size a (V.alloc o') :=
  ⟨h.os, h.tape, h.output, by simpa using h.size, fun k hk => by
    rw [← h.block k hk]
    have e1 : ∀ o : Obj, (V.alloc o).heap[k]? = V.heap[k]? := fun o => by
      show (V.heap.push o)[k]? = _
      rw [Array.getElem?_push, if_neg (by omega)]
    rw [e1, e1]⟩
theorem below_set4 {a V : World} {b : Nat} (h : Below a.heap.size a V) (hb : a.heap.size ≤ b) (v0 v1 v2 v3 : Value) : Below a.heap.size a ((((V.setCell ⟨b, 0, none⟩ v0).setCell ⟨b, 1, none⟩ v1).setCell ⟨b, 2, none⟩ v2).setCell ⟨b, 3, none⟩ v3) :=
  (((h.setCell (p := ⟨b, 0, none⟩) hb _).setCell (p := ⟨b, 1, none⟩) hb _).setCell (p := ⟨b, 2, none⟩) hb _).setCell (p := ⟨b, 3, none⟩) hb _

/-- What is asked of one in a phase; 0: nothing. -/
def askedK (p : Int) : Int := if p = 3 then 4 else if p = 5 then 5 else if p = 8 then 6 else if p = 10 then 2 else 0
def askedB (p : Int) : Bool := decide (p = 3 ∨ p = 5 ∨ p = 8 ∨ p = 10)
def keptD (x : KeptV) : List DutyV := if askedB x.phase then [⟨askedK x.phase, x.id⟩] else []
def intentD (x : IntentV) : DutyV := ⟨1, x.token⟩
def dutiesL (I : List IntentV) (K : List KeptV) : List DutyV := I.map intentD ++ K.flatMap keptD

/-- The table of what is asked lies there. -/
def Asked (w : World) : Prop := ∃ bm o, w.cell? ⟨0, 0, none⟩ = some (.map (some bm)) ∧ w.heap[bm]? = some o ∧
  ∀ w' : World, w'.heap[bm]? = some o → ∀ p : Int, in8 p → (Instr.lookup 88 (.map (some bm)) (.int .u8 p) true).run Tryd.prog w' = .ok (.tuple #[.int .u8 (askedK p), .bool (askedB p)]) w'
theorem Asked.on {S : Nat → Prop} {w w' : World} (h : Asked w) (hb : On S w w') (hS : ∀ k, k < w.heap.size → S k) : Asked w' := by
  obtain ⟨bm, o, h1, h2, h3⟩ := h
  have l1 := lt_of_cell h1
  have l2 := (Array.getElem?_eq_some_iff.1 h2).1
  exact ⟨bm, o, (hb.cell 0 (hS _ l1) l1).trans h1, (hb.block bm (hS _ l2) l2).trans h2, h3⟩
theorem Asked.below {w w' : World} (h : Asked w) (hb : Below w.heap.size w w') : Asked w' := by
  obtain ⟨bm, o, h1, h2, h3⟩ := h
  exact ⟨bm, o, cell_below h1 hb, (hb.block bm (Array.getElem?_eq_some_iff.1 h2).1).trans h2, h3⟩
/-- The look-up, as the walk wants it. -/
theorem Asked.open {w : World} (h : Asked w) : ∃ bm, w.cell? ⟨0, 0, none⟩ = some (.map (some bm)) ∧ ∀ w' : World, (∀ k, k < w.heap.size → w'.heap[k]? = w.heap[k]?) → ∀ p : Int, in8 p → (Instr.lookup 88 (.map (some bm)) (.int .u8 p) true).run Tryd.prog w' = .ok (.tuple #[.int .u8 (askedK p), .bool (askedB p)]) w' := by
  obtain ⟨bm, o, h1, h2, h3⟩ := h
  exact ⟨bm, h1, fun w' hb p hp => h3 w' ((hb bm (Array.getElem?_eq_some_iff.1 h2).1).trans h2) p hp⟩
end Go.Proofs.YtljmhmdpihpafaaDoor
