/- herdlaw13.wakes: what the document says of two boots, of no group, of an instance that goes on. -/
import Derived.Test.YtgcajfglidflnaaGreatDoorRw7
import Derived.Test.YtgcajfglidflnaaGreatDoorRt
namespace Go.Proofs.YtgcajfglidflnaaGreatDoor
open Go.RowKit Go.Shelf
attribute [-go_sem] loadVar storeVar
attribute [local go_sem] load_other store_other

theorem BrEnd.below {base W W' : World} {B : BrainV} {v : Value} (h : BrEnd base B v W) (hb : Below W.heap.size W W') : BrEnd base B v W' := by
 obtain ⟨mv, iv, kv, h1, h2, h3, h4⟩ := h
 exact ⟨mv, iv, kv, h1, h2.kept (KeptT.below hb), h3.below hb, h4.below hb⟩
theorem row_nil {α : Type} {k : Nat} {enc : α → List Value} (W : World) : RowOf k enc W (.slice none 0 0) ([] : List α) := .inl ⟨none, 0, rfl, rfl, fun _ => rfl, by decide⟩
theorem row_blk {α : Type} {k : Nat} {enc : α → List Value} {W : World} {b : Nat} {t : TypeId} {l : List α} (hk : ∀ x, (enc x).length = k) (h : W.heap[b]? = some (.cells (l.flatMap enc).toArray t)) (h0 : 0 < l.length) (hm : l.length ≤ maxLen) : RowOf k enc W (.slice (some ⟨b, 0, none⟩) l.length l.length) l := by
 refine .inr ⟨h0, b, 0, l.length, rfl, Nat.le_refl _, hm, blk_lt h, ?_⟩
 intro i x hx j v hj
 rw [blk_cell h, Nat.zero_add]
 simp only [List.getElem?_toArray]
 have hi := lt_get hx
 have hjk : j < k := by have := lt_get hj; rwa [hk] at this
 rw [flat_split l i, List.getElem?_append_right (by rw [flat_len hk, List.length_take, Nat.min_eq_left (by omega)]; omega), flat_len hk, List.length_take, Nat.min_eq_left (by omega), show i * k + j - i * k = j by omega]
 rw [List.drop_eq_getElem_cons hi, List.flatMap_cons, List.getElem?_append_left (by rw [hk]; exact hjk)]
 rw [List.getElem?_eq_getElem hi] at hx
 cases hx
 exact hj
/-- A variable holds a brain, whose rows lie in memory of the call's own. -/
def BrVar (base W : World) (T : Nat) (B : BrainV) : Prop :=
 ∃ mv iv kv, BB W T (brT B.f B.g mv iv kv) ∧ TRow 3 1 encI W mv B.M ∧ OwnN W base.heap.size iv B.I ∧ OwnK W base.heap.size kv B.K
theorem BrVar.below {base W W' : World} {T : Nat} {B : BrainV} (h : BrVar base W T B) (hb : Below W.heap.size W W') : BrVar base W' T B := by
 obtain ⟨mv, iv, kv, h1, h2, h3, h4⟩ := h
 exact ⟨mv, iv, kv, h1.below hb (blk_lt h1), h2.kept (KeptT.below hb), h3.below hb, h4.below hb⟩
/-- .. behind a store into another variable that holds a brain. -/
theorem BrVar.row {base W : World} {T T' : Nat} {B : BrainV} {c : Array Value} (h : BrVar base W T B) (hT : W.heap[T']? = some (.cells c 33)) (hne : T ≠ T') (cs : Array Value) : BrVar base (W.setRow T' cs) T B := by
 obtain ⟨mv, iv, kv, h1, h2, h3, h4⟩ := h
 exact ⟨mv, iv, kv, (setRow_other W T' T cs hne).trans h1, h2.kept (KeptT.grown (setRow_grown _ _ _) (fun r e => by cases e; exact ⟨_, hT⟩) (by decide)), owns_row h3 hT (by decide) _, owns_row h4 hT (by decide) _⟩
theorem BrVar.store {base B0 W : World} {T : Nat} {B : BrainV} {c : Array Value} {mv iv kv : Value} (hT : W.heap[T]? = some (.cells c 33)) (h2 : TRow 3 1 encI W mv B.M) (h3 : OwnN W B0.heap.size iv B.I) (h4 : OwnK W B0.heap.size kv B.K) (hb : base.heap.size ≤ B0.heap.size) :
  BrVar base (W.setRow T (brT B.f B.g mv iv kv)) T B :=
 ⟨mv, iv, kv, setRow_heap W T _ _ _ _ hT, h2.kept (KeptT.grown (setRow_grown _ _ _) (fun r e => by cases e; exact ⟨_, hT⟩) (by decide)), owns_row (h3.mono hb) hT (by decide) _, owns_row (h4.mono hb) hT (by decide) _⟩
theorem BrVar.lt {base W : World} {T : Nat} {B : BrainV} (h : BrVar base W T B) : T < W.heap.size := by
 obtain ⟨mv, iv, kv, h1, _⟩ := h
 exact blk_lt h1
/-- A slice of numbers. -/
def IntsIs (w : World) (L : List Int) (v : Value) : Prop := RowOf 1 encI w v L
theorem IntsIs.below {w w' : World} {L : List Int} {v : Value} (h : IntsIs w L v) (hb : Below w.heap.size w w') : IntsIs w' L v := RowOf.below h hb
theorem IntsIs.new (L : List Int) (w : World) (h0 : 0 < L.length) (hm : L.length ≤ maxLen) : IntsIs (w.alloc (.cells (L.flatMap encI).toArray 3)) L (.slice (some ⟨w.heap.size, 0, none⟩) L.length L.length) :=
 row_blk encI_len (heap_new w _) h0 hm
/-- A record. -/
def RecIs (w : World) (k : Int) (L : List Int) (v : Value) : Prop := ∃ s, v = recV k s ∧ RowOf 1 encI w s L
theorem RecIs.below {w w' : World} {k : Int} {L : List Int} {v : Value} (h : RecIs w k L v) (hb : Below w.heap.size w w') : RecIs w' k L v := by
 obtain ⟨s, h1, h2⟩ := h
 exact ⟨s, h1, RowOf.below h2 hb⟩
/-- A slice of records. -/
def RecsIs (w : World) (ks : List (Int × List Int)) (v : Value) : Prop := ∃ R : List RecE, R.map (fun r => (r.k, r.L)) = ks ∧ RowOf 2 encR w v R ∧ ∀ r ∈ R, RowOf 1 encI w r.s r.L
theorem RecsIs.below {w w' : World} {ks : List (Int × List Int)} {v : Value} (h : RecsIs w ks v) (hb : Below w.heap.size w w') : RecsIs w' ks v := by
 obtain ⟨R, h1, h2, h3⟩ := h
 exact ⟨R, h1, RowOf.below h2 hb, fun r hr => RowOf.below (h3 r hr) hb⟩
theorem BrEnd.base {b0 b1 W : World} {B : BrainV} {v : Value} (h : BrEnd b1 B v W) (hb : b0.heap.size ≤ b1.heap.size) : BrEnd b0 B v W := by
 obtain ⟨mv, iv, kv, h1, h2, h3, h4⟩ := h
 exact ⟨mv, iv, kv, h1, h2, h3.mono hb, h4.mono hb⟩
end Go.Proofs.YtgcajfglidflnaaGreatDoor
