/- A region whose operations only make memory: its specs as a list; what a brain's store leaves. -/
import Derived.Test.YthnigndpibgibaaDoorGr
import Derived.Test.YthnigndpibgibaaDoorGro
namespace Go.Proofs.YthnigndpibgibaaDoor
open Go.RowKit Go.Shelf
attribute [-go_sem] loadVar

def spL (l : List (Value → World → Prop)) (i : Nat) (v : Value) (w : World) : Prop := (l.getD i fun _ _ => True) v w
def Stays (p : Value → World → Prop) : Prop := ∀ v w w', p v w → Below w.heap.size w w' → p v w'
def AllStay : List (Value → World → Prop) → Prop
  | [] => True
  | p :: l => Stays p ∧ AllStay l
theorem spL_stays : ∀ {l : List (Value → World → Prop)}, AllStay l → ∀ i v w w', spL l i v w → Below w.heap.size w w' → spL l i v w'
  | [], _, _, _, _, _, _, _ => trivial
  | _ :: _, h, 0, v, w, w', hv, hb => h.1 v w w' hv hb
  | _ :: _, h, i + 1, v, w, w', hv, hb => spL_stays h.2 i v w w' hv hb
theorem stays_eq (c : Value) : Stays fun v _ => v = c := fun _ _ _ h _ => h
theorem stays_true : Stays fun _ _ => True := fun _ _ _ h _ => h
theorem stays_brEnd (W : World) (B : BrainV) : Stays fun v w => BrEnd W B v w := fun _ _ _ h hb => h.below hb
theorem stays_brIs (B : BrainV) : Stays fun v w => BrIs w B v := fun _ _ _ h hb => h.below hb
theorem stays_recIs (k : Int) (L : List Int) : Stays fun v w => RecIs w k L v := fun _ _ _ h hb => h.below hb
theorem stays_recsR (R : List RecE) : Stays fun v w => RecsR w R v := fun _ _ _ h hb => h.below hb
/-- A brain's variable, newly made. -/
def NewBr (W : World) (v : Value) (w : World) : Prop := ∃ T, v = .pointer (some ⟨T, 0, none⟩) ∧ W.heap.size ≤ T ∧ w.heap[T]? = some (.cells zeroBr 30)
theorem stays_new (W : World) : Stays fun v w => NewBr W v w := by
  rintro v w w' ⟨T, h1, h2, h3⟩ hb
  exact ⟨T, h1, h2, blk_below h3 hb (blk_lt h3)⟩
/-- A brain is stored in a variable of the call's own. -/
theorem brEnd_store {W0 W w' : World} {T : Nat} {B : BrainV} {v : Value} {c : Array Value} (h : BrEnd W0 B v w') (hT : w'.heap[T]? = some (.cells c 30)) (hc : c.size = 27) (hb : Below W.heap.size W w') (hTW : W.heap.size ≤ T) :
    ∃ X, (storeVar 30 ⟨T, 0, none⟩ v).run Tryd.prog w' = .ok () X ∧ VarIs X T B v ∧ BrVar W0 X T B ∧ Below W.heap.size W X ∧ (∀ i, i ≠ T → X.heap[i]? = w'.heap[i]?) ∧ X.heap.size = w'.heap.size := by
  obtain ⟨mv, iv, kv, rfl, h1, h2, h3⟩ := h
  obtain ⟨am, cm, rfl, hm⟩ := h1
  obtain ⟨ai, ni, ci, rfl⟩ := h2.shape
  obtain ⟨ak, nk, ck, rfl⟩ := h3.shape
  have hst := run_storeVar_row w' T 30 30 c (brT B.f B.g (.slice am B.M.length cm) (.slice ai ni ci) (.slice ak nk ck)) hT (brain_size (brT_bc _ _ _ _ _)) hc (by simp [brT, Value.oneCell'])
  have hv : BrVar W0 (w'.setRow T (brT B.f B.g (.slice am B.M.length cm) (.slice ai ni ci) (.slice ak nk ck))) T B := BrVar.store hT ⟨am, cm, rfl, hm⟩ h2 h3 (Nat.le_refl _)
  refine ⟨_, hst, ?_, hv, below_setRow hb hTW _, fun i hi => setRow_other w' T i _ hi, by simp⟩
  have q1 : TRow 3 1 encI (w'.setRow T (brT B.f B.g (.slice am B.M.length cm) (.slice ai ni ci) (.slice ak nk ck))) (.slice am B.M.length cm) B.M := TRow.kept ⟨am, cm, rfl, hm⟩ (KeptT.grown (setRow_grown _ _ _) (fun r e => by cases e; exact ⟨_, hT⟩) (by decide))
  exact ⟨_, _, _, rfl, setRow_heap w' T _ _ _ _ hT, q1.row, (owns_row h2 hT (by decide) _).row encIn_len (by decide), (owns_row h3 hT (by decide) _).row encKp_len (by decide)⟩
theorem BrVar.end {W0 W : World} {T : Nat} {B : BrainV} {v : Value} (h : BrVar W0 W T B) (hv : VarIs W T B v) : BrEnd W0 B v W := by
  obtain ⟨mv, iv, kv, h0, h1, h2, h3⟩ := h
  obtain ⟨m', i', k', rfl, g0, _⟩ := hv
  unfold BB at h0 g0
  rw [h0] at g0
  have e := congrArg (fun o : Option Obj => match o with | some (.cells c _) => (c[17]?, c[18]?, c[19]?) | _ => (none, none, none)) g0
  simp [brT] at e
  obtain ⟨rfl, rfl, rfl⟩ := e
  exact ⟨mv, iv, kv, rfl, h1, h2, h3⟩
end Go.Proofs.YthnigndpibgibaaDoor
