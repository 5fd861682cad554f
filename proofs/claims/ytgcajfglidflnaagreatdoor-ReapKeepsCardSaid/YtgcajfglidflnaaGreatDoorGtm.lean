import Derived.Test.YtgcajfglidflnaaGreatDoorClm
import Derived.Test.YtgcajfglidflnaaGreatDoorWk2
import Derived.Test.YtgcajfglidflnaaGreatDoorEqm
import Derived.Test.YtgcajfglidflnaaGreatDoorRr
import Derived.Test.YtgcajfglidflnaaGreatDoorCut
/- herdref13.Great. -/
namespace Go.Proofs.YtgcajfglidflnaaGreatDoor
open Go.RowKit Go.Shelf
attribute [-go_sem] loadVar
attribute [local go_sem] load_other

/-- A brain that is too great to be asked. -/
def greatB (B : BrainV) : Bool := decide ((40 : Int) < (B.I.length : Int)) || (decide ((40 : Int) < (B.K.length : Int)) || decide ((40 : Int) < (B.M.length : Int)))
set_option maxRecDepth 100000 in
set_option maxHeartbeats 1000000 in
theorem rgreat_any (B : BrainV) (mv iv kv : Value) (w : World) (hm : RowOf 1 encI w mv B.M) (hi : RowOf 4 encIn w iv B.I) (hk : RowOf 8 encKp w kv B.K) :
  Calls Tryz.prog 4 #[.agg (brT B.f B.g mv iv kv)] w fun e w' => e = .returned (.bool (greatB B)) ∧ Below w.heap.size w w' := by
 obtain ⟨ma, mc, rfl, _⟩ := hm.open
 obtain ⟨ia, ic, rfl, _⟩ := hi.open
 obtain ⟨ka, kc, rfl, _⟩ := hk.open
 obtain ⟨W1, hW1⟩ : ∃ W1, W1 = w.alloc (.cells (brT B.f B.g (.slice ma B.M.length mc) (.slice ia B.I.length ic) (.slice ka B.K.length kc)) 33) := ⟨_, rfl⟩
 have hb1 : Below w.heap.size w W1 := by rw [hW1]; exact (Below.refl _ _).alloc (Nat.le_refl _) _
 have b1 : BB W1 w.heap.size (brT B.f B.g (.slice ma B.M.length mc) (.slice ia B.I.length ic) (.slice ka B.K.length kc)) := by rw [hW1]; exact heap_new _ _
 have c17 : W1.cell? ⟨w.heap.size, 17, none⟩ = some (.slice ma B.M.length mc) := blk_cell b1 17
 have c18 : W1.cell? ⟨w.heap.size, 18, none⟩ = some (.slice ia B.I.length ic) := blk_cell b1 18
 have c19 : W1.cell? ⟨w.heap.size, 19, none⟩ = some (.slice ka B.K.length kc) := blk_cell b1 19
 have hl := blk_lt b1
 rw [hW1] at c17 c18 c19 hl hb1
 have HB := hid hb1
 clear hm hi hk hb1 b1 hW1
 obtain ⟨q1, h1⟩ : ∃ b, decide ((40 : Int) < (B.I.length : Int)) = b := ⟨_, rfl⟩
 obtain ⟨q2, h2⟩ : ∃ b, decide ((40 : Int) < (B.K.length : Int)) = b := ⟨_, rfl⟩
 obtain ⟨q3, h3⟩ : ∃ b, decide ((40 : Int) < (B.M.length : Int)) = b := ⟨_, rfl⟩
 unfold greatB
 rw [h1, h2, h3]
 cases q1 with
 | true =>
  go_enter Tryz.func4, Tryz.ntmps4
  go_wp2
  go_ret
  exact ⟨rfl, HB.out⟩
 | false =>
  cases q2 with
  | true =>
   go_enter Tryz.func4, Tryz.ntmps4
   go_wp2
   go_ret
   exact ⟨rfl, HB.out⟩
  | false =>
   go_enter Tryz.func4, Tryz.ntmps4
   go_wp2
   go_ret
   exact ⟨rfl, HB.out⟩
end Go.Proofs.YtgcajfglidflnaaGreatDoor

/- Brains in hand, in a variable, in a row; records in hand, in a row: what the laws' walks speak of. -/
namespace Go.Proofs.YtgcajfglidflnaaGreatDoor
open Go.RowKit Go.Shelf
attribute [-go_sem] loadVar
attribute [local go_sem] load_other

/-- A brain in hand. -/
def BrIs (W : World) (B : BrainV) (v : Value) : Prop := ∃ mv iv kv, v = .agg (brT B.f B.g mv iv kv) ∧ RowOf 1 encI W mv B.M ∧ RowOf 4 encIn W iv B.I ∧ RowOf 8 encKp W kv B.K
/-- A variable holds a brain. -/
def VarIs (W : World) (T : Nat) (B : BrainV) (v : Value) : Prop := ∃ mv iv kv, v = .agg (brT B.f B.g mv iv kv) ∧ BB W T (brT B.f B.g mv iv kv) ∧ RowOf 1 encI W mv B.M ∧ RowOf 4 encIn W iv B.I ∧ RowOf 8 encKp W kv B.K
section
variable {W W' : World} {B : BrainV} {v : Value} {T : Nat}
theorem BrIs.below (h : BrIs W B v) (hb : Below W.heap.size W W') : BrIs W' B v := by
 obtain ⟨mv, iv, kv, rfl, h1, h2, h3⟩ := h
 exact ⟨mv, iv, kv, rfl, h1.below hb, h2.below hb, h3.below hb⟩
theorem BrEnd.is {base : World} (h : BrEnd base B v W) : BrIs W B v := by
 obtain ⟨mv, iv, kv, rfl, h1, h2, h3⟩ := h
 exact ⟨mv, iv, kv, rfl, h1.row, h2.row encIn_len (by decide), h3.row encKp_len (by decide)⟩
theorem VarIs.below (h : VarIs W T B v) (hb : Below W.heap.size W W') : VarIs W' T B v := by
 obtain ⟨mv, iv, kv, rfl, h0, h1, h2, h3⟩ := h
 exact ⟨mv, iv, kv, rfl, h0.below hb (blk_lt h0), h1.below hb, h2.below hb, h3.below hb⟩
theorem VarIs.is (h : VarIs W T B v) : BrIs W B v := by
 obtain ⟨mv, iv, kv, rfl, h0, h1, h2, h3⟩ := h
 exact ⟨mv, iv, kv, rfl, h1, h2, h3⟩
theorem VarIs.load (h : VarIs W T B v) : (loadVar 33 ⟨T, 0, none⟩).run Tryz.prog W = .ok v W := by
 obtain ⟨mv, iv, kv, rfl, h0, h1, h2, h3⟩ := h
 exact h0.load (brT_bc _ _ _ _ _)
theorem VarIs.lt (h : VarIs W T B v) : T < W.heap.size := by
 obtain ⟨mv, iv, kv, rfl, h0, h1, h2, h3⟩ := h
 exact blk_lt h0
theorem VarIs.new (h : BrIs W B v) : ∃ cs, v = .agg cs ∧ cs.size = 27 ∧ VarIs (W.alloc (.cells cs 33)) W.heap.size B v := by
 obtain ⟨mv, iv, kv, rfl, h1, h2, h3⟩ := h
 have hb : Below W.heap.size W (W.alloc (.cells (brT B.f B.g mv iv kv) 33)) := (Below.refl _ _).alloc (Nat.le_refl _) _
 exact ⟨_, rfl, rfl, mv, iv, kv, rfl, heap_new _ _, h1.below hb, h2.below hb, h3.below hb⟩
theorem BrVar.is {base : World} (h : BrVar base W T B) : ∃ v, VarIs W T B v := by
 obtain ⟨mv, iv, kv, h0, h1, h2, h3⟩ := h
 exact ⟨_, mv, iv, kv, rfl, h0, h1.row, h2.row encIn_len (by decide), h3.row encKp_len (by decide)⟩
/-- The cells of a variable that holds a brain. -/
theorem VarIs.open (h : VarIs W T B v) : ∃ ma mc ia ic ka kc, v = .agg (brT B.f B.g (.slice ma B.M.length mc) (.slice ia B.I.length ic) (.slice ka B.K.length kc)) ∧ BB W T (brT B.f B.g (.slice ma B.M.length mc) (.slice ia B.I.length ic) (.slice ka B.K.length kc)) ∧
  RowOf 1 encI W (.slice ma B.M.length mc) B.M ∧ RowOf 4 encIn W (.slice ia B.I.length ic) B.I ∧ RowOf 8 encKp W (.slice ka B.K.length kc) B.K := by
 obtain ⟨mv, iv, kv, rfl, h0, h1, h2, h3⟩ := h
 obtain ⟨ma, mc, rfl, _⟩ := h1.open
 obtain ⟨ia, ic, rfl, _⟩ := h2.open
 obtain ⟨ka, kc, rfl, _⟩ := h3.open
 exact ⟨ma, mc, ia, ic, ka, kc, rfl, h0, h1, h2, h3⟩
theorem BrIs.open (h : BrIs W B v) : ∃ ma mc ia ic ka kc, v = .agg (brT B.f B.g (.slice ma B.M.length mc) (.slice ia B.I.length ic) (.slice ka B.K.length kc)) ∧
  RowOf 1 encI W (.slice ma B.M.length mc) B.M ∧ RowOf 4 encIn W (.slice ia B.I.length ic) B.I ∧ RowOf 8 encKp W (.slice ka B.K.length kc) B.K := by
 obtain ⟨mv, iv, kv, rfl, h1, h2, h3⟩ := h
 obtain ⟨ma, mc, rfl, _⟩ := h1.open
 obtain ⟨ia, ic, rfl, _⟩ := h2.open
 obtain ⟨ka, kc, rfl, _⟩ := h3.open
 exact ⟨ma, mc, ia, ic, ka, kc, rfl, h1, h2, h3⟩
end
/-- A slice of records in memory. -/
def RecsR (w : World) (R : List RecE) (s : Value) : Prop := RowOf 2 encR w s R ∧ ∀ r ∈ R, RowOf 1 encI w r.s r.L
theorem RecsR.below {w w' : World} {R : List RecE} {s : Value} (h : RecsR w R s) (hb : Below w.heap.size w w') : RecsR w' R s := ⟨h.1.below hb, fun r hr => (h.2 r hr).below hb⟩
theorem RecsR.rec {w : World} {R : List RecE} {s : Value} (h : RecsR w R s) {r : RecE} (hr : r ∈ R) : RecIs w r.k r.L (recV r.k r.s) := ⟨r.s, rfl, h.2 r hr⟩
/-- Brains in a row. -/
structure BrR where
 B : BrainV
 mv : Value
 iv : Value
 kv : Value
def encB (x : BrR) : List Value := (brT x.B.f x.B.g x.mv x.iv x.kv).toList
theorem encB_len (x : BrR) : (encB x).length = 27 := rfl
def BrsR (w : World) (R : List BrR) (s : Value) : Prop := RowOf 27 encB w s R ∧ ∀ x ∈ R, RowOf 1 encI w x.mv x.B.M ∧ RowOf 4 encIn w x.iv x.B.I ∧ RowOf 8 encKp w x.kv x.B.K
theorem BrsR.below {w w' : World} {R : List BrR} {s : Value} (h : BrsR w R s) (hb : Below w.heap.size w w') : BrsR w' R s := ⟨h.1.below hb, fun r hr => ⟨(h.2 r hr).1.below hb, (h.2 r hr).2.1.below hb, (h.2 r hr).2.2.below hb⟩⟩
/-- One brain, as a row. -/
theorem BrsR.one {w : World} {B : BrainV} {v : Value} {cs : Array Value} (h : BrIs w B v) (hv : v = .agg cs) : ∃ x : BrR, x.B = B ∧ BrsR (w.alloc (.cells cs 33)) [x] (.slice (some ⟨w.heap.size, 0, none⟩) 1 1) := by
 obtain ⟨mv, iv, kv, e, h1, h2, h3⟩ := h
 rw [hv] at e
 cases e
 have hb : Below w.heap.size w (w.alloc (.cells (brT B.f B.g mv iv kv) 33)) := (Below.refl _ _).alloc (Nat.le_refl _) _
 refine ⟨⟨B, mv, iv, kv⟩, rfl, row_blk (l := [(⟨B, mv, iv, kv⟩ : BrR)]) encB_len (by show _ = some (Obj.cells (encB ⟨B, mv, iv, kv⟩ ++ []).toArray _); rw [List.append_nil]; exact heap_new w (.cells (brT B.f B.g mv iv kv) 33)) (by simp) (show 1 ≤ maxLen by decide), ?_⟩
 intro x hx
 simp at hx
 subst hx
 exact ⟨h1.below hb, h2.below hb, h3.below hb⟩
theorem BrsR.nil (w : World) : BrsR w [] (.slice none 0 0) := ⟨row_nil w, fun x hx => by cases hx⟩
/-- One record, as a row. -/
theorem RecsR.one {w : World} {k : Int} {s : Value} {L : List Int} (h : RowOf 1 encI w s L) : RecsR (w.alloc (.cells #[.int .u8 k, s] 70)) [⟨k, s, L⟩] (.slice (some ⟨w.heap.size, 0, none⟩) 1 1) := by
 have hb : Below w.heap.size w (w.alloc (.cells #[.int .u8 k, s] 70)) := (Below.refl _ _).alloc (Nat.le_refl _) _
 refine ⟨row_blk (l := [(⟨k, s, L⟩ : RecE)]) (fun _ => rfl) (heap_new w _) (by simp) (show 1 ≤ maxLen by decide), ?_⟩
 intro x hx
 simp at hx
 subst hx
 exact h.below hb
section
variable {w : World} {A B : BrainV} {u v r : Value}
theorem apply_is (k : Int) (L : List Int) (n : Nat) (h : BrIs w B v) (hr : RecIs w k L r) (hF : Fine B n) (hn : n ≤ 999) (hM : B.M.length ≤ 17592186043904) (hL : L.length ≤ 100000) (hC : Changes w) (hLm : Limits w) :
  Calls Tryz.prog 26 #[v, r] w fun e w' => ∃ u, e = .returned u ∧ BrEnd w (applyB B k L) u w' ∧ Below w.heap.size w w' := by
 obtain ⟨mv, iv, kv, rfl, h1, h2, h3⟩ := h
 obtain ⟨s, rfl, hs⟩ := hr
 exact applyE_any B.f B.g mv iv kv B.M B.I B.K k s L n w h1 h2 h3 hM hF hn hs hL hC hLm
theorem rright_is (b : Bool) (hb : rightB B = b) (h : BrIs w B v) : Calls Tryz.prog 5 #[v] w fun e w' => e = .returned (.bool b) ∧ Below w.heap.size w w' := by
 obtain ⟨m1, i1, k1, rfl, q1, q2, q3⟩ := h
 exact rright_at B b hb m1 i1 k1 w q1 q2 q3
theorem own_is (h : BrIs w B v) (hM : B.M.length ≤ 17592186043904) (hI : B.I.length ≤ 1000000) (hK : B.K.length ≤ 1000000) :
  Calls Tryz.prog 24 #[v] w fun e w' => ∃ u, e = .returned u ∧ BrEnd w B u w' ∧ Below w.heap.size w w' := by
 obtain ⟨m1, i1, k1, rfl, q1, q2, q3⟩ := h
 refine (own_any B.f B.g m1 i1 k1 B.M B.I B.K w q1 q2 q3 hM hI hK).mono ?_
 rintro e w' ⟨mv, iv, kv, rfl, h1, h2, h3, hb⟩
 exact ⟨_, rfl, ⟨mv, iv, kv, rfl, h1.trow encI_len (by decide), h2, h3⟩, hb⟩
end
end Go.Proofs.YtgcajfglidflnaaGreatDoor

/- herdlaw13.great: brains, records that are too great to be asked. -/
namespace Go.Proofs.YtgcajfglidflnaaGreatDoor
open Go.RowKit Go.Shelf
attribute [-go_sem] loadVar
attribute [local go_sem] load_other

theorem rgreat_at (B : BrainV) (q : Bool) (hq : greatB B = q) (mv iv kv : Value) (w : World) (hm : RowOf 1 encI w mv B.M) (hi : RowOf 4 encIn w iv B.I) (hk : RowOf 8 encKp w kv B.K) :
  Calls Tryz.prog 4 #[.agg (brT B.f B.g mv iv kv)] w fun e w' => e = .returned (.bool q) ∧ Below w.heap.size w w' := by
 rw [← hq]; exact rgreat_any B mv iv kv w hm hi hk
end Go.Proofs.YtgcajfglidflnaaGreatDoor

/- A region whose operations only make memory: its specs as a list; what a brain's store leaves. -/
namespace Go.Proofs.YtgcajfglidflnaaGreatDoor
open Go.RowKit Go.Shelf
attribute [-go_sem] loadVar

def spL (l : List (Value → World → Prop)) (i : Nat) (v : Value) (w : World) : Prop := (l.getD i fun _ _ => True) v w
def Stays (p : Value → World → Prop) : Prop := ∀ v w w', p v w → Below w.heap.size w w' → p v w'
def AllStay : List (Value → World → Prop) → Prop
 | [] => True
 | p :: l => Stays p ∧ AllStay l
theorem spL_stays : ∀ {l : List (Value → World → Prop)}, AllStay l → ∀ i v w w', spL l i v w → Below w.heap.size w w' → spL l i v w'
 | [], _, _, _, _, _, _, _ => trivial
 | _ :: _, h, 0, v, w, w', hv, hb => h.1 v w w' hv hb
 | _ :: _, h, i + 1, v, w, w', hv, hb => spL_stays h.2 i v w w' hv hb
theorem stays_eq (c : Value) : Stays fun v _ => v = c := fun _ _ _ h _ => h
theorem stays_brEnd (W : World) (B : BrainV) : Stays fun v w => BrEnd W B v w := fun _ _ _ h hb => h.below hb
/-- A brain is stored in a variable of the call's own. -/
theorem brEnd_store {W0 W w' : World} {T : Nat} {B : BrainV} {v : Value} {c : Array Value} (h : BrEnd W0 B v w') (hT : w'.heap[T]? = some (.cells c 33)) (hc : c.size = 27) (hb : Below W.heap.size W w') (hTW : W.heap.size ≤ T) :
  ∃ X, (storeVar 33 ⟨T, 0, none⟩ v).run Tryz.prog w' = .ok () X ∧ VarIs X T B v ∧ BrVar W0 X T B ∧ Below W.heap.size W X ∧ (∀ i, i ≠ T → X.heap[i]? = w'.heap[i]?) ∧ X.heap.size = w'.heap.size := by
 obtain ⟨mv, iv, kv, rfl, h1, h2, h3⟩ := h
 obtain ⟨am, cm, rfl, hm⟩ := h1
 obtain ⟨ai, ni, ci, rfl⟩ := h2.shape
 obtain ⟨ak, nk, ck, rfl⟩ := h3.shape
 have hst := run_storeVar_row w' T 33 33 c (brT B.f B.g (.slice am B.M.length cm) (.slice ai ni ci) (.slice ak nk ck)) hT (brain_size (brT_bc _ _ _ _ _)) hc (by simp [brT, Value.oneCell'])
 have hv : BrVar W0 (w'.setRow T (brT B.f B.g (.slice am B.M.length cm) (.slice ai ni ci) (.slice ak nk ck))) T B := BrVar.store hT ⟨am, cm, rfl, hm⟩ h2 h3 (Nat.le_refl _)
 refine ⟨_, hst, ?_, hv, below_setRow hb hTW _, fun i hi => setRow_other w' T i _ hi, by simp⟩
 have q1 : TRow 3 1 encI (w'.setRow T (brT B.f B.g (.slice am B.M.length cm) (.slice ai ni ci) (.slice ak nk ck))) (.slice am B.M.length cm) B.M := TRow.kept ⟨am, cm, rfl, hm⟩ (KeptT.grown (setRow_grown _ _ _) (fun r e => by cases e; exact ⟨_, hT⟩) (by decide))
 exact ⟨_, _, _, rfl, setRow_heap w' T _ _ _ _ hT, q1.row, (owns_row h2 hT (by decide) _).row encIn_len (by decide), (owns_row h3 hT (by decide) _).row encKp_len (by decide)⟩
theorem BrVar.end {W0 W : World} {T : Nat} {B : BrainV} {v : Value} (h : BrVar W0 W T B) (hv : VarIs W T B v) : BrEnd W0 B v W := by
 obtain ⟨mv, iv, kv, h0, h1, h2, h3⟩ := h
 obtain ⟨m', i', k', rfl, g0, _⟩ := hv
 unfold BB at h0 g0
 rw [h0] at g0
 have e := congrArg (fun o : Option Obj => match o with | some (.cells c _) => (c[17]?, c[18]?, c[19]?) | _ => (none, none, none)) g0
 simp [brT] at e
 obtain ⟨rfl, rfl, rfl⟩ := e
 exact ⟨mv, iv, kv, rfl, h1, h2, h3⟩
end Go.Proofs.YtgcajfglidflnaaGreatDoor
