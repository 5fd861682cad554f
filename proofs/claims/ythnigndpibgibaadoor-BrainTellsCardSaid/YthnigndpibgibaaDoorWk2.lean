/- herdlaw13.wakes: what the document says of two boots, of no group, of an instance that goes on. -/
import Derived.Test.YthnigndpibgibaaDoorRw7
import Derived.Test.YthnigndpibgibaaDoorRt
namespace Go.Proofs.YthnigndpibgibaaDoor
open Go.RowKit Go.Shelf
attribute [-go_sem] loadVar storeVar
attribute [local go_sem] load_other store_other

theorem BrEnd.below {base W W' : World} {B : BrainV} {v : Value} (h : BrEnd base B v W) (hb : Below W.heap.size W W') : BrEnd base B v W' := by
  obtain ⟨mv, iv, kv, h1, h2, h3, h4⟩ := h
  exact ⟨mv, iv, kv, h1, h2.kept (KeptT.below hb), h3.below hb, h4.below hb⟩
def noB : BrainV := ⟨fun _ => 0, fun _ => false, [], [], []⟩
theorem noB_fine : Fine noB 0 := ⟨Nat.le_refl _, Nat.le_refl _, fun x hx => by cases hx⟩
theorem row_nil {α : Type} {k : Nat} {enc : α → List Value} (W : World) : RowOf k enc W (.slice none 0 0) ([] : List α) := .inl ⟨none, 0, rfl, rfl, fun _ => rfl, by decide⟩
theorem row_blk {α : Type} {k : Nat} {enc : α → List Value} {W : World} {b : Nat} {t : TypeId} {l : List α} (hk : ∀ x, (enc x).length = k) (h : W.heap[b]? = some (.cells (l.flatMap enc).toArray t)) (h0 : 0 < l.length) (hm : l.length ≤ maxLen) : RowOf k enc W (.slice (some ⟨b, 0, none⟩) l.length l.length) l := by
  refine .inr ⟨h0, b, 0, l.length, rfl, Nat.le_refl _, hm, blk_lt h, ?_⟩
  intro i x hx j v hj
  rw [blk_cell h, Nat.zero_add]
  simp only [List.getElem?_toArray]
  have hi := lt_get hx
  have hjk : j < k := by have := lt_get hj; rwa [hk] at this
  rw [flat_split l i, List.getElem?_append_right (by rw [flat_len hk, List.length_take, Nat.min_eq_left (by omega)]; omega), flat_len hk, List.length_take, Nat.min_eq_left (by omega), show i * k + j - i * k = j by omega]
  rw [List.drop_eq_getElem_cons hi, List.flatMap_cons, List.getElem?_append_left (by rw [hk]; exact hjk)]
  rw [List.getElem?_eq_getElem hi] at hx
  cases hx
  exact hj
theorem zeroBr_noB : zeroBr = brT noB.f noB.g (.slice none 0 0) (.slice none 0 0) (.slice none 0 0) := rfl
/-- A variable holds a brain, whose rows lie in memory of the call's own. -/
def BrVar (base W : World) (T : Nat) (B : BrainV) : Prop :=
  ∃ mv iv kv, BB W T (brT B.f B.g mv iv kv) ∧ TRow 3 1 encI W mv B.M ∧ OwnN W base.heap.size iv B.I ∧ OwnK W base.heap.size kv B.K
theorem BrVar.below {base W W' : World} {T : Nat} {B : BrainV} (h : BrVar base W T B) (hb : Below W.heap.size W W') : BrVar base W' T B := by
  obtain ⟨mv, iv, kv, h1, h2, h3, h4⟩ := h
  exact ⟨mv, iv, kv, h1.below hb (blk_lt h1), h2.kept (KeptT.below hb), h3.below hb, h4.below hb⟩
/-- .. behind a store into another variable that holds a brain. -/
theorem BrVar.row {base W : World} {T T' : Nat} {B : BrainV} {c : Array Value} (h : BrVar base W T B) (hT : W.heap[T']? = some (.cells c 30)) (hne : T ≠ T') (cs : Array Value) : BrVar base (W.setRow T' cs) T B := by
  obtain ⟨mv, iv, kv, h1, h2, h3, h4⟩ := h
  exact ⟨mv, iv, kv, (setRow_other W T' T cs hne).trans h1, h2.kept (KeptT.grown (setRow_grown _ _ _) (fun r e => by cases e; exact ⟨_, hT⟩) (by decide)), owns_row h3 hT (by decide) _, owns_row h4 hT (by decide) _⟩
theorem BrVar.store {base B0 W : World} {T : Nat} {B : BrainV} {c : Array Value} {mv iv kv : Value} (hT : W.heap[T]? = some (.cells c 30)) (h2 : TRow 3 1 encI W mv B.M) (h3 : OwnN W B0.heap.size iv B.I) (h4 : OwnK W B0.heap.size kv B.K) (hb : base.heap.size ≤ B0.heap.size) :
    BrVar base (W.setRow T (brT B.f B.g mv iv kv)) T B :=
  ⟨mv, iv, kv, setRow_heap W T _ _ _ _ hT, h2.kept (KeptT.grown (setRow_grown _ _ _) (fun r e => by cases e; exact ⟨_, hT⟩) (by decide)), owns_row (h3.mono hb) hT (by decide) _, owns_row (h4.mono hb) hT (by decide) _⟩
theorem BrVar.lt {base W : World} {T : Nat} {B : BrainV} (h : BrVar base W T B) : T < W.heap.size := by
  obtain ⟨mv, iv, kv, h1, _⟩ := h
  exact blk_lt h1
/-- A slice of numbers. -/
def IntsIs (w : World) (L : List Int) (v : Value) : Prop := RowOf 1 encI w v L
theorem IntsIs.below {w w' : World} {L : List Int} {v : Value} (h : IntsIs w L v) (hb : Below w.heap.size w w') : IntsIs w' L v := RowOf.below h hb
theorem IntsIs.new (L : List Int) (w : World) (h0 : 0 < L.length) (hm : L.length ≤ maxLen) : IntsIs (w.alloc (.cells (L.flatMap encI).toArray 3)) L (.slice (some ⟨w.heap.size, 0, none⟩) L.length L.length) :=
  row_blk encI_len (heap_new w _) h0 hm
/-- A record. -/
def RecIs (w : World) (k : Int) (L : List Int) (v : Value) : Prop := ∃ s, v = recV k s ∧ RowOf 1 encI w s L
theorem RecIs.below {w w' : World} {k : Int} {L : List Int} {v : Value} (h : RecIs w k L v) (hb : Below w.heap.size w w') : RecIs w' k L v := by
  obtain ⟨s, h1, h2⟩ := h
  exact ⟨s, h1, RowOf.below h2 hb⟩
/-- A slice of records. -/
def RecsIs (w : World) (ks : List (Int × List Int)) (v : Value) : Prop := ∃ R : List RecE, R.map (fun r => (r.k, r.L)) = ks ∧ RowOf 2 encR w v R ∧ ∀ r ∈ R, RowOf 1 encI w r.s r.L
theorem RecsIs.below {w w' : World} {ks : List (Int × List Int)} {v : Value} (h : RecsIs w ks v) (hb : Below w.heap.size w w') : RecsIs w' ks v := by
  obtain ⟨R, h1, h2, h3⟩ := h
  exact ⟨R, h1, RowOf.below h2 hb, fun r hr => RowOf.below (h3 r hr) hb⟩
def applyKs (B : BrainV) (ks : List (Int × List Int)) : BrainV := ks.foldl (fun B p => applyB B p.1 p.2) B
theorem applyKs_of (B : BrainV) (R : List RecE) : applyAll B R = applyKs B (R.map fun r => (r.k, r.L)) := by
  unfold applyAll applyKs
  rw [List.foldl_map]
theorem keys_short {R : List RecE} {ks : List (Int × List Int)} (h : R.map (fun r => (r.k, r.L)) = ks) (hk : ∀ p ∈ ks, p.2.length ≤ 100000) : ∀ r ∈ R, r.L.length ≤ 100000 := fun r hr => hk (r.k, r.L) (by rw [← h]; exact List.mem_map.2 ⟨r, hr, rfl⟩)
theorem BrEnd.base {b0 b1 W : World} {B : BrainV} {v : Value} (h : BrEnd b1 B v W) (hb : b0.heap.size ≤ b1.heap.size) : BrEnd b0 B v W := by
  obtain ⟨mv, iv, kv, h1, h2, h3, h4⟩ := h
  exact ⟨mv, iv, kv, h1, h2, h3.mono hb, h4.mono hb⟩
/-- The numbers of the group of the laws. -/
def rowG : List Int := [2, 50, 1, 0, 0, 0, 0, 0, 3, 2, 2, 0, 4, 0]
theorem rowG_at {W : World} {b : Nat} (h : W.heap[b]? = some (.cells (fourteen gF) 3)) : RowOf 1 encI W (.slice (some ⟨b, 0, none⟩) 14 14) rowG :=
  row_blk (l := rowG) encI_len h (by decide) (by decide)
/-- What the operations of a statement leave. -/
def sp2 (w0 : World) (i : Nat) (v : Value) (w : World) : Prop := match i with
  | 0 => v = .agg zeroBr
  | 1 => RecIs w 1 [] v
  | 2 => RecIs w 1 [] v
  | 3 => RecsIs w [(1, []), (1, [])] v
  | 4 => BrEnd w0 (applyKs noB [(1, []), (1, [])]) v w
  | 5 => ∃ T, v = .pointer (some ⟨T, 0, none⟩) ∧ w0.heap.size ≤ T ∧ w.heap[T]? = some (.cells zeroBr 30)
  | _ => True
theorem sp2_stays {w0 : World} (i : Nat) (v : Value) (w w' : World) (h : sp2 w0 i v w) (hb : Below w.heap.size w w') : sp2 w0 i v w' := by
  unfold sp2 at h ⊢
  split at h
  · exact h
  · exact h.below hb
  · exact h.below hb
  · exact h.below hb
  · exact h.below hb
  · obtain ⟨T, h1, h2, h3⟩ := h; exact ⟨T, h1, h2, blk_below h3 hb (blk_lt h3)⟩
  · trivial
/-- What the operations of a statement leave. -/
def sp3 (w0 : World) (i : Nat) (v : Value) (w : World) : Prop := match i with
  | 0 => v = .agg zeroBr
  | 1 => IntsIs w [1, 0, 0] v
  | 2 => RecIs w 3 [1, 0, 0] v
  | 3 => BrEnd w0 (applyKs noB [(3, [1, 0, 0])]) v w
  | 4 => ∃ T, v = .pointer (some ⟨T, 0, none⟩) ∧ w0.heap.size ≤ T ∧ w.heap[T]? = some (.cells zeroBr 30)
  | _ => True
theorem sp3_stays {w0 : World} (i : Nat) (v : Value) (w w' : World) (h : sp3 w0 i v w) (hb : Below w.heap.size w w') : sp3 w0 i v w' := by
  unfold sp3 at h ⊢
  split at h
  · exact h
  · exact h.below hb
  · exact h.below hb
  · exact h.below hb
  · obtain ⟨T, h1, h2, h3⟩ := h; exact ⟨T, h1, h2, blk_below h3 hb (blk_lt h3)⟩
  · trivial
/-- What the operations of a statement leave. -/
def sp4 (w0 : World) (i : Nat) (v : Value) (w : World) : Prop := match i with
  | 0 => v = .agg zeroBr
  | 1 => RecIs w 2 rowG v
  | 2 => IntsIs w [4, 1, 0] v
  | 3 => RecIs w 3 [4, 1, 0] v
  | 4 => IntsIs w [1, 7, 30] v
  | 5 => RecIs w 4 [1, 7, 30] v
  | 6 => IntsIs w [7, 2, 31] v
  | 7 => RecIs w 6 [7, 2, 31] v
  | 8 => IntsIs w [7, 4, 32] v
  | 9 => RecIs w 6 [7, 4, 32] v
  | 10 => IntsIs w [3, 0, 9, 0, 33] v
  | 11 => RecIs w 8 [3, 0, 9, 0, 33] v
  | 12 => RecsIs w [(2, rowG), (3, [4, 1, 0]), (4, [1, 7, 30]), (6, [7, 2, 31]), (6, [7, 4, 32]), (8, [3, 0, 9, 0, 33])] v
  | 13 => BrEnd w0 (applyKs noB [(2, rowG), (3, [4, 1, 0]), (4, [1, 7, 30]), (6, [7, 2, 31]), (6, [7, 4, 32]), (8, [3, 0, 9, 0, 33])]) v w
  | 14 => ∃ T, v = .pointer (some ⟨T, 0, none⟩) ∧ w0.heap.size ≤ T ∧ w.heap[T]? = some (.cells zeroBr 30)
  | _ => True
theorem sp4_stays {w0 : World} (i : Nat) (v : Value) (w w' : World) (h : sp4 w0 i v w) (hb : Below w.heap.size w w') : sp4 w0 i v w' := by
  unfold sp4 at h ⊢
  split at h
  · exact h
  · exact h.below hb
  · exact h.below hb
  · exact h.below hb
  · exact h.below hb
  · exact h.below hb
  · exact h.below hb
  · exact h.below hb
  · exact h.below hb
  · exact h.below hb
  · exact h.below hb
  · exact h.below hb
  · exact h.below hb
  · exact h.below hb
  · obtain ⟨T, h1, h2, h3⟩ := h; exact ⟨T, h1, h2, blk_below h3 hb (blk_lt h3)⟩
  · trivial
set_option maxRecDepth 100000 in
set_option maxHeartbeats 2000000 in
theorem wakes_any (w : World) (hC : Changes w) (hLm : Limits w) : Calls Tryd.prog 11 #[] w fun e w' => e = .returned (.bool true) ∧ Below w.heap.size w w' := by
  obtain ⟨W1, hW1⟩ : ∃ W1, W1 = w.alloc (.cells zeroBr 30) := ⟨_, rfl⟩
  have hb1 : Below w.heap.size w W1 := by rw [hW1]; exact (Below.refl _ _).alloc (Nat.le_refl _) _
  have b1 : BB W1 w.heap.size zeroBr := by rw [hW1]; exact heap_new _ _
  have HW1 := hid (show W1 = w.alloc (.cells #[.int .i64 0, .int .i64 0, .bool false, .int .i64 0, .int .i64 0, .int .i64 0, .int .i64 0, .int .i64 0, .int .i64 0, .int .i64 0, .int .i64 0, .int .i64 0, .int .i64 0, .int .i64 0, .int .i64 0, .int .i64 0, .bool false, .slice none 0 0, .slice none 0 0, .slice none 0 0, .int .u8 0, .int .i64 0, .int .i64 0, .int .i64 0, .bool false, .int .i64 0, .int .i64 0] 30) from hW1)
  have HB1 := hid hb1
  have B1 := hid b1
  have HC := hid hC
  have HL := hid hLm
  have hlW := blk_lt b1
  clear hb1 b1 hC hLm hW1
  go_enter Tryd.func11, Tryd.ntmps11
  go_wp2_with fail
  rw [← HW1.out]
  refine wp_region_cut 6 1 (fun _ => True) (by kernel_rfl) (by kernel_rfl) (by kernel_rfl) ?_
  simp only [List.take_succ_cons, List.take_zero]
  refine wpAnyH_grown (sp2 W1.drew) sp2_stays (by kernel_rfl) (by kernel_rfl) ?steps2 ?fin2 rfl
  case steps2 =>
    refine ⟨?_, ?_, ?_, ?_, ?_, ?_, trivial⟩
    · intro a' w' hB hdep hoth K hK
      have t1 := hoth 1 (notDst_at (by kernel_rfl))
      have hld := (B1.out.below (below_drewN (Below.refl _ _) 1) hlW).below hB hlW
      have hld := BB.load hld (brT_bc _ _ _ _ _)
      simp only [List.getElem?_toArray, List.getElem?_cons_succ, List.getElem?_cons_zero] at t1
      clear hdep hoth
      go_simp
      exact hK _ _ (Below.refl _ _) rfl
    · intro a' w' hB hdep hoth K hK
      clear hdep hoth
      go_simp
      refine (rec_any 1 none 0 0 w').mono ?_
      rintro e w'' ⟨rfl, hb⟩
      exact hK _ _ hb ⟨_, rfl, row_nil _⟩
    · intro a' w' hB hdep hoth K hK
      clear hdep hoth
      go_simp
      refine (rec_any 1 none 0 0 w').mono ?_
      rintro e w'' ⟨rfl, hb⟩
      exact hK _ _ hb ⟨_, rfl, row_nil _⟩
    · intro a' w' hB hdep hoth K hK
      obtain ⟨v0, g0, s0, e0, r0⟩ := hdep ⟨1, .data⟩ (by simp) rfl
      have g0 := g0 6 rfl (by simp)
      have R0 := hid r0
      obtain ⟨a0, c0, rfl, _⟩ := RowOf.open r0
      rw [e0, recV] at g0
      obtain ⟨v1, g1, s1, e1, r1⟩ := hdep ⟨2, .data⟩ (by simp) rfl
      have g1 := g1 7 rfl (by simp)
      have R1 := hid r1
      obtain ⟨a1, c1, rfl, _⟩ := RowOf.open r1
      rw [e1, recV] at g1
      clear hdep hoth r0 e0 r1 e1
      go_simp
      have hbn : Below w'.heap.size w' (w'.alloc (.cells #[.int .u8 1, .slice a0 0 c0, .int .u8 1, .slice a1 0 c1] 37)) := (Below.refl _ _).alloc (Nat.le_refl _) _
      refine hK _ _ hbn ⟨[⟨1, .slice a0 0 c0, []⟩, ⟨1, .slice a1 0 c1, []⟩], rfl, row_blk (α := RecE) (k := 2) (enc := encR) (l := [⟨1, .slice a0 0 c0, []⟩, ⟨1, .slice a1 0 c1, []⟩]) (fun _ => rfl) (heap_new w' _) (show 0 < 2 by decide) (show 2 ≤ maxLen by decide), ?_⟩
      simp only [List.mem_cons, List.not_mem_nil, or_false, forall_eq_or_imp, forall_eq]
      exact ⟨RowOf.below R0.out hbn, RowOf.below R1.out hbn⟩
    · intro a' w' hB hdep hoth K hK
      obtain ⟨v0, g0, e0⟩ := hdep ⟨0, .data⟩ (by simp) rfl
      have g0 := g0 5 rfl (by simp)
      obtain rfl : v0 = _ := e0
      have hbw : Below w.heap.size w w' := HB1.out.trans ((below_drewN (Below.refl _ _) 1).trans hB |>.mono HB1.out.size)
      have hbz : W1.drew.heap.size ≤ w'.heap.size := hB.size
      obtain ⟨v3, g3, R, hRk, hrow, hrs⟩ := hdep ⟨3, .data⟩ (by simp) rfl
      have g3 := g3 8 rfl (by simp)
      have HA := hid (all_any noB.f noB.g (.slice none 0 0) (.slice none 0 0) (.slice none 0 0) [] [] [] v3 R 0 w' (row_nil _) (row_nil _) (row_nil _) (by decide) noB_fine (by have := congrArg List.length hRk; simp at this; omega) hrow (fun r hr => ⟨hrs r hr, keys_short hRk (by decide) r hr⟩) (HC.out.below hbw) (HL.out.below hbw))
      have hap := applyKs_of noB R
      rw [hRk] at hap
      have HAP := hid hap
      clear hdep hoth hbw hrow hrs hRk hap
      go_simp
      refine HA.out.mono ?_
      rintro e w'' ⟨v, rfl, he, hb⟩
      refine hK v _ hb ?_
      show BrEnd _ _ v w''
      rw [← HAP.out]
      exact he.base hbz
    · intro a' w' hB hdep hoth K hK
      have hbz : W1.drew.heap.size ≤ w'.heap.size := hB.size
      clear hdep hoth
      go_simp
      exact hK _ _ ((Below.refl _ _).alloc (Nat.le_refl _) _) ⟨w'.heap.size, rfl, hbz, heap_new w' _⟩
  case fin2 =>
    intro vs w' hB hs
    have e4 := hs 4 (by decide)
    obtain ⟨T2, e5, hT, hz⟩ := hs 5 (by decide)
    clear hs
    refine cutQ_held (fun _ => True) (fun f => ?_)
    simp only [actOf, dstAt, if_true, List.getElem?_toArray, List.getElem?_cons_succ, List.getElem?_cons_zero, Option.bind_some, Act.put, List.setIfInBounds_toArray, List.set_cons_zero, List.set_cons_succ, List.length_cons, List.length_nil, Nat.reduceAdd]
    obtain ⟨m2, i2, k2, e4, q1, q2, q3⟩ := e4
    rw [e4, e5]
    have Q1 := hid q1
    obtain ⟨am, cm, rfl, _⟩ := q1
    obtain ⟨ai, ni, ci, rfl⟩ := q2.shape
    obtain ⟨ak, nk, ck, rfl⟩ := q3.shape
    obtain ⟨C2, hC2⟩ : ∃ B, applyKs noB [(1, []), (1, [])] = B := ⟨_, rfl⟩
    rw [hC2] at q2 q3 Q1 ⊢
    have hst : (storeVar 30 ⟨T2, 0, none⟩ (.agg (brT C2.f C2.g (.slice am C2.M.length cm) (.slice ai ni ci) (.slice ak nk ck)))).run Tryd.prog w' = .ok () (w'.setRow T2 (brT C2.f C2.g (.slice am C2.M.length cm) (.slice ai ni ci) (.slice ak nk ck))) :=
      run_storeVar_row w' T2 30 30 _ _ hz (brain_size (brT_bc _ _ _ _ _)) rfl (by simp [brT, Value.oneCell'])
    refine wpAnyH_ready (rs := [6]) (by kernel_rfl) (by simp) ?_
    refine AllReadyH.cons rfl (fun K hK => ?_) AllReadyH.nil
    go_simp
    refine hK.out _ _ trivial (fun _ => ?_)
    clear hK K
    refine wpAnyH_done (by kernel_rfl) ?_ _
    obtain ⟨X2, hX⟩ : ∃ X, X = w'.setRow T2 (brT C2.f C2.g (.slice am C2.M.length cm) (.slice ai ni ci) (.slice ak nk ck)) := ⟨_, rfl⟩
    rw [← hX]
    have hB0 : Below W1.heap.size W1 w' := (below_drewN (Below.refl _ _) 1).trans hB
    have hT : W1.heap.size ≤ T2 := hT
    have V2 := hid (show BrVar w X2 T2 C2 by rw [hX]; exact BrVar.store hz Q1.out q2 q3 HB1.out.size)
    have BX2 := hid (show BB X2 w.heap.size zeroBr by rw [hX]; exact (setRow_other w' T2 w.heap.size _ (by omega)).trans (B1.out.below hB0 hlW))
    have HX2 := hid (show Below w.heap.size w X2 by rw [hX]; exact below_setRow (HB1.out.trans (hB0.mono HB1.out.size)) (by have := HB1.out.size; omega) _)
    have hl2 := blk_lt BX2.out
    clear hX hB hB0 hT hz q2 q3 e4 e5 hst
    go_wp2_with fail
    refine wp_region_cut 5 1 (fun _ => True) (by kernel_rfl) (by kernel_rfl) (by kernel_rfl) ?_
    simp only [List.take_succ_cons, List.take_zero]
    refine wpAnyH_grown (sp3 X2.drew) sp3_stays (by kernel_rfl) (by kernel_rfl) ?steps3 ?fin3 rfl
    case steps3 =>
      refine ⟨?_, ?_, ?_, ?_, ?_, trivial⟩
      · intro a' w' hB hdep hoth K hK
        have t1 := hoth 1 (notDst_at (by kernel_rfl))
        have hld := (BX2.out.below (below_drewN (Below.refl _ _) 1) hl2).below hB hl2
        have hld := BB.load hld (brT_bc _ _ _ _ _)
        simp only [List.getElem?_toArray, List.getElem?_cons_succ, List.getElem?_cons_zero] at t1
        clear hdep hoth
        go_simp
        exact hK _ _ (Below.refl _ _) rfl
      · intro a' w' hB hdep hoth K hK
        clear hdep hoth
        go_simp
        exact hK _ _ ((Below.refl _ _).alloc (Nat.le_refl _) _) (IntsIs.new [1, 0, 0] w' (by decide) (by decide))
      · intro a' w' hB hdep hoth K hK
        obtain ⟨v1, g1, e1⟩ := hdep ⟨1, .data⟩ (by simp) rfl
        have g1 := g1 11 rfl (by simp)
        have e1 : IntsIs w' [1, 0, 0] v1 := e1
        have E1 := hid e1
        obtain ⟨a1, c1, rfl, _⟩ := RowOf.open e1
        clear hdep hoth
        go_simp
        refine (rec_any 3 a1 _ c1 w').mono ?_
        rintro e w'' ⟨rfl, hb⟩
        exact hK _ _ hb ⟨_, rfl, RowOf.below E1.out hb⟩
      · intro a' w' hB hdep hoth K hK
        obtain ⟨v0, g0, e0⟩ := hdep ⟨0, .data⟩ (by simp) rfl
        have g0 := g0 10 rfl (by simp)
        obtain rfl : v0 = _ := e0
        have hbw : Below w.heap.size w w' := HX2.out.trans ((below_drewN (Below.refl _ _) 1).trans hB |>.mono HX2.out.size)
        have hbz : X2.drew.heap.size ≤ w'.heap.size := hB.size
        obtain ⟨v3, g3, s3, e3, r3⟩ := hdep ⟨2, .data⟩ (by simp) rfl
        have g3 := g3 12 rfl (by simp)
        have HA := hid (applyE_any noB.f noB.g (.slice none 0 0) (.slice none 0 0) (.slice none 0 0) [] [] [] 3 s3 [1, 0, 0] 0 w' (row_nil _) (row_nil _) (row_nil _) (by decide) noB_fine (by decide) r3 (by decide) (HC.out.below hbw) (HL.out.below hbw))
        rw [e3] at g3
        unfold recV at g3 HA
        clear hdep hoth hbw r3 e3
        go_simp
        refine HA.out.mono ?_
        rintro e w'' ⟨v, rfl, he, hb⟩
        exact hK v _ hb (he.base hbz)
      · intro a' w' hB hdep hoth K hK
        have hbz : X2.drew.heap.size ≤ w'.heap.size := hB.size
        clear hdep hoth
        go_simp
        exact hK _ _ ((Below.refl _ _).alloc (Nat.le_refl _) _) ⟨w'.heap.size, rfl, hbz, heap_new w' _⟩
    case fin3 =>
      intro vs w' hB hs
      have e4 := hs 3 (by decide)
      obtain ⟨T3, e5, hT, hz⟩ := hs 4 (by decide)
      clear hs
      refine cutQ_held (fun _ => True) (fun f => ?_)
      simp only [actOf, dstAt, if_true, List.getElem?_toArray, List.getElem?_cons_succ, List.getElem?_cons_zero, Option.bind_some, Act.put, List.setIfInBounds_toArray, List.set_cons_zero, List.set_cons_succ, List.length_cons, List.length_nil, Nat.reduceAdd]
      obtain ⟨m2, i2, k2, e4, q1, q2, q3⟩ := e4
      rw [e4, e5]
      have Q1 := hid q1
      obtain ⟨am, cm, rfl, _⟩ := q1
      obtain ⟨ai, ni, ci, rfl⟩ := q2.shape
      obtain ⟨ak, nk, ck, rfl⟩ := q3.shape
      obtain ⟨C3, hC3⟩ : ∃ B, applyKs noB [(3, [1, 0, 0])] = B := ⟨_, rfl⟩
      rw [hC3] at q2 q3 Q1 ⊢
      have hst : (storeVar 30 ⟨T3, 0, none⟩ (.agg (brT C3.f C3.g (.slice am C3.M.length cm) (.slice ai ni ci) (.slice ak nk ck)))).run Tryd.prog w' = .ok () (w'.setRow T3 (brT C3.f C3.g (.slice am C3.M.length cm) (.slice ai ni ci) (.slice ak nk ck))) :=
        run_storeVar_row w' T3 30 30 _ _ hz (brain_size (brT_bc _ _ _ _ _)) rfl (by simp [brT, Value.oneCell'])
      refine wpAnyH_ready (rs := [5]) (by kernel_rfl) (by simp) ?_
      refine AllReadyH.cons rfl (fun K hK => ?_) AllReadyH.nil
      go_simp
      refine hK.out _ _ trivial (fun _ => ?_)
      clear hK K
      refine wpAnyH_done (by kernel_rfl) ?_ _
      obtain ⟨X3, hX⟩ : ∃ X, X = w'.setRow T3 (brT C3.f C3.g (.slice am C3.M.length cm) (.slice ai ni ci) (.slice ak nk ck)) := ⟨_, rfl⟩
      rw [← hX]
      have hB0 : Below X2.heap.size X2 w' := (below_drewN (Below.refl _ _) 1).trans hB
      have hT : X2.heap.size ≤ T3 := hT
      have V3 := hid (show BrVar w X3 T3 C3 by rw [hX]; exact BrVar.store hz Q1.out q2 q3 HX2.out.size)
      have V2 := hid (show BrVar w X3 T2 C2 by rw [hX]; exact (V2.out.below hB0).row hz (by have := V2.out.lt; omega) _)
      have BX3 := hid (show BB X3 w.heap.size zeroBr by rw [hX]; exact (setRow_other w' T3 w.heap.size _ (by omega)).trans (BX2.out.below hB0 hl2))
      have HX3 := hid (show Below w.heap.size w X3 by rw [hX]; exact below_setRow (HX2.out.trans (hB0.mono HX2.out.size)) (by have := HX2.out.size; omega) _)
      have hl3 := blk_lt BX3.out
      clear hX hB hB0 hT hz q2 q3 e4 e5 hst
      go_wp2_with fail
      refine wp_region_cut 15 1 (fun _ => True) (by kernel_rfl) (by kernel_rfl) (by kernel_rfl) ?_
      simp only [List.take_succ_cons, List.take_zero]
      refine wpAnyH_grown (sp4 X3.drew) sp4_stays (by kernel_rfl) (by kernel_rfl) ?steps4 ?fin4 rfl
      case steps4 =>
        refine ⟨?_, ?_, ?_, ?_, ?_, ?_, ?_, ?_, ?_, ?_, ?_, ?_, ?_, ?_, ?_, trivial⟩
        · intro a' w' hB hdep hoth K hK
          have t1 := hoth 1 (notDst_at (by kernel_rfl))
          have hld := (BX3.out.below (below_drewN (Below.refl _ _) 1) hl3).below hB hl3
          have hld := BB.load hld (brT_bc _ _ _ _ _)
          simp only [List.getElem?_toArray, List.getElem?_cons_succ, List.getElem?_cons_zero] at t1
          clear hdep hoth
          go_simp
          exact hK _ _ (Below.refl _ _) rfl
        · intro a' w' hB hdep hoth K hK
          clear hdep hoth
          go_simp
          refine (group13_any w').mono ?_
          rintro e w'' ⟨b, rfl, hq, hb⟩
          exact hK _ _ hb ⟨_, rfl, rowG_at hq⟩
        · intro a' w' hB hdep hoth K hK
          clear hdep hoth
          go_simp
          exact hK _ _ ((Below.refl _ _).alloc (Nat.le_refl _) _) (IntsIs.new [4, 1, 0] w' (by decide) (by decide))
        · intro a' w' hB hdep hoth K hK
          obtain ⟨v1, g1, e1⟩ := hdep ⟨2, .data⟩ (by simp) rfl
          have g1 := g1 16 rfl (by simp)
          have e1 : IntsIs w' [4, 1, 0] v1 := e1
          have E1 := hid e1
          obtain ⟨a1, c1, rfl, _⟩ := RowOf.open e1
          clear hdep hoth
          go_simp
          refine (rec_any 3 a1 _ c1 w').mono ?_
          rintro e w'' ⟨rfl, hb⟩
          exact hK _ _ hb ⟨_, rfl, RowOf.below E1.out hb⟩
        · intro a' w' hB hdep hoth K hK
          clear hdep hoth
          go_simp
          exact hK _ _ ((Below.refl _ _).alloc (Nat.le_refl _) _) (IntsIs.new [1, 7, 30] w' (by decide) (by decide))
        · intro a' w' hB hdep hoth K hK
          obtain ⟨v1, g1, e1⟩ := hdep ⟨4, .data⟩ (by simp) rfl
          have g1 := g1 18 rfl (by simp)
          have e1 : IntsIs w' [1, 7, 30] v1 := e1
          have E1 := hid e1
          obtain ⟨a1, c1, rfl, _⟩ := RowOf.open e1
          clear hdep hoth
          go_simp
          refine (rec_any 4 a1 _ c1 w').mono ?_
          rintro e w'' ⟨rfl, hb⟩
          exact hK _ _ hb ⟨_, rfl, RowOf.below E1.out hb⟩
        · intro a' w' hB hdep hoth K hK
          clear hdep hoth
          go_simp
          exact hK _ _ ((Below.refl _ _).alloc (Nat.le_refl _) _) (IntsIs.new [7, 2, 31] w' (by decide) (by decide))
        · intro a' w' hB hdep hoth K hK
          obtain ⟨v1, g1, e1⟩ := hdep ⟨6, .data⟩ (by simp) rfl
          have g1 := g1 20 rfl (by simp)
          have e1 : IntsIs w' [7, 2, 31] v1 := e1
          have E1 := hid e1
          obtain ⟨a1, c1, rfl, _⟩ := RowOf.open e1
          clear hdep hoth
          go_simp
          refine (rec_any 6 a1 _ c1 w').mono ?_
          rintro e w'' ⟨rfl, hb⟩
          exact hK _ _ hb ⟨_, rfl, RowOf.below E1.out hb⟩
        · intro a' w' hB hdep hoth K hK
          clear hdep hoth
          go_simp
          exact hK _ _ ((Below.refl _ _).alloc (Nat.le_refl _) _) (IntsIs.new [7, 4, 32] w' (by decide) (by decide))
        · intro a' w' hB hdep hoth K hK
          obtain ⟨v1, g1, e1⟩ := hdep ⟨8, .data⟩ (by simp) rfl
          have g1 := g1 22 rfl (by simp)
          have e1 : IntsIs w' [7, 4, 32] v1 := e1
          have E1 := hid e1
          obtain ⟨a1, c1, rfl, _⟩ := RowOf.open e1
          clear hdep hoth
          go_simp
          refine (rec_any 6 a1 _ c1 w').mono ?_
          rintro e w'' ⟨rfl, hb⟩
          exact hK _ _ hb ⟨_, rfl, RowOf.below E1.out hb⟩
        · intro a' w' hB hdep hoth K hK
          clear hdep hoth
          go_simp
          exact hK _ _ ((Below.refl _ _).alloc (Nat.le_refl _) _) (IntsIs.new [3, 0, 9, 0, 33] w' (by decide) (by decide))
        · intro a' w' hB hdep hoth K hK
          obtain ⟨v1, g1, e1⟩ := hdep ⟨10, .data⟩ (by simp) rfl
          have g1 := g1 24 rfl (by simp)
          have e1 : IntsIs w' [3, 0, 9, 0, 33] v1 := e1
          have E1 := hid e1
          obtain ⟨a1, c1, rfl, _⟩ := RowOf.open e1
          clear hdep hoth
          go_simp
          refine (rec_any 8 a1 _ c1 w').mono ?_
          rintro e w'' ⟨rfl, hb⟩
          exact hK _ _ hb ⟨_, rfl, RowOf.below E1.out hb⟩
        · intro a' w' hB hdep hoth K hK
          obtain ⟨v0, g0, s0, e0, r0⟩ := hdep ⟨1, .data⟩ (by simp) rfl
          have g0 := g0 15 rfl (by simp)
          have R0 := hid r0
          obtain ⟨a0, c0, rfl, _⟩ := RowOf.open r0
          rw [e0, recV] at g0
          obtain ⟨v1, g1, s1, e1, r1⟩ := hdep ⟨3, .data⟩ (by simp) rfl
          have g1 := g1 17 rfl (by simp)
          have R1 := hid r1
          obtain ⟨a1, c1, rfl, _⟩ := RowOf.open r1
          rw [e1, recV] at g1
          obtain ⟨v2, g2, s2, e2, r2⟩ := hdep ⟨5, .data⟩ (by simp) rfl
          have g2 := g2 19 rfl (by simp)
          have R2 := hid r2
          obtain ⟨a2, c2, rfl, _⟩ := RowOf.open r2
          rw [e2, recV] at g2
          obtain ⟨v3, g3, s3, e3, r3⟩ := hdep ⟨7, .data⟩ (by simp) rfl
          have g3 := g3 21 rfl (by simp)
          have R3 := hid r3
          obtain ⟨a3, c3, rfl, _⟩ := RowOf.open r3
          rw [e3, recV] at g3
          obtain ⟨v4, g4, s4, e4, r4⟩ := hdep ⟨9, .data⟩ (by simp) rfl
          have g4 := g4 23 rfl (by simp)
          have R4 := hid r4
          obtain ⟨a4, c4, rfl, _⟩ := RowOf.open r4
          rw [e4, recV] at g4
          obtain ⟨v5, g5, s5, e5, r5⟩ := hdep ⟨11, .data⟩ (by simp) rfl
          have g5 := g5 25 rfl (by simp)
          have R5 := hid r5
          obtain ⟨a5, c5, rfl, _⟩ := RowOf.open r5
          rw [e5, recV] at g5
          clear hdep hoth r0 e0 r1 e1 r2 e2 r3 e3 r4 e4 r5 e5
          go_simp
          have hbn : Below w'.heap.size w' (w'.alloc (.cells #[.int .u8 2, .slice a0 rowG.length c0, .int .u8 3, .slice a1 3 c1, .int .u8 4, .slice a2 3 c2, .int .u8 6, .slice a3 3 c3, .int .u8 6, .slice a4 3 c4, .int .u8 8, .slice a5 5 c5] 37)) := (Below.refl _ _).alloc (Nat.le_refl _) _
          refine hK _ _ hbn ⟨[⟨2, .slice a0 rowG.length c0, rowG⟩, ⟨3, .slice a1 3 c1, [4, 1, 0]⟩, ⟨4, .slice a2 3 c2, [1, 7, 30]⟩, ⟨6, .slice a3 3 c3, [7, 2, 31]⟩, ⟨6, .slice a4 3 c4, [7, 4, 32]⟩, ⟨8, .slice a5 5 c5, [3, 0, 9, 0, 33]⟩], rfl, row_blk (α := RecE) (k := 2) (enc := encR) (l := [⟨2, .slice a0 rowG.length c0, rowG⟩, ⟨3, .slice a1 3 c1, [4, 1, 0]⟩, ⟨4, .slice a2 3 c2, [1, 7, 30]⟩, ⟨6, .slice a3 3 c3, [7, 2, 31]⟩, ⟨6, .slice a4 3 c4, [7, 4, 32]⟩, ⟨8, .slice a5 5 c5, [3, 0, 9, 0, 33]⟩]) (fun _ => rfl) (heap_new w' _) (show 0 < 6 by decide) (show 6 ≤ maxLen by decide), ?_⟩
          simp only [List.mem_cons, List.not_mem_nil, or_false, forall_eq_or_imp, forall_eq]
          exact ⟨RowOf.below R0.out hbn, RowOf.below R1.out hbn, RowOf.below R2.out hbn, RowOf.below R3.out hbn, RowOf.below R4.out hbn, RowOf.below R5.out hbn⟩
        · intro a' w' hB hdep hoth K hK
          obtain ⟨v0, g0, e0⟩ := hdep ⟨0, .data⟩ (by simp) rfl
          have g0 := g0 14 rfl (by simp)
          obtain rfl : v0 = _ := e0
          have hbw : Below w.heap.size w w' := HX3.out.trans ((below_drewN (Below.refl _ _) 1).trans hB |>.mono HX3.out.size)
          have hbz : X3.drew.heap.size ≤ w'.heap.size := hB.size
          obtain ⟨v3, g3, R, hRk, hrow, hrs⟩ := hdep ⟨12, .data⟩ (by simp) rfl
          have g3 := g3 26 rfl (by simp)
          have HA := hid (all_any noB.f noB.g (.slice none 0 0) (.slice none 0 0) (.slice none 0 0) [] [] [] v3 R 0 w' (row_nil _) (row_nil _) (row_nil _) (by decide) noB_fine (by have := congrArg List.length hRk; simp at this; omega) hrow (fun r hr => ⟨hrs r hr, keys_short hRk (by decide) r hr⟩) (HC.out.below hbw) (HL.out.below hbw))
          have hap := applyKs_of noB R
          rw [hRk] at hap
          have HAP := hid hap
          clear hdep hoth hbw hrow hrs hRk hap
          go_simp
          refine HA.out.mono ?_
          rintro e w'' ⟨v, rfl, he, hb⟩
          refine hK v _ hb ?_
          show BrEnd _ _ v w''
          rw [← HAP.out]
          exact he.base hbz
        · intro a' w' hB hdep hoth K hK
          have hbz : X3.drew.heap.size ≤ w'.heap.size := hB.size
          clear hdep hoth
          go_simp
          exact hK _ _ ((Below.refl _ _).alloc (Nat.le_refl _) _) ⟨w'.heap.size, rfl, hbz, heap_new w' _⟩
      case fin4 =>
        intro vs w' hB hs
        have e4 := hs 13 (by decide)
        obtain ⟨T4, e5, hT, hz⟩ := hs 14 (by decide)
        clear hs
        refine cutQ_held (fun _ => True) (fun f => ?_)
        simp only [actOf, dstAt, if_true, List.getElem?_toArray, List.getElem?_cons_succ, List.getElem?_cons_zero, Option.bind_some, Act.put, List.setIfInBounds_toArray, List.set_cons_zero, List.set_cons_succ, List.length_cons, List.length_nil, Nat.reduceAdd]
        obtain ⟨m2, i2, k2, e4, q1, q2, q3⟩ := e4
        rw [e4, e5]
        have Q1 := hid q1
        obtain ⟨am, cm, rfl, _⟩ := q1
        obtain ⟨ai, ni, ci, rfl⟩ := q2.shape
        obtain ⟨ak, nk, ck, rfl⟩ := q3.shape
        obtain ⟨C4, hC4⟩ : ∃ B, applyKs noB [(2, rowG), (3, [4, 1, 0]), (4, [1, 7, 30]), (6, [7, 2, 31]), (6, [7, 4, 32]), (8, [3, 0, 9, 0, 33])] = B := ⟨_, rfl⟩
        rw [hC4] at q2 q3 Q1 ⊢
        have hst : (storeVar 30 ⟨T4, 0, none⟩ (.agg (brT C4.f C4.g (.slice am C4.M.length cm) (.slice ai ni ci) (.slice ak nk ck)))).run Tryd.prog w' = .ok () (w'.setRow T4 (brT C4.f C4.g (.slice am C4.M.length cm) (.slice ai ni ci) (.slice ak nk ck))) :=
          run_storeVar_row w' T4 30 30 _ _ hz (brain_size (brT_bc _ _ _ _ _)) rfl (by simp [brT, Value.oneCell'])
        refine wpAnyH_ready (rs := [15]) (by kernel_rfl) (by simp) ?_
        refine AllReadyH.cons rfl (fun K hK => ?_) AllReadyH.nil
        go_simp
        refine hK.out _ _ trivial (fun _ => ?_)
        clear hK K
        refine wpAnyH_done (by kernel_rfl) ?_ _
        obtain ⟨X4, hX⟩ : ∃ X, X = w'.setRow T4 (brT C4.f C4.g (.slice am C4.M.length cm) (.slice ai ni ci) (.slice ak nk ck)) := ⟨_, rfl⟩
        rw [← hX]
        have hB0 : Below X3.heap.size X3 w' := (below_drewN (Below.refl _ _) 1).trans hB
        have hT : X3.heap.size ≤ T4 := hT
        have V4 := hid (show BrVar w X4 T4 C4 by rw [hX]; exact BrVar.store hz Q1.out q2 q3 HX3.out.size)
        have V2 := hid (show BrVar w X4 T2 C2 by rw [hX]; exact (V2.out.below hB0).row hz (by have := V2.out.lt; omega) _)
        have V3 := hid (show BrVar w X4 T3 C3 by rw [hX]; exact (V3.out.below hB0).row hz (by have := V3.out.lt; omega) _)
        have BX4 := hid (show BB X4 w.heap.size zeroBr by rw [hX]; exact (setRow_other w' T4 w.heap.size _ (by omega)).trans (BX3.out.below hB0 hl3))
        have HX4 := hid (show Below w.heap.size w X4 by rw [hX]; exact below_setRow (HX3.out.trans (hB0.mono HX3.out.size)) (by have := HX3.out.size; omega) _)
        have hl4 := blk_lt BX4.out
        clear hX hB hB0 hT hz q2 q3 e4 e5 hst
        have d0 : C2.f 0 = 2 := by rw [← hC2]; kernel_rfl
        have d3 : C3.I = [] := by rw [← hC3]; kernel_rfl
        have d4 : C4.I = [] := by rw [← hC4]; kernel_rfl
        have d1 : C4.f 1 = 1 := by rw [← hC4]; kernel_rfl
        have d2 : C4.g 2 = true := by rw [← hC4]; kernel_rfl
        have dK : C4.K = [⟨3, 0, 9, 0, 8, 33, false, false⟩, ⟨7, 1, 4, 1, 2, 31, false, false⟩] := by rw [← hC4]; kernel_rfl
        have dR : rightB C4 = true := by rw [← hC4]; kernel_rfl
        have dF : idxL C4.K (fun x => x.id == 7) = 1 := by rw [dK]; rfl
        have dT : idxL C4.I (fun x => x.token == 1) = -1 := by rw [d4]; rfl
        have HE4 := hid HX4.out
        obtain ⟨mv2, iv2, kv2, n2, _, _, _⟩ := V2.out
        obtain ⟨mv3, iv3, kv3, n3, _, o3, _⟩ := V3.out
        obtain ⟨mv4, iv4, kv4, n4, p4, o4, r4⟩ := V4.out
        have x2 : X4.cell? ⟨T2, 0, none⟩ = some (.int .i64 (C2.f 0)) := blk_cell n2 0
        rw [d0] at x2
        have x3 : X4.cell? ⟨T3, 18, none⟩ = some iv3 := blk_cell n3 18
        have w3 := Owns.row o3 encIn_len (by decide)
        rw [d3] at w3
        obtain ⟨a3, c3, rfl, _⟩ := w3.open
        have y1 : X4.cell? ⟨T4, 1, none⟩ = some (.int .i64 (C4.f 1)) := blk_cell n4 1
        rw [d1] at y1
        have y2 : X4.cell? ⟨T4, 2, none⟩ = some (.bool (C4.g 2)) := blk_cell n4 2
        rw [d2] at y2
        have y18 : X4.cell? ⟨T4, 18, none⟩ = some iv4 := blk_cell n4 18
        have y19 : X4.cell? ⟨T4, 19, none⟩ = some kv4 := blk_cell n4 19
        have HRI := hid (Owns.row o4 encIn_len (by decide))
        have HRK := hid (Owns.row r4 encKp_len (by decide))
        have HRM := hid p4.row
        have HN4 := hid n4
        have l2 := blk_lt n2
        have l3 := blk_lt n3
        have l4 := blk_lt n4
        have w4 := HRI.out
        rw [d4] at w4
        obtain ⟨a4, c4, rfl, _⟩ := w4.open
        have u4 := HRK.out
        rw [dK] at u4
        obtain ⟨ak, ck, rfl, e1, e2, e3, hop⟩ := u4.open
        obtain ⟨bk, ok, rfl, hbk, hrow⟩ := hop (by decide)
        obtain ⟨g0, g1, g2, g3, g4, g5, g6, g7⟩ := rowK hrow (i := 0) rfl
        obtain ⟨h0, h1, h2, h3, h4, h5, h6, h7⟩ := rowK hrow (i := 1) rfl
        simp only [Nat.zero_mul, Nat.one_mul, Nat.add_zero] at g0 g1 g2 g3 g4 g5 g6 g7 h0 h1 h2 h3 h4 h5 h6 h7
        have hld := n4.load (brT_bc _ _ _ _ _)
        have heq : ∀ W, (Op.equal 43 (.agg #[.int .i64 7, .int .i64 1, .int .i64 4, .int .i64 1, .int .u8 2, .int .i64 31, .bool false, .bool false]) (.agg #[.int .i64 7, .int .i64 1, .int .i64 4, .int .i64 1, .int .u8 2, .int .i64 31, .bool false, .bool false])).run Tryd.prog W = .ok true W := fun W => by kernel_rfl
        have D4 := hid d4
        have DK := hid dK
        have DR := hid dR
        have DF := hid dF
        have DT := hid dT
        clear dF dT dR dK d4 d0 d1 d2 d3 n2 n3 n4 p4 o3 o4 r4 w3 w4 u4 hop hrow e1 e2 e3 hC2 hC3 hC4
        simp only [List.length_nil, List.length_cons, Nat.reduceAdd] at x3 y18 y19
        go_wp2_with fail
        have hfd := bfind_any _ _ _ (brT_bc C4.f C4.g mv4 (.slice a4 0 c4) (.slice (some ⟨bk, ok, none⟩) 2 ck)) C4.K 7 X4 HRK.out (by rw [DK.out]; decide)
        rw [DF.out] at hfd
        refine hfd.mono ?_
        rintro e Z1 ⟨rfl, hz1⟩
        have HZ1 := hid hz1
        have hld := (HN4.out.below hz1 l4).load (brT_bc _ _ _ _ _)
        have htd := btoken_any _ _ _ (brT_bc C4.f C4.g mv4 (.slice a4 0 c4) (.slice (some ⟨bk, ok, none⟩) 2 ck)) C4.I 1 Z1 (HRI.out.below hz1) (by rw [D4.out]; decide)
        rw [DT.out] at htd
        have HTD := hid htd
        clear hfd hz1 htd
        go_wp2_with fail
        refine HTD.out.mono ?_
        rintro e Z2 ⟨rfl, hz2⟩
        have HZ2 := hid (HZ1.out.trans (hz2.mono HZ1.out.size))
        have hld := (HN4.out.below HZ2.out l4).load (brT_bc _ _ _ _ _)
        have hrd := right_any C4 mv4 (.slice a4 0 c4) (.slice (some ⟨bk, ok, none⟩) 2 ck) Z2 (HRM.out.below HZ2.out) (HRI.out.below HZ2.out) (HRK.out.below HZ2.out) (by rw [D4.out]; decide) (by rw [DK.out]; decide) (HL.out.below (HE4.out.trans (HZ2.out.mono HE4.out.size)))
        rw [DR.out] at hrd
        have HRD := hid hrd
        clear hz2 hrd
        go_wp2_with fail
        refine HRD.out.mono ?_
        rintro e Z3 ⟨rfl, hz3⟩
        have HZ3 := hid (HE4.out.trans ((HZ2.out.trans (hz3.mono HZ2.out.size)).mono HE4.out.size))
        clear hz3
        go_wp2
        go_ret
        exact ⟨rfl, HZ3.out⟩
end Go.Proofs.YthnigndpibgibaaDoor
