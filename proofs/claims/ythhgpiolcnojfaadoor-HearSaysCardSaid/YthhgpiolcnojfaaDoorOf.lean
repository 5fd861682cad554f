
/- Of tells a brain's duties. -/
import Derived.Test.YthhgpiolcnojfaaDoorDt
namespace Go.Proofs.YthhgpiolcnojfaaDoor
open Go.RowKit Go.Shelf
attribute [local go_sem] Oper.semAt_some

set_option maxHeartbeats 1000000 in
theorem duties_any (cs : Array Value) (w : World) :
    Calls Tryd.prog 36 #[.agg cs] w fun e w' => e = .returned (.func (.func 46) #[] #[.pointer (some ⟨w.heap.size, 0, none⟩)]) ∧ BB w' w.heap.size cs ∧ Below w.heap.size w w' ∧ w'.heap.size = w.heap.size + 1 := by
  have hmf := mkfunc
  go_enter Tryd.func36, Tryd.ntmps36
  go_wp2
  go_ret
  exact ⟨rfl, BB.new w _, (Below.refl _ _).alloc (Nat.le_refl _) _, by simp⟩

abbrev OwnD (w : World) (base : Nat) (v : Value) (l : List DutyV) : Prop := Owns 2 71 encD w base v l
theorem new_cellsD (W : World) (x : DutyV) (t : TypeId) : ∀ j u, (encD x)[j]? = some u → (W.alloc (.cells #[.int .u8 x.kind, .int .i64 x.key] t)).cell? ((⟨W.heap.size, 0, none⟩ : Addr).add j) = some u := by
  intro j u hj
  rw [show ((⟨W.heap.size, 0, none⟩ : Addr).add j) = ⟨W.heap.size, j, none⟩ by unfold Addr.add; split <;> simp_all]
  rw [blk_cell (heap_new W _)]
  simpa [encD] using hj

/-- What Of has collected. -/
def DofI (w : World) (pre : List DutyV) (W : World) : Prop :=
  (∃ v, W.heap[w.heap.size + 1]? = some (.cells #[v] 76) ∧ OwnD W (w.heap.size + 3) v pre) ∧ Below w.heap.size w W ∧ w.heap.size + 3 ≤ W.heap.size
/-- Where Of's loop variable lies. -/
def DofA (w : World) (frame : Nat → DutyV → Act) (x : DutyV) (a' : Act) (W : World) : Prop :=
  ∃ Bx, w.heap.size + 3 ≤ Bx ∧ W.heap[Bx]? = some (.cells #[.int .u8 x.kind, .int .i64 x.key] 71) ∧ a' = frame Bx x
theorem DofI.own {w : World} {B : Nat} (hB : w.heap.size ≤ B) : OwnFrom B (DofI w) := by
  rintro pre W W' row ⟨⟨v, h1, h2⟩, h3, h4⟩ hg hr
  exact ⟨⟨v, own_blk h1 hg (fun r e => (hr r e).2), h2.own hg (fun r e => (hr r e).2)⟩, h3.grown hg h3.size (fun k e => Nat.le_trans hB (hr k e).1), Nat.le_trans h4 hg.size⟩
theorem DofA.own {w : World} {frame : Nat → DutyV → Act} {B : Nat} (x : DutyV) (a' : Act) : OwnFrom B (fun (_ : Unit) W => DofA w frame x a' W) := by
  rintro _ W W' row ⟨Bx, h1, h2, h3⟩ hg hr
  exact ⟨Bx, h1, own_blk h2 hg (fun r e => (hr r e).2), h3⟩
/-- The blocks that stay while Of goes on. -/
def OfS (w : World) (k : Nat) : Prop := k < w.heap.size ∨ k = w.heap.size + 2

theorem res_slice {fn : Func} {tmps : Array Value} {r : Tmp} {t : TypeId} {b : Nat} {x : Value} {W : World} (hres : fn.results = #[.cell r 76]) (h : tmps.getD r undef = .pointer (some ⟨b, 0, none⟩)) (hb : W.heap[b]? = some (.cells #[x] t)) :
    (results fn tmps).run Tryd.prog W = .ok x W := by
  obtain ⟨k0, _, _⟩ := blk1 hb
  rw [Array.getD_eq_getD_getElem?] at h
  simp [results, hres, go_sem, h, k0]
theorem set_back {W : World} {b D : Nat} {v : Value} {t : TypeId} {o : Obj} (h : W.heap[b]? = some (.cells #[v] t)) (hD : W.heap[D]? = some o) (ho : o.isCells = false) (o' : Obj) : ((W.setCell ⟨b, 0, none⟩ v).putObj D o').heap[b]? = some (.cells #[v] t) := by
  refine blk_put (blk_set h 0 v) (hD := ?_) ho o'
  rw [Below.heap_setCell]
  · exact hD
  · intro e; simp at e; subst e; rw [h] at hD; cases hD; cases ho

theorem keptD_len : ∀ K : List KeptV, (K.flatMap keptD).length ≤ K.length
  | [] => by simp
  | x :: l => by
    have h := keptD_len l
    have h2 : (keptD x).length ≤ 1 := by unfold keptD; split <;> simp
    rw [List.flatMap_cons, List.length_append, List.length_cons]
    omega
theorem duties_len (I : List IntentV) (K : List KeptV) : (dutiesL I K).length ≤ I.length + K.length := by
  have := keptD_len K
  unfold dutiesL
  rw [List.length_append, List.length_map]
  omega

set_option maxRecDepth 100000 in
set_option maxHeartbeats 2000000 in
theorem of_any (cs : Array Value) (iv kv : Value) (hcs : BC cs iv kv) (I : List IntentV) (K : List KeptV) (w : World) (hl1 : I.length ≤ 1000) (hl2 : K.length ≤ 1000) (hwf : ∀ x ∈ K, in8 x.phase)
    (hA : Asked w) (hI : RowOf 4 encIn w iv I) (hK : RowOf 8 encKp w kv K) :
    Calls Tryd.prog 27 #[.agg cs] w fun e w' => ∃ v, e = .returned v ∧ OwnD w' w.heap.size v (dutiesL I K) ∧ Below w.heap.size w w' := by
  obtain ⟨i0, hi, hz0, hz1, hz2⟩ := info_parts infoD
  have hN := duties_len I K
  have HAA := hid hA
  have HI := hid hI
  have HK := hid hK
  have HWF := hid hwf
  clear hA hI hK hwf
  refine (callsIn_wide (n := 4)).1 ?_
  refine callsIn_of_wp_marks Tryd.func27 rfl trivial ?_ rfl
  simp only [Tryd.ntmps27, List.size_toArray, List.length_cons, List.length_nil, Nat.reduceAdd, Nat.reduceSub, Array.replicate_succ, Array.replicate_zero, List.push_toArray, List.append_toArray, List.nil_append, List.cons_append]
  obtain ⟨W1, hW1⟩ : ∃ W1, W1 = (w.alloc (.cells cs 48)).alloc (.cells #[.slice none 0 0] 76) := ⟨_, rfl⟩
  have hz1' : W1.heap.size = w.heap.size + 2 := by rw [hW1]; simp
  have hB1 : Below w.heap.size w W1 := by rw [hW1]; exact ((Below.refl _ _).alloc (Nat.le_refl _) _).alloc (by simp) _
  have r1 : W1.heap[w.heap.size + 1]? = some (.cells #[.slice none 0 0] 76) := by rw [hW1]; exact heap_new2 _ _ _
  have HW1 := hid hW1
  have HB1 := hid hB1
  have HR1 := hid r1
  have hd := duties_any cs W1
  have HD := hid hd
  have HG := hid (show BB W1 w.heap.size cs by rw [hW1]; exact (BB.new w cs).below ((Below.refl _ _).alloc (Nat.le_refl _) _) (by simp))
  have HCS := hid hcs
  clear hB1 r1 hd hcs
  gi_wp2_with (refine load_brainIn rfl rfl _ rfl w.heap.size rfl cs iv kv HCS.out (by rw [← HW1.out]; exact HG.out) ?_)
  rw [← hW1]
  clear hW1
  refine ⟨trivial, callsIn_wide.2 (HD.out.mono ?_)⟩
  rintro e W2 ⟨rfl, hbb, hb, hsz⟩
  rw [hz1'] at hbb hsz hb
  have hB2 : Below w.heap.size w W2 := HB1.out.trans (hb.mono (by omega))
  have r2 := blk_below HR1.out hb (by omega)
  have HSEQ := hid (duties_stops 3 (by omega) (w.heap.size + 2) (OfS w) cs iv kv HCS.out I K W2 (fun k hk => by rcases hk with h | h <;> omega) (by omega) (by omega) HWF.out (.inr rfl) hbb w (by omega) hB2 (fun k hk => .inl hk) HAA.out HI.out HK.out)
  have HB2 := hid hB2
  have HR2 := hid r2
  clear hbb hb hB2 r2
  gi_wp2
  refine wpIn_rangeFunc_ownH rfl (by omega) (gf := 46) (lb := #[.pointer (some ⟨w.heap.size + 2, 0, none⟩)]) rfl trivial (enters_of Tryd.func46 (by kernel_rfl) rfl) HSEQ.out
    (fun h k => h.trans k) (fun W l o o' hl _ _ _ => (On.refl _ _).putObj (fun h => by rcases h with h | h <;> omega) _) (Below.refl _ _) (fun _ => rfl)
    (DofI w) (fun _ _ _ => False) (DofI.own (by omega)) (fun _ _ _ _ _ h _ _ => h.elim) ⟨⟨_, HR2.out, Owns.nil _ _⟩, HB2.out, by omega⟩
    (DofA w (fun Bx x => { tmps := #[.agg cs, .pointer (some ⟨w.heap.size, 0, none⟩), .pointer (some ⟨w.heap.size + 1, 0, none⟩), .pointer (some ⟨Bx, 0, none⟩), .agg cs, .func (.func 46) #[] #[.pointer (some ⟨w.heap.size + 2, 0, none⟩)], encDv x, undef, undef, undef, undef, undef], defers := [] }))
    (fun x a' => DofA.own x a') ?assign ?body ?done ?stop
  case assign =>
    rintro l pre x W K ⟨⟨v, h1, h2⟩, h3, h4⟩ hK
    have HK := hid hK
    have H2 := hid h2
    clear hK h2
    simp only [encDv, itemD]
    gi_wp2
    exact HK.out _ _ ((KeepsOthers.alloc _ _).from _) ((On.refl _ _).alloc _) ⟨⟨v, blk_alloc h1 _, World.ownsRow.alloc H2.out _⟩, h3.alloc (by omega) _, by simp; omega⟩ ⟨W.heap.size, h4, heap_new _ _, rfl⟩
  case body =>
    rintro l pre x a' W hl ⟨r, hr⟩ ⟨⟨v, h1, h2⟩, h3, h4⟩ ⟨Bx, hBx, bx, rfl⟩ hlt
    obtain ⟨g0, g1, _, hb1⟩ := blk2 bx
    obtain ⟨k0, kf, hb2⟩ := blk1 h1
    have H1 := hid h1
    have H2 := hid h2
    have c1 : pre.length + 1 ≤ maxLen := by unfold maxLen; omega
    have c2 : (pre.length + 1) * 16 ≤ 140737488355328 := by omega
    clear h1 h2 bx
    simp only [encDv]
    gi_wp2_with (gi_at_builtin; refine wpListIn_append_own _ rfl _ _ 76 rfl (w.heap.size + 3) 71 i0 _ 2 16 Tryd.underlying76 hi hz0 hz1 hz2 rfl (by decide) _ pre.length _ rfl (World.ownsRow.alloc H2.out _) ⟨W.heap.size, 0, none⟩ 1 1 (encD x) rfl rfl (new_cellsD W x _) (encD_one x) c1 c2 (by simp; omega) ?_; intro v' w1 hown' hgrow _; obtain ⟨g', cap', rfl⟩ := ownsRow_succ hown'; have hq := blk_grown (blk_alloc H1.out (.cells #[.int .u8 x.kind, .int .i64 x.key] 71)) hgrow (fun e => by have := (Owns.block H2.out (w.heap.size + 1) e.symm).1; omega); have hq0 := (blk1 hq).1; have hqf := (blk1 hq).2.1; have hql := (blk1 hq).2.2; have HOWN := hid hown'; have HGR := hid hgrow; clear hown' hgrow; have HQ := hid hq; clear hq)
    have hrow : ∀ r, v.ownBlock = some r → w.heap.size + 3 ≤ r := fun r e => (Owns.block H2.out r e).1
    refine ⟨((keeps_grown H2.out HGR.out).trans (KeepsOthers.setCell _ _ _)).from _, ?_, ⟨_, blk_set HQ.out 0 _, ?_⟩, ?_, ?_⟩
    · exact (((On.refl _ _).alloc _).trans (on_grown HGR.out (fun r e h => by have := hrow r e; rcases h with h | h <;> omega))).setCell (fun h => by rcases h with h | h <;> dsimp only at h <;> omega) _
    · refine Owns.other (p := ⟨w.heap.size + 1, 0, none⟩) ?_ (by simp) _
      unfold Owns
      have := HOWN.out
      simpa [List.flatMap_append] using this
    · exact ((h3.alloc (by omega) _).grown HGR.out (by simp; omega) (fun r e => by have := hrow r e; omega)).setCell (p := ⟨w.heap.size + 1, 0, none⟩) (by simp) _
    · have := HGR.out.size
      simp [World.setCell] at this ⊢
      omega
  case done =>
    rintro D xs W hD hS ⟨⟨v, h1, h2⟩, h3, h4⟩ hK
    obtain ⟨va, vn, vc, rfl⟩ := h2.shape
    obtain ⟨k0, kf, hb2⟩ := blk1 h1
    have H1 := hid h1
    have H2 := hid h2
    have HK := hid hK
    have HS := hid hS
    clear h1 h2 hK hS
    gi_wp2
    refine ⟨by simp, .inl ⟨_, _, rfl, run_takeDeferred (by exact (Below.heap_setCell W ⟨w.heap.size + 1, 0, none⟩ _ D (by simp; omega)).trans HK.out), ?_⟩⟩
    refine ⟨_, res_slice rfl rfl (set_back H1.out HK.out rfl _), _, rfl, ?_, ?_⟩
    · rw [← HS.out]
      exact (Owns.own (Owns.other H2.out (p := ⟨w.heap.size + 1, 0, none⟩) (by simp) _) (grownBy_putObj' _ D (.deferred none)) (fun r e => by cases e; exact ⟨_, by exact (Below.heap_setCell W ⟨w.heap.size + 1, 0, none⟩ _ D (by simp; omega)).trans HK.out, rfl⟩)).mono (by omega)
    · exact below_put (h3.setCell (p := ⟨w.heap.size + 1, 0, none⟩) (by simp) _) (by omega) _
  case stop =>
    rintro D c pre W hD hpre h _
    exact h.elim
end Go.Proofs.YthhgpiolcnojfaaDoor
