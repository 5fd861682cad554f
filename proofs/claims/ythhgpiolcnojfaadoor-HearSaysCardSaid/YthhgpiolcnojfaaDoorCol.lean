
/- A part of the proofs about open calls: contracts of functions, or plain facts that they want. -/
import Derived.Test.YthhgpiolcnojfaaDoorCln
import Derived.Test.YthhgpiolcnojfaaDoorItr
namespace Go.Proofs.YthhgpiolcnojfaaDoor
open Go.RowKit Go.Shelf
attribute [local go_sem] Oper.semAt_some

theorem new_cells (W : World) (x : CallV) (t : TypeId) : ∀ j u, (encC x)[j]? = some u → (W.alloc (.cells #[.int .i64 x.id, .int .u8 x.kind, .int .i64 x.key, .int .i64 x.sent] t)).cell? ((⟨W.heap.size, 0, none⟩ : Addr).add j) = some u := by
  intro j u hj
  rw [show ((⟨W.heap.size, 0, none⟩ : Addr).add j) = ⟨W.heap.size, j, none⟩ by unfold Addr.add; split <;> simp_all]
  rw [blk_cell (heap_new W _)]
  simpa [encC] using hj

/-- What AppendSeq has collected. -/
def ColI (w : World) (pre : List CallV) (W : World) : Prop :=
  (∃ v, W.heap[w.heap.size]? = some (.cells #[v] 35) ∧ Own12 W (w.heap.size + 1) v pre) ∧ Below w.heap.size w W ∧ w.heap.size + 1 ≤ W.heap.size
theorem ColI.own {w : World} {B : Nat} (hB : w.heap.size ≤ B) : OwnFrom B (ColI w) := by
  rintro pre W W' row ⟨⟨v, h1, h2⟩, h3, h4⟩ hg hr
  exact ⟨⟨v, own_blk h1 hg (fun r e => (hr r e).2), h2.own hg (fun r e => (hr r e).2)⟩, h3.grown hg h3.size (fun k e => Nat.le_trans hB (hr k e).1), Nat.le_trans h4 hg.size⟩

/-- Where AppendSeq's loop variable lies. -/
def ColA (w : World) (frame : Nat → CallV → Act) (x : CallV) (a' : Act) (W : World) : Prop :=
  ∃ Bx, w.heap.size + 1 ≤ Bx ∧ W.heap[Bx]? = some (.cells #[.int .i64 x.id, .int .u8 x.kind, .int .i64 x.key, .int .i64 x.sent] 23) ∧ a' = frame Bx x
theorem ColA.own {w : World} {frame : Nat → CallV → Act} {B : Nat} (x : CallV) (a' : Act) : OwnFrom B (fun (_ : Unit) W => ColA w frame x a' W) := by
  rintro _ W W' row ⟨Bx, h1, h2, h3⟩ hg hr
  exact ⟨Bx, h1, own_blk h2 hg (fun r e => (hr r e).2), h3⟩

set_option maxRecDepth 100000 in
set_option maxHeartbeats 1000000 in
theorem appendSeq_any (gf : Nat) (lb : Array Value) (St : Nat → Prop) (S Sp : List CallV → Prop) (N : Nat) (w : World) (hN : N ≤ 1000000) (hSt : ∀ k, St k → k < w.heap.size)
    (eg : ∀ args w, (callFunc gf args).run Tryd.prog w = .ok (.enter gf args) w)
    (hseq : SeqStopsK Fence.wide 3 Tryd.prog gf lb itemC (On St) S Sp N w) :
    Calls Tryd.prog 45 #[.slice none 0 0, .func (.func gf) #[] lb] w fun e w' => ∃ v xs, e = .returned v ∧ S xs ∧ Own12 w' w.heap.size v xs ∧ Below w.heap.size w w' := by
  obtain ⟨i0, hi, hz0, hz1, hz2⟩ := info_parts infoC
  have HSEQ := hid hseq
  clear hseq
  refine (callsIn_wide (n := 4)).1 ?_
  refine callsIn_of_wp_marks Tryd.func45 rfl trivial ?_ rfl
  simp only [Tryd.ntmps45, List.size_toArray, List.length_cons, List.length_nil, Nat.reduceAdd, Nat.reduceSub, Array.replicate_succ, Array.replicate_zero, List.push_toArray, List.append_toArray, List.nil_append, List.cons_append]
  gi_wp2
  have hB1 : Below w.heap.size w (w.alloc (.cells #[.slice none 0 0] 35)) := (Below.refl _ _).alloc (Nat.le_refl _) _
  refine wpIn_rangeFunc_ownH rfl (by omega) (gf := gf) (lb := lb) rfl trivial eg HSEQ.out
    (fun h k => h.trans k) (fun W l o o' hl _ _ _ => (On.refl _ _).putObj (fun h => by have := hSt _ h; simp at hl; omega) _) hB1 (fun _ => rfl)
    (ColI w) (fun _ _ _ => False) (ColI.own (by simp)) (fun _ _ _ _ _ h _ _ => h.elim) ⟨⟨_, heap_new _ _, Owns.nil _ _⟩, hB1, by simp⟩
    (ColA w (fun Bx x => { tmps := #[.slice none 0 0, .func (.func gf) #[] lb, .pointer (some ⟨w.heap.size, 0, none⟩), undef, .slice none 0 0, .pointer (some ⟨Bx, 0, none⟩), .func (.func gf) #[] lb, encS x, undef, undef, undef, undef, undef], defers := [] }))
    (fun x a' => ColA.own x a') ?assign ?body ?done ?stop
  case assign =>
    rintro l pre x W K ⟨⟨v, h1, h2⟩, h3, h4⟩ hK
    have HK := hid hK
    have H2 := hid h2
    clear hK h2
    simp only [encS, itemC]
    gi_wp2
    exact HK.out _ _ ((KeepsOthers.alloc _ _).from _) ((On.refl _ _).alloc _) ⟨⟨v, blk_alloc h1 _, World.ownsRow.alloc H2.out _⟩, h3.alloc (by omega) _, by simp; omega⟩ ⟨W.heap.size, h4, heap_new _ _, rfl⟩
  case body =>
    rintro l pre x a' W hl ⟨r, hr⟩ ⟨⟨v, h1, h2⟩, h3, h4⟩ ⟨Bx, hBx, bx, rfl⟩ hlt
    obtain ⟨g0, g1, g2, g3, _, hb1⟩ := blk4 bx
    obtain ⟨k0, kf, hb2⟩ := blk1 h1
    have H1 := hid h1
    have H2 := hid h2
    have c1 : pre.length + 1 ≤ maxLen := by unfold maxLen; omega
    have c2 : (pre.length + 1) * 32 ≤ 140737488355328 := by omega
    clear h1 h2 bx
    simp only [encS]
    gi_wp2_with (gi_at_builtin; refine wpListIn_append_own _ rfl _ _ 35 rfl (w.heap.size + 1) 23 i0 _ 4 32 Tryd.underlying35 hi hz0 hz1 hz2 rfl (by decide) _ pre.length _ rfl (World.ownsRow.alloc H2.out _) ⟨W.heap.size, 0, none⟩ 1 1 (encC x) rfl rfl (new_cells W x _) (encC_one x) c1 c2 (by simp; omega) ?_; intro v' w1 hown' hgrow _; obtain ⟨g', cap', rfl⟩ := ownsRow_succ hown'; have hq := blk_grown (blk_alloc H1.out (.cells #[.int .i64 x.id, .int .u8 x.kind, .int .i64 x.key, .int .i64 x.sent] 23)) hgrow (fun e => by have := (Owns.block H2.out w.heap.size e.symm).1; omega); have hq0 := (blk1 hq).1; have hqf := (blk1 hq).2.1; have hql := (blk1 hq).2.2; have HOWN := hid hown'; have HGR := hid hgrow; clear hown' hgrow; have HQ := hid hq; clear hq)
    have hrow : ∀ r, v.ownBlock = some r → w.heap.size + 1 ≤ r := fun r e => (Owns.block H2.out r e).1
    refine ⟨((keeps_grown H2.out HGR.out).trans (KeepsOthers.setCell _ _ _)).from _, ?_, ⟨_, blk_set HQ.out 0 _, ?_⟩, ?_, ?_⟩
    · exact (((On.refl _ _).alloc _).trans (on_grown HGR.out (fun r e h => by have := hSt r h; have := hrow r e; omega))).setCell (fun h => by have := hSt _ h; simp at this) _
    · refine Owns.other (p := ⟨w.heap.size, 0, none⟩) ?_ (by simp) _
      unfold Owns
      have := HOWN.out
      simpa [List.flatMap_append] using this
    · exact ((h3.alloc (by omega) _).grown HGR.out (by simp; omega) (fun r e => by have := hrow r e; omega)).setCell (p := ⟨w.heap.size, 0, none⟩) (Nat.le_refl _) _
    · have := HGR.out.size
      simp [World.setCell] at this ⊢
      omega
  case done =>
    rintro D xs W hD hS ⟨⟨v, h1, h2⟩, h3, h4⟩ hK
    obtain ⟨k0, kf, hb2⟩ := blk1 h1
    have H1 := hid h1
    have H2 := hid h2
    have HK := hid hK
    have HS := hid hS
    clear h1 h2 hK hS
    gi_wp2
    refine ⟨by simp, .inl ⟨_, _, rfl, run_takeDeferred HK.out, ?_⟩⟩
    refine ⟨_, results_tmp rfl _ _ _, v, xs, rfl, HS.out, ?_, below_put h3 (by simp at hD; omega) _⟩
    exact (Owns.own H2.out (grownBy_putObj' W D (.deferred none)) (fun r e => by cases e; exact ⟨_, HK.out, rfl⟩)).mono (by omega)
  case stop =>
    rintro D c pre W hD hpre h _
    exact h.elim

set_option maxHeartbeats 1000000 in
theorem collect_any (gf : Nat) (lb : Array Value) (St : Nat → Prop) (S Sp : List CallV → Prop) (N : Nat) (w : World) (hN : N ≤ 1000000) (hSt : ∀ k, St k → k < w.heap.size)
    (eg : ∀ args w, (callFunc gf args).run Tryd.prog w = .ok (.enter gf args) w)
    (hseq : SeqStopsK Fence.wide 3 Tryd.prog gf lb itemC (On St) S Sp N w) :
    Calls Tryd.prog 34 #[.func (.func gf) #[] lb] w fun e w' => ∃ v xs, e = .returned v ∧ S xs ∧ Own12 w' w.heap.size v xs ∧ Below w.heap.size w w' := by
  have HC := hid (appendSeq_any gf lb St S Sp N w hN hSt eg hseq)
  clear hseq
  go_enter Tryd.func34, Tryd.ntmps34
  go_wp2_with fail
  refine HC.out.mono ?_
  rintro e w1 ⟨v, xs, rfl, h1, h2, h3⟩
  go_wp2
  go_ret
  exact ⟨v, xs, rfl, h1, h2, h3⟩
end Go.Proofs.YthhgpiolcnojfaaDoor
