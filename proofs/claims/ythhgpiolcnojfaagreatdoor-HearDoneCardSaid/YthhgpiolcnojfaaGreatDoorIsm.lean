import Derived.Test.YthhgpiolcnojfaaGreatDoorWd
import Derived.Test.YthhgpiolcnojfaaGreatDoorClg
import Derived.Test.YthhgpiolcnojfaaGreatDoorBrA
import Derived.WideKeyElems
import Derived.Maps.Own
import Derived.Laws.Rows
import Derived.TacticsIn
import Derived.Test.YthhgpiolcnojfaaGreatDoorItf
import Derived.Deep.RegionHeld3
/- A part of the proofs about open calls: contracts of functions, or plain facts that they want. -/
namespace Go.Proofs.YthhgpiolcnojfaaGreatDoor
open Go.RowKit Go.Shelf

theorem encC_len (x : CallV) : (encC x).length = 4 := rfl
theorem encC_one (x : CallV) : ∀ u ∈ encC x, u.oneCell' = true := by
 intro u hu
 simp only [encC, List.mem_cons, List.mem_nil_iff, or_false] at hu
 rcases hu with rfl | rfl | rfl | rfl <;> rfl

abbrev Own12 (w : World) (base : Nat) (v : Value) (l : List CallV) : Prop := Owns 4 40 encC w base v l

theorem infoC : (Tryz.prog.info? 40).map (fun i => (i.zero, i.size, i.bytes)) = some (some (.agg #[.int .i64 0, .int .u8 0, .int .i64 0, .int .i64 0]), 4, 32) := by kernel_rfl

set_option maxHeartbeats 400000 in
theorem clone_any (s : Value) (L : List CallV) (w : World) (hn : L.length ≤ 1000000) (hs : Row12 w s L) :
  Calls Tryz.prog 92 #[s] w fun e w' => ∃ v, e = .returned v ∧ Own12 w' w.heap.size v L ∧ Below w.heap.size w w' := by
 obtain ⟨i0, hi, hz0, hz1, hz2⟩ := info_parts infoC
 rcases hs.open with ⟨a, c, rfl, hl1, hl2, hl3, hop⟩
 have HS := hid hs
 have he0 : ∀ w, (binOp .eql 31 (.slice none 0 0) (.slice none 0 0)).run Tryz.prog w = .ok (.bool true) w := fun w => by kernel_rfl
 have he1 : ∀ ad n c w, (binOp .eql 31 (.slice (some ad) n c) (.slice none 0 0)).run Tryz.prog w = .ok (.bool false) w := fun ad n c w => by kernel_rfl
 cases a with
 | none =>
  rcases hs with ⟨a', c', he, rfl, hac, _⟩ | ⟨_, b, off, c', he, _⟩
  ·cases he
   obtain rfl := hac rfl
   go_enter Tryz.func92, Tryz.ntmps92
   go_wp2
   go_ret
   exact ⟨_, rfl, Owns.nil _ _, Below.refl _ _⟩
  ·cases he
 | some ad =>
  clear hs hop
  have c1 : ([] : List CallV).length + L.length ≤ maxLen := by unfold maxLen; simp; omega
  have c2 : (([] : List CallV).length + L.length) * 32 ≤ 140737488355328 := by simp; omega
  go_enter Tryz.func92, Tryz.ntmps92
  go_wp2_with (at_builtin; go_loud (refine append_rows rfl _ _ 31 rfl w.heap.size 40 i0 _ 32 Tryz.underlying31 hi hz0 hz1 hz2 rfl (by decide) encC_len encC_one _ [] rfl (World.ownsRow_made w #[] 0 (Nat.le_refl _) (by decide) rfl) _ L rfl (HS.out.below ((Below.refl _ _).alloc (Nat.le_refl _) _)) c1 c2 (by simp) ?_); intro v' w1 hown hgrow)
  go_ret
  exact ⟨v', rfl, by simpa using hown, ((Below.refl _ _).alloc (Nat.le_refl _) _).grown hgrow (by simp) (fun k e => by
   have e' : some k = some w.heap.size := e.symm.trans rfl
   cases e'; exact Nat.le_refl _)⟩
end Go.Proofs.YthhgpiolcnojfaaGreatDoor

/- Brains and duties: what they are in memory; what is asked of one in a phase. -/
namespace Go.Proofs.YthhgpiolcnojfaaGreatDoor
open Go.RowKit Go.Shelf

structure DutyV where
 kind : Int
 key : Int
instance : DecidableEq DutyV := fun a b => decidable_of_iff (a.kind = b.kind ∧ a.key = b.key) (by cases a; cases b; simp)
def encD (x : DutyV) : List Value := [.int .u8 x.kind, .int .i64 x.key]
def encDv (x : DutyV) : Value := .agg #[.int .u8 x.kind, .int .i64 x.key]
theorem encD_len (x : DutyV) : (encD x).length = 2 := rfl
theorem encD_one (x : DutyV) : ∀ u ∈ encD x, u.oneCell' = true := by
 intro u hu
 simp only [encD, List.mem_cons, List.mem_nil_iff, or_false] at hu
 rcases hu with rfl | rfl <;> rfl
theorem infoD : (Tryz.prog.info? 61).map (fun i => (i.zero, i.size, i.bytes)) = some (some (.agg #[.int .u8 0, .int .i64 0]), 2, 16) := by kernel_rfl
theorem rowD {w : World} {b off : Nat} {l : List DutyV} (h : RowAt 2 encD w b off l) {i : Nat} {x : DutyV} (hi : l[i]? = some x) :
  w.cell? ⟨b, off + i * 2, none⟩ = some (.int .u8 x.kind) ∧ w.cell? ⟨b, off + i * 2 + 1, none⟩ = some (.int .i64 x.key) :=
 ⟨h i x hi 0 _ rfl, h i x hi 1 _ rfl⟩
theorem BC.list {cs : Array Value} {iv kv : Value} (h : BC cs iv kv) : ∃ c0 c1 c2 c3 c4 c5 c6 c7 c8 c9 c10 c11 c12 c13 c14 c15 c16 c17 c20 c21 c22 c23 c24 c25 c26 : Value, cs = #[c0, c1, c2, c3, c4, c5, c6, c7, c8, c9, c10, c11, c12, c13, c14, c15, c16, c17, iv, kv, c20, c21, c22, c23, c24, c25, c26] := by
 obtain ⟨l⟩ := cs
 obtain ⟨h1, h2, h3⟩ := h
 obtain ⟨c0, c1, c2, c3, c4, c5, c6, c7, c8, c9, c10, c11, c12, c13, c14, c15, c16, c17, c18, c19, c20, c21, c22, c23, c24, c25, c26, rfl⟩ := list27 l h1
 simp only [List.getElem?_toArray, List.getElem?_cons_succ, List.getElem?_cons_zero, Option.some.injEq] at h2 h3
 subst h2
 subst h3
 exact ⟨c0, c1, c2, c3, c4, c5, c6, c7, c8, c9, c10, c11, c12, c13, c14, c15, c16, c17, c20, c21, c22, c23, c24, c25, c26, rfl⟩
/-- What is asked of one in a phase; 0: nothing. -/
def askedK (p : Int) : Int := if p = 3 then 4 else if p = 5 then 5 else if p = 8 then 6 else if p = 10 then 2 else 0
def askedB (p : Int) : Bool := decide (p = 3 ∨ p = 5 ∨ p = 8 ∨ p = 10)
def keptD (x : KeptV) : List DutyV := if askedB x.phase then [⟨askedK x.phase, x.id⟩] else []
def intentD (x : IntentV) : DutyV := ⟨1, x.token⟩
def dutiesL (I : List IntentV) (K : List KeptV) : List DutyV := I.map intentD ++ K.flatMap keptD

/-- The table of what is asked lies there. -/
def Asked (w : World) : Prop := ∃ bm o, w.cell? ⟨0, 0, none⟩ = some (.map (some bm)) ∧ w.heap[bm]? = some o ∧
 ∀ w' : World, w'.heap[bm]? = some o → ∀ p : Int, in8 p → (Instr.lookup 166 (.map (some bm)) (.int .u8 p) true).run Tryz.prog w' = .ok (.tuple #[.int .u8 (askedK p), .bool (askedB p)]) w'
theorem Asked.on {S : Nat → Prop} {w w' : World} (h : Asked w) (hb : On S w w') (hS : ∀ k, k < w.heap.size → S k) : Asked w' := by
 obtain ⟨bm, o, h1, h2, h3⟩ := h
 have l1 := lt_of_cell h1
 have l2 := (Array.getElem?_eq_some_iff.1 h2).1
 exact ⟨bm, o, (hb.cell 0 (hS _ l1) l1).trans h1, (hb.block bm (hS _ l2) l2).trans h2, h3⟩
theorem Asked.below {w w' : World} (h : Asked w) (hb : Below w.heap.size w w') : Asked w' := by
 obtain ⟨bm, o, h1, h2, h3⟩ := h
 exact ⟨bm, o, cell_below h1 hb, (hb.block bm (Array.getElem?_eq_some_iff.1 h2).1).trans h2, h3⟩
/-- The look-up, as the walk wants it. -/
theorem Asked.open {w : World} (h : Asked w) : ∃ bm, w.cell? ⟨0, 0, none⟩ = some (.map (some bm)) ∧ ∀ w' : World, (∀ k, k < w.heap.size → w'.heap[k]? = w.heap[k]?) → ∀ p : Int, in8 p → (Instr.lookup 166 (.map (some bm)) (.int .u8 p) true).run Tryz.prog w' = .ok (.tuple #[.int .u8 (askedK p), .bool (askedB p)]) w' := by
 obtain ⟨bm, o, h1, h2, h3⟩ := h
 exact ⟨bm, h1, fun w' hb p hp => h3 w' ((hb bm (Array.getElem?_eq_some_iff.1 h2).1).trans h2) p hp⟩
end Go.Proofs.YthhgpiolcnojfaaGreatDoor

/- A part of the proofs about open calls: contracts of functions, or plain facts that they want. -/
namespace Go.Proofs.YthhgpiolcnojfaaGreatDoor
open Go.RowKit Go.Shelf
attribute [local go_sem] Oper.semAt_some

theorem new_cells (W : World) (x : CallV) (t : TypeId) : ∀ j u, (encC x)[j]? = some u → (W.alloc (.cells #[.int .i64 x.id, .int .u8 x.kind, .int .i64 x.key, .int .i64 x.sent] t)).cell? ((⟨W.heap.size, 0, none⟩ : Addr).add j) = some u := by
 intro j u hj
 rw [show ((⟨W.heap.size, 0, none⟩ : Addr).add j) = ⟨W.heap.size, j, none⟩ by unfold Addr.add; split <;> simp_all]
 rw [blk_cell (heap_new W _)]
 simpa [encC] using hj

/-- What AppendSeq has collected. -/
def ColI (w : World) (pre : List CallV) (W : World) : Prop :=
 (∃ v, W.heap[w.heap.size]? = some (.cells #[v] 31) ∧ Own12 W (w.heap.size + 1) v pre) ∧ Below w.heap.size w W ∧ w.heap.size + 1 ≤ W.heap.size
theorem ColI.own {w : World} {B : Nat} (hB : w.heap.size ≤ B) : OwnFrom B (ColI w) := by
 rintro pre W W' row ⟨⟨v, h1, h2⟩, h3, h4⟩ hg hr
 exact ⟨⟨v, own_blk h1 hg (fun r e => (hr r e).2), h2.own hg (fun r e => (hr r e).2)⟩, h3.grown hg h3.size (fun k e => Nat.le_trans hB (hr k e).1), Nat.le_trans h4 hg.size⟩

/-- Where AppendSeq's loop variable lies. -/
def ColA (w : World) (frame : Nat → CallV → Act) (x : CallV) (a' : Act) (W : World) : Prop :=
 ∃ Bx, w.heap.size + 1 ≤ Bx ∧ W.heap[Bx]? = some (.cells #[.int .i64 x.id, .int .u8 x.kind, .int .i64 x.key, .int .i64 x.sent] 40) ∧ a' = frame Bx x
theorem ColA.own {w : World} {frame : Nat → CallV → Act} {B : Nat} (x : CallV) (a' : Act) : OwnFrom B (fun (_ : Unit) W => ColA w frame x a' W) := by
 rintro _ W W' row ⟨Bx, h1, h2, h3⟩ hg hr
 exact ⟨Bx, h1, own_blk h2 hg (fun r e => (hr r e).2), h3⟩

set_option maxRecDepth 100000 in
set_option maxHeartbeats 1000000 in
theorem appendSeq_any (gf : Nat) (lb : Array Value) (St : Nat → Prop) (S Sp : List CallV → Prop) (N : Nat) (w : World) (hN : N ≤ 1000000) (hSt : ∀ k, St k → k < w.heap.size)
  (eg : ∀ args w, (callFunc gf args).run Tryz.prog w = .ok (.enter gf args) w)
  (hseq : SeqStopsK Fence.wide 3 Tryz.prog gf lb itemC (On St) S Sp N w) :
  Calls Tryz.prog 104 #[.slice none 0 0, .func (.func gf) #[] lb] w fun e w' => ∃ v xs, e = .returned v ∧ S xs ∧ Own12 w' w.heap.size v xs ∧ Below w.heap.size w w' := by
 obtain ⟨i0, hi, hz0, hz1, hz2⟩ := info_parts infoC
 have HSEQ := hid hseq
 clear hseq
 refine (callsIn_wide (n := 4)).1 ?_
 refine callsIn_of_wp_marks Tryz.func104 rfl trivial ?_ rfl
 simp only [Tryz.ntmps104, List.size_toArray, List.length_cons, List.length_nil, Nat.reduceAdd, Nat.reduceSub, Array.replicate_succ, Array.replicate_zero, List.push_toArray, List.append_toArray, List.nil_append, List.cons_append]
 gi_wp2
 have hB1 : Below w.heap.size w (w.alloc (.cells #[.slice none 0 0] 31)) := (Below.refl _ _).alloc (Nat.le_refl _) _
 refine wpIn_rangeFunc_ownH rfl (by omega) (gf := gf) (lb := lb) rfl trivial eg HSEQ.out
  (fun h k => h.trans k) (fun W l o o' hl _ _ _ => (On.refl _ _).putObj (fun h => by have := hSt _ h; simp at hl; omega) _) hB1 (fun _ => rfl)
  (ColI w) (fun _ _ _ => False) (ColI.own (by simp)) (fun _ _ _ _ _ h _ _ => h.elim) ⟨⟨_, heap_new _ _, Owns.nil _ _⟩, hB1, by simp⟩
  (ColA w (fun Bx x => { tmps := #[.slice none 0 0, .func (.func gf) #[] lb, .pointer (some ⟨w.heap.size, 0, none⟩), undef, .slice none 0 0, .pointer (some ⟨Bx, 0, none⟩), .func (.func gf) #[] lb, encS x, undef, undef, undef, undef, undef], defers := [] }))
  (fun x a' => ColA.own x a') ?assign ?body ?done ?stop
 case assign =>
  rintro l pre x W K ⟨⟨v, h1, h2⟩, h3, h4⟩ hK
  have HK := hid hK
  have H2 := hid h2
  clear hK h2
  simp only [encS, itemC]
  gi_wp2
  exact HK.out _ _ ((KeepsOthers.alloc _ _).from _) ((On.refl _ _).alloc _) ⟨⟨v, blk_alloc h1 _, World.ownsRow.alloc H2.out _⟩, h3.alloc (by omega) _, by simp; omega⟩ ⟨W.heap.size, h4, heap_new _ _, rfl⟩
 case body =>
  rintro l pre x a' W hl ⟨r, hr⟩ ⟨⟨v, h1, h2⟩, h3, h4⟩ ⟨Bx, hBx, bx, rfl⟩ hlt
  obtain ⟨g0, g1, g2, g3, _, hb1⟩ := blk4 bx
  obtain ⟨k0, kf, hb2⟩ := blk1 h1
  have H1 := hid h1
  have H2 := hid h2
  have c1 : pre.length + 1 ≤ maxLen := by unfold maxLen; omega
  have c2 : (pre.length + 1) * 32 ≤ 140737488355328 := by omega
  clear h1 h2 bx
  simp only [encS]
  gi_wp2_with (gi_at_builtin; refine wpListIn_append_own _ rfl _ _ 31 rfl (w.heap.size + 1) 40 i0 _ 4 32 Tryz.underlying31 hi hz0 hz1 hz2 rfl (by decide) _ pre.length _ rfl (World.ownsRow.alloc H2.out _) ⟨W.heap.size, 0, none⟩ 1 1 (encC x) rfl rfl (new_cells W x _) (encC_one x) c1 c2 (by simp; omega) ?_; intro v' w1 hown' hgrow _; obtain ⟨g', cap', rfl⟩ := ownsRow_succ hown'; have hq := blk_grown (blk_alloc H1.out (.cells #[.int .i64 x.id, .int .u8 x.kind, .int .i64 x.key, .int .i64 x.sent] 40)) hgrow (fun e => by have := (Owns.block H2.out w.heap.size e.symm).1; omega); have hq0 := (blk1 hq).1; have hqf := (blk1 hq).2.1; have hql := (blk1 hq).2.2; have HOWN := hid hown'; have HGR := hid hgrow; clear hown' hgrow; have HQ := hid hq; clear hq)
  have hrow : ∀ r, v.ownBlock = some r → w.heap.size + 1 ≤ r := fun r e => (Owns.block H2.out r e).1
  refine ⟨((keeps_grown H2.out HGR.out).trans (KeepsOthers.setCell _ _ _)).from _, ?_, ⟨_, blk_set HQ.out 0 _, ?_⟩, ?_, ?_⟩
  ·exact (((On.refl _ _).alloc _).trans (on_grown HGR.out (fun r e h => by have := hSt r h; have := hrow r e; omega))).setCell (fun h => by have := hSt _ h; simp at this) _
  ·refine Owns.other (p := ⟨w.heap.size, 0, none⟩) ?_ (by simp) _
   unfold Owns
   have := HOWN.out
   simpa [List.flatMap_append] using this
  ·exact ((h3.alloc (by omega) _).grown HGR.out (by simp; omega) (fun r e => by have := hrow r e; omega)).setCell (p := ⟨w.heap.size, 0, none⟩) (Nat.le_refl _) _
  ·have := HGR.out.size
   simp [World.setCell] at this ⊢
   omega
 case done =>
  rintro D xs W hD hS ⟨⟨v, h1, h2⟩, h3, h4⟩ hK
  obtain ⟨k0, kf, hb2⟩ := blk1 h1
  have H1 := hid h1
  have H2 := hid h2
  have HK := hid hK
  have HS := hid hS
  clear h1 h2 hK hS
  gi_wp2
  refine ⟨by simp, .inl ⟨_, _, rfl, run_takeDeferred HK.out, ?_⟩⟩
  refine ⟨_, results_tmp rfl _ _ _, v, xs, rfl, HS.out, ?_, below_put h3 (by simp at hD; omega) _⟩
  exact (Owns.own H2.out (grownBy_putObj' W D (.deferred none)) (fun r e => by cases e; exact ⟨_, HK.out, rfl⟩)).mono (by omega)
 case stop =>
  rintro D c pre W hD hpre h _
  exact h.elim

set_option maxHeartbeats 1000000 in
theorem collect_any (gf : Nat) (lb : Array Value) (St : Nat → Prop) (S Sp : List CallV → Prop) (N : Nat) (w : World) (hN : N ≤ 1000000) (hSt : ∀ k, St k → k < w.heap.size)
  (eg : ∀ args w, (callFunc gf args).run Tryz.prog w = .ok (.enter gf args) w)
  (hseq : SeqStopsK Fence.wide 3 Tryz.prog gf lb itemC (On St) S Sp N w) :
  Calls Tryz.prog 93 #[.func (.func gf) #[] lb] w fun e w' => ∃ v xs, e = .returned v ∧ S xs ∧ Own12 w' w.heap.size v xs ∧ Below w.heap.size w w' := by
 have HC := hid (appendSeq_any gf lb St S Sp N w hN hSt eg hseq)
 clear hseq
 go_enter Tryz.func93, Tryz.ntmps93
 go_wp2_with fail
 refine HC.out.mono ?_
 rintro e w1 ⟨v, xs, rfl, h1, h2, h3⟩
 go_wp2
 go_ret
 exact ⟨v, xs, rfl, h1, h2, h3⟩
end Go.Proofs.YthhgpiolcnojfaaGreatDoor

/- duties goes over a brain's duties. -/
namespace Go.Proofs.YthhgpiolcnojfaaGreatDoor
open Go.RowKit Go.Shelf
attribute [local go_sem] Oper.semAt_some

def itemD (x : DutyV) : Array Value := #[encDv x]

theorem keptD_take {K : List KeptV} {k : Nat} {x : KeptV} (hx : K[k]? = some x) : (K.take (k + 1)).flatMap keptD = (K.take k).flatMap keptD ++ keptD x := by
 rw [take_snoc K k x hx, List.flatMap_append]; simp
theorem intentD_take {I : List IntentV} {k : Nat} {x : IntentV} (hx : I[k]? = some x) : (I.take (k + 1)).map intentD = (I.take k).map intentD ++ [intentD x] := by
 rw [take_snoc I k x hx, List.map_append]; simp
theorem duties_left {I : List IntentV} {K : List KeptV} {k : Nat} {x : KeptV} (hx : K[k]? = some x) (hs : askedB x.phase = true) : (I.map intentD ++ (K.take k).flatMap keptD).length < (dutiesL I K).length := by
 unfold dutiesL
 have e1 : K.flatMap keptD = (K.take (k + 1)).flatMap keptD ++ (K.drop (k + 1)).flatMap keptD := by rw [← List.flatMap_append, List.take_append_drop]
 rw [e1, keptD_take hx]
 simp [keptD, hs]
theorem duties_left1 {I : List IntentV} {K : List KeptV} {k : Nat} (hk : k < I.length) : ((I.take k).map intentD).length < (dutiesL I K).length := by
 unfold dutiesL
 simp
 omega

set_option maxRecDepth 100000 in
set_option maxHeartbeats 2000000 in
theorem duties1_in (n : Nat) (hn : 1 ≤ n) (l Bb : Nat) (S : Nat → Prop) (a1 : Option Addr) (c1 : Nat) (a2 : Option Addr) (c2 : Nat) (I : List IntentV) (K : List KeptV) (J Jx : List DutyV → World → Prop)
  (hl1 : I.length ≤ 1000000) (hl2 : K.length ≤ 1000000) (_hc1 : c1 ≤ 9223372036854775807) (_hc2 : c2 ≤ 9223372036854775807) (hwf : ∀ x ∈ K, in8 x.phase)
  (W : World) (hS : ∀ k, S k → k < W.heap.size) (hJ : AbidesFrom W.heap.size J)
  (hY : ∀ pre x W, J pre W → pre.length < (dutiesL I K).length → YieldAt Fence.wide (n - 1) Tryz.prog l (itemD x) W fun e W' =>
   (e = .returned (.bool true) ∧ J (pre ++ [x]) W' ∧ On S W W') ∨ (e = .returned (.bool false) ∧ Jx (pre ++ [x]) W'))
  (hBb : S Bb) (hi : W.cell? ⟨Bb, 18, none⟩ = some (.slice a1 I.length c1)) (hk : W.cell? ⟨Bb, 19, none⟩ = some (.slice a2 K.length c2))
  (bm : Nat) (hg : S 0) (hgc : W.cell? ⟨0, 0, none⟩ = some (.map (some bm)))
  (hlk : ∀ w' : World, On S W w' → ∀ p : Int, in8 p → (Instr.lookup 166 (.map (some bm)) (.int .u8 p) true).run Tryz.prog w' = .ok (.tuple #[.int .u8 (askedK p), .bool (askedB p)]) w')
  (hop : 0 < I.length → ∃ b off, a1 = some ⟨b, off, none⟩ ∧ S b ∧ RowAt 4 encIn W b off I) (hoq : 0 < K.length → ∃ b off, a2 = some ⟨b, off, none⟩ ∧ S b ∧ RowAt 8 encKp W b off K) (h0 : J [] W) :
  CallsIn Fence.wide n Tryz.prog 105 #[.func (.yield l) #[] #[], .pointer (some ⟨Bb, 0, none⟩)] W fun e W' => (∃ v, e = .returned v) ∧
   ((∃ ys, ys = dutiesL I K ∧ J ys W') ∨ (∃ pre, True ∧ Jx pre W')) := by
 have HOP := hid hop
 have HOQ := hid hoq
 have HY := hid hY
 have HLK := hid hlk
 have HWF := hid hwf
 clear hop hoq hY hlk hwf
 refine callsIn_of_wp Tryz.func105 rfl trivial ?_ rfl
 simp only [Tryz.ntmps105, List.size_toArray, List.length_cons, List.length_nil, Nat.reduceAdd, Nat.reduceSub, Array.replicate_succ, Array.replicate_zero, List.push_toArray, List.append_toArray, List.nil_append, List.cons_append]
 gi_wp2
 gi_loopw [12] (fun i wr => ∃ k : Nat, k ≤ I.length ∧ i = .int .i64 k ∧ J ((I.take k).map intentD) wr ∧ On S W wr)
  (fun i _ => I.length - (intOf i).toNat)
 case atStart => exact ⟨0, Nat.zero_le _, rfl, h0, On.refl _ _⟩
 case round =>
  obtain ⟨k, hk1, rfl, hJs, hB⟩ := hrel
  have hsz := hB.size
  have hcr := (hB.cell 18 hBb (hS _ hBb)).trans hi
  have hkr := (hB.cell 19 hBb (hS _ hBb)).trans hk
  by_cases hlt : k < I.length
  ·obtain ⟨b, off, rfl, hb, hrow⟩ := HOP.out (by omega)
   obtain ⟨x, hx⟩ := get_lt hlt
   obtain ⟨g0, g1, g2, g3⟩ := rowI (hrow.on hB hb (hS b hb)) hx
   have HS := hid (intentD_take hx)
   clear hx
   have hb0 := hS b hb
   have hb1 : b < wr.heap.size := by omega
   have hJ2 := hJ _ _ _ none hJs (grown_of_below ((Below.refl _ _).alloc (Nat.le_refl _) (.cells #[.int .i64 x.token, .int .i64 x.version, .int .i64 x.zone, .bool x.warm] 96)) none) (by simp)
   obtain ⟨fn, tmps, assign, body, hy, hR⟩ := HY.out _ (intentD x) _ hJ2 (duties_left1 hlt)
   dsimp only [itemD, encDv, intentD] at hy
   have HR := hid hR
   clear hR
   gi_wp2
   refine HR.out.mono ?_
   rintro e W3 (⟨rfl, hJ3, hk3⟩ | ⟨rfl, hJx3⟩)
   ·gi_wp2
    go_roundw
    case rel =>
     refine ⟨k + 1, by omega, by simp, ?_, (hB.alloc _).trans hk3⟩
     rw [HS.out]; exact hJ3
    case measure => simp [intOf]; omega
   ·gi_wp2
    refine bodyPost_ret (results_none rfl _ _ _) rfl ?_
    exact ⟨⟨_, rfl⟩, .inr ⟨_, trivial, hJx3⟩⟩
  ·obtain rfl : k = I.length := by omega
   rw [List.take_length] at hJs
   have HJ0 := hid hJs
   have HB0 := hid hB
   clear hJs
   obtain ⟨wa, rfl⟩ : ∃ wo : World, wo = wr := ⟨_, rfl⟩
   gi_wp2
   gi_loopw [26] (fun i w2 => ∃ k : Nat, k ≤ K.length ∧ i = .int .i64 k ∧ J (I.map intentD ++ (K.take k).flatMap keptD) w2 ∧ On S W w2)
    (fun i _ => K.length - (intOf i).toNat)
   case atStart => exact ⟨0, Nat.zero_le _, rfl, by simpa using HJ0.out, HB0.out⟩
   case round =>
    clear hcr hkr hsz hB
    obtain ⟨k, hk1, rfl, hJs, hB⟩ := hrel
    have hsz := hB.size
    have hcr := (hB.cell 19 hBb (hS _ hBb)).trans hk
    by_cases hlt : k < K.length
    ·obtain ⟨b, off, rfl, hb, hrow⟩ := HOQ.out (by omega)
     obtain ⟨x, hx⟩ := get_lt hlt
     obtain ⟨g0, g1, g2, g3, g4, g5, g6, g7⟩ := rowK (hrow.on hB hb (hS b hb)) hx
     have HS := hid (keptD_take hx)
     have HX := hid hx
     clear hx
     have hb0 := hS b hb
     have hb1 : b < wr.heap.size := by omega
     have hgl := hS _ hg
     have hgw : 0 < wr.heap.size := by omega
     have hgr : wr.cell? ⟨0, 0, none⟩ = some (.map (some bm)) := (hB.cell 0 hg hgl).trans hgc
     obtain ⟨U, hU⟩ : ∃ U, U = wr.alloc (.cells #[.int .i64 x.id, .int .i64 x.token, .int .i64 x.version, .int .i64 x.zone, .int .u8 x.phase, .int .i64 x.since, .bool x.guarded, .bool x.complete] 63) := ⟨_, rfl⟩
     have hBU : On S W U := by rw [hU]; exact hB.alloc _
     have hJ2 : J (I.map intentD ++ (K.take k).flatMap keptD) U := by rw [hU]; exact hJ _ _ _ none hJs (grown_of_below ((Below.refl _ _).alloc (Nat.le_refl _) _) none) (by simp)
     have hl := HLK.out U hBU x.phase (HWF.out x (mem_get HX.out))
     obtain ⟨kd, hkd⟩ : ∃ kd, askedK x.phase = kd := ⟨_, rfl⟩
     obtain ⟨bb, hbb⟩ : ∃ bb, askedB x.phase = bb := ⟨_, rfl⟩
     rw [hkd, hbb] at hl
     have HJ2 := hid hJ2
     have HBU := hid hBU
     have HBB := hid hbb
     have HKD := hid hkd
     clear hJ2 hBU hbb hkd
     cases bb with
     | true =>
      obtain ⟨fn, tmps, assign, body, hy, hR⟩ := HY.out _ (⟨kd, x.id⟩ : DutyV) _ HJ2.out (duties_left HX.out HBB.out)
      dsimp only [itemD, encDv] at hy
      have HR := hid hR
      clear hR
      rw [hU] at hl hy
      gi_wp2
      rw [← hU]
      refine HR.out.mono ?_
      rintro e W3 (⟨rfl, hJ3, hk3⟩ | ⟨rfl, hJx3⟩)
      ·gi_wp2
       go_roundw
       case rel =>
        refine ⟨k + 1, by omega, by simp, ?_, HBU.out.trans hk3⟩
        rw [HS.out, keptD, HBB.out, HKD.out, ← List.append_assoc]; exact hJ3
       case measure => simp [intOf]; omega
      ·gi_wp2
       refine bodyPost_ret (results_none rfl _ _ _) rfl ?_
       exact ⟨⟨_, rfl⟩, .inr ⟨_, trivial, hJx3⟩⟩
     | false =>
      rw [hU] at hl
      gi_wp2
      refine ⟨fun _ _ => trivial, ?_⟩
      gi_wp2
      rw [← hU]
      go_roundw
      case rel =>
       refine ⟨k + 1, by omega, by simp, ?_, HBU.out⟩
       rw [HS.out, keptD, HBB.out]; simpa using HJ2.out
      case measure => simp [intOf]; omega
    ·obtain rfl : k = K.length := by omega
     rw [List.take_length] at hJs
     have HJ := hid hJs
     clear hJs
     gi_wp2
     go_end0
     exact ⟨⟨_, rfl⟩, .inl ⟨_, rfl, HJ.out⟩⟩

/-- **duties hands back a value that goes over a brain's duties, in order.** -/
theorem duties_stops (n : Nat) (hn : 1 ≤ n) (Bb : Nat) (S : Nat → Prop) (cs : Array Value) (iv kv : Value) (hcs : BC cs iv kv) (I : List IntentV) (K : List KeptV) (w : World) (hS : ∀ k, S k → k < w.heap.size)
  (hl1 : I.length ≤ 1000000) (hl2 : K.length ≤ 1000000) (hwf : ∀ x ∈ K, in8 x.phase) (hBb : S Bb) (hb : BB w Bb cs) (w0 : World) (h00 : w0.heap.size ≤ w.heap.size) (hB0 : Below w0.heap.size w0 w) (hS0 : ∀ k, k < w0.heap.size → S k)
  (hA : Asked w0) (hI : RowOf 4 encIn w0 iv I) (hK : RowOf 8 encKp w0 kv K) :
  SeqStopsK Fence.wide n Tryz.prog 105 #[.pointer (some ⟨Bb, 0, none⟩)] itemD (On S) (fun ys => ys = dutiesL I K) (fun _ => True) (dutiesL I K).length w := by
 intro l J Jx W hW hJ _ hY h0
 obtain ⟨a1, c1, rfl, hl1', hl2', hl3, hop⟩ := hI.open
 obtain ⟨a2, c2, rfl, hk1', hk2', hk3, hoq⟩ := hK.open
 have hO : On S w W := On.of_below hW hS
 have hW0 : Below w0.heap.size w0 W := hB0.trans (hW.mono h00)
 have hw0 := hW0.size
 obtain ⟨g1, g2, _, g3⟩ := hb.two hcs
 obtain ⟨bm, q1, q2⟩ := hA.open
 refine duties1_in n hn l Bb S a1 c1 a2 c2 I K J Jx hl1 hl2 hl2' hk2' hwf W (fun k hk => Nat.lt_of_lt_of_le (hS k hk) hW.size) hJ hY hBb ((hO.cell _ hBb g3).trans g1) ((hO.cell _ hBb g3).trans g2) bm (hS0 _ (lt_of_cell q1)) ((hW0.cell (p := ⟨0, 0, none⟩) (lt_of_cell q1)).trans q1) ?_ ?_ ?_ h0
 ·intro w' hw' p hp
  exact q2 w' (fun k hk => (hw'.block k (hS0 k hk) (by omega)).trans (hW0.block k hk)) p hp
 ·intro h
  obtain ⟨b, off, rfl, hlt, hrow⟩ := hop h
  exact ⟨b, off, rfl, hS0 b hlt, hrow.below hW0 hlt⟩
 ·intro h
  obtain ⟨b, off, rfl, hlt, hrow⟩ := hoq h
  exact ⟨b, off, rfl, hS0 b hlt, hrow.below hW0 hlt⟩
end Go.Proofs.YthhgpiolcnojfaaGreatDoor

/- Of tells a brain's duties. -/
namespace Go.Proofs.YthhgpiolcnojfaaGreatDoor
open Go.RowKit Go.Shelf
attribute [local go_sem] Oper.semAt_some

set_option maxHeartbeats 1000000 in
theorem duties_any (cs : Array Value) (w : World) :
  Calls Tryz.prog 95 #[.agg cs] w fun e w' => e = .returned (.func (.func 105) #[] #[.pointer (some ⟨w.heap.size, 0, none⟩)]) ∧ BB w' w.heap.size cs ∧ Below w.heap.size w w' ∧ w'.heap.size = w.heap.size + 1 := by
 have hmf := mkfunc
 go_enter Tryz.func95, Tryz.ntmps95
 go_wp2
 go_ret
 exact ⟨rfl, BB.new w _, (Below.refl _ _).alloc (Nat.le_refl _) _, by simp⟩

abbrev OwnD (w : World) (base : Nat) (v : Value) (l : List DutyV) : Prop := Owns 2 61 encD w base v l
theorem new_cellsD (W : World) (x : DutyV) (t : TypeId) : ∀ j u, (encD x)[j]? = some u → (W.alloc (.cells #[.int .u8 x.kind, .int .i64 x.key] t)).cell? ((⟨W.heap.size, 0, none⟩ : Addr).add j) = some u := by
 intro j u hj
 rw [show ((⟨W.heap.size, 0, none⟩ : Addr).add j) = ⟨W.heap.size, j, none⟩ by unfold Addr.add; split <;> simp_all]
 rw [blk_cell (heap_new W _)]
 simpa [encD] using hj

/-- What Of has collected. -/
def DofI (w : World) (pre : List DutyV) (W : World) : Prop :=
 (∃ v, W.heap[w.heap.size + 1]? = some (.cells #[v] 111) ∧ OwnD W (w.heap.size + 3) v pre) ∧ Below w.heap.size w W ∧ w.heap.size + 3 ≤ W.heap.size
/-- Where Of's loop variable lies. -/
def DofA (w : World) (frame : Nat → DutyV → Act) (x : DutyV) (a' : Act) (W : World) : Prop :=
 ∃ Bx, w.heap.size + 3 ≤ Bx ∧ W.heap[Bx]? = some (.cells #[.int .u8 x.kind, .int .i64 x.key] 61) ∧ a' = frame Bx x
theorem DofI.own {w : World} {B : Nat} (hB : w.heap.size ≤ B) : OwnFrom B (DofI w) := by
 rintro pre W W' row ⟨⟨v, h1, h2⟩, h3, h4⟩ hg hr
 exact ⟨⟨v, own_blk h1 hg (fun r e => (hr r e).2), h2.own hg (fun r e => (hr r e).2)⟩, h3.grown hg h3.size (fun k e => Nat.le_trans hB (hr k e).1), Nat.le_trans h4 hg.size⟩
theorem DofA.own {w : World} {frame : Nat → DutyV → Act} {B : Nat} (x : DutyV) (a' : Act) : OwnFrom B (fun (_ : Unit) W => DofA w frame x a' W) := by
 rintro _ W W' row ⟨Bx, h1, h2, h3⟩ hg hr
 exact ⟨Bx, h1, own_blk h2 hg (fun r e => (hr r e).2), h3⟩
/-- The blocks that stay while Of goes on. -/
def OfS (w : World) (k : Nat) : Prop := k < w.heap.size ∨ k = w.heap.size + 2

theorem res_slice {fn : Func} {tmps : Array Value} {r : Tmp} {t : TypeId} {b : Nat} {x : Value} {W : World} (hres : fn.results = #[.cell r 111]) (h : tmps.getD r undef = .pointer (some ⟨b, 0, none⟩)) (hb : W.heap[b]? = some (.cells #[x] t)) :
  (results fn tmps).run Tryz.prog W = .ok x W := by
 obtain ⟨k0, _, _⟩ := blk1 hb
 rw [Array.getD_eq_getD_getElem?] at h
 simp [results, hres, go_sem, h, k0]
theorem set_back {W : World} {b D : Nat} {v : Value} {t : TypeId} {o : Obj} (h : W.heap[b]? = some (.cells #[v] t)) (hD : W.heap[D]? = some o) (ho : o.isCells = false) (o' : Obj) : ((W.setCell ⟨b, 0, none⟩ v).putObj D o').heap[b]? = some (.cells #[v] t) := by
 refine blk_put (blk_set h 0 v) (hD := ?_) ho o'
 rw [Below.heap_setCell]
 ·exact hD
 ·intro e; simp at e; subst e; rw [h] at hD; cases hD; cases ho

theorem keptD_len : ∀ K : List KeptV, (K.flatMap keptD).length ≤ K.length
 | [] => by simp
 | x :: l => by
  have h := keptD_len l
  have h2 : (keptD x).length ≤ 1 := by unfold keptD; split <;> simp
  rw [List.flatMap_cons, List.length_append, List.length_cons]
  omega
theorem duties_len (I : List IntentV) (K : List KeptV) : (dutiesL I K).length ≤ I.length + K.length := by
 have := keptD_len K
 unfold dutiesL
 rw [List.length_append, List.length_map]
 omega

set_option maxRecDepth 100000 in
set_option maxHeartbeats 2000000 in
theorem of_any (cs : Array Value) (iv kv : Value) (hcs : BC cs iv kv) (I : List IntentV) (K : List KeptV) (w : World) (hl1 : I.length ≤ 1000) (hl2 : K.length ≤ 1000) (hwf : ∀ x ∈ K, in8 x.phase)
  (hA : Asked w) (hI : RowOf 4 encIn w iv I) (hK : RowOf 8 encKp w kv K) :
  Calls Tryz.prog 86 #[.agg cs] w fun e w' => ∃ v, e = .returned v ∧ OwnD w' w.heap.size v (dutiesL I K) ∧ Below w.heap.size w w' := by
 obtain ⟨i0, hi, hz0, hz1, hz2⟩ := info_parts infoD
 have hN := duties_len I K
 have HAA := hid hA
 have HI := hid hI
 have HK := hid hK
 have HWF := hid hwf
 clear hA hI hK hwf
 refine (callsIn_wide (n := 4)).1 ?_
 refine callsIn_of_wp_marks Tryz.func86 rfl trivial ?_ rfl
 simp only [Tryz.ntmps86, List.size_toArray, List.length_cons, List.length_nil, Nat.reduceAdd, Nat.reduceSub, Array.replicate_succ, Array.replicate_zero, List.push_toArray, List.append_toArray, List.nil_append, List.cons_append]
 obtain ⟨W1, hW1⟩ : ∃ W1, W1 = (w.alloc (.cells cs 30)).alloc (.cells #[.slice none 0 0] 111) := ⟨_, rfl⟩
 have hz1' : W1.heap.size = w.heap.size + 2 := by rw [hW1]; simp
 have hB1 : Below w.heap.size w W1 := by rw [hW1]; exact ((Below.refl _ _).alloc (Nat.le_refl _) _).alloc (by simp) _
 have r1 : W1.heap[w.heap.size + 1]? = some (.cells #[.slice none 0 0] 111) := by rw [hW1]; exact heap_new2 _ _ _
 have HW1 := hid hW1
 have HB1 := hid hB1
 have HR1 := hid r1
 have hd := duties_any cs W1
 have HD := hid hd
 have HG := hid (show BB W1 w.heap.size cs by rw [hW1]; exact (BB.new w cs).below ((Below.refl _ _).alloc (Nat.le_refl _) _) (by simp))
 have HCS := hid hcs
 clear hB1 r1 hd hcs
 gi_wp2_with (refine load_brainIn rfl rfl _ rfl w.heap.size rfl cs iv kv HCS.out (by rw [← HW1.out]; exact HG.out) ?_)
 rw [← hW1]
 clear hW1
 refine ⟨trivial, callsIn_wide.2 (HD.out.mono ?_)⟩
 rintro e W2 ⟨rfl, hbb, hb, hsz⟩
 rw [hz1'] at hbb hsz hb
 have hB2 : Below w.heap.size w W2 := HB1.out.trans (hb.mono (by omega))
 have r2 := blk_below HR1.out hb (by omega)
 have HSEQ := hid (duties_stops 3 (by omega) (w.heap.size + 2) (OfS w) cs iv kv HCS.out I K W2 (fun k hk => by rcases hk with h | h <;> omega) (by omega) (by omega) HWF.out (.inr rfl) hbb w (by omega) hB2 (fun k hk => .inl hk) HAA.out HI.out HK.out)
 have HB2 := hid hB2
 have HR2 := hid r2
 clear hbb hb hB2 r2
 gi_wp2
 refine wpIn_rangeFunc_ownH rfl (by omega) (gf := 105) (lb := #[.pointer (some ⟨w.heap.size + 2, 0, none⟩)]) rfl trivial (enters_of Tryz.func105 (by kernel_rfl) rfl) HSEQ.out
  (fun h k => h.trans k) (fun W l o o' hl _ _ _ => (On.refl _ _).putObj (fun h => by rcases h with h | h <;> omega) _) (Below.refl _ _) (fun _ => rfl)
  (DofI w) (fun _ _ _ => False) (DofI.own (by omega)) (fun _ _ _ _ _ h _ _ => h.elim) ⟨⟨_, HR2.out, Owns.nil _ _⟩, HB2.out, by omega⟩
  (DofA w (fun Bx x => { tmps := #[.agg cs, .pointer (some ⟨w.heap.size, 0, none⟩), .pointer (some ⟨w.heap.size + 1, 0, none⟩), .pointer (some ⟨Bx, 0, none⟩), .agg cs, .func (.func 105) #[] #[.pointer (some ⟨w.heap.size + 2, 0, none⟩)], encDv x, undef, undef, undef, undef, undef], defers := [] }))
  (fun x a' => DofA.own x a') ?assign ?body ?done ?stop
 case assign =>
  rintro l pre x W K ⟨⟨v, h1, h2⟩, h3, h4⟩ hK
  have HK := hid hK
  have H2 := hid h2
  clear hK h2
  simp only [encDv, itemD]
  gi_wp2
  exact HK.out _ _ ((KeepsOthers.alloc _ _).from _) ((On.refl _ _).alloc _) ⟨⟨v, blk_alloc h1 _, World.ownsRow.alloc H2.out _⟩, h3.alloc (by omega) _, by simp; omega⟩ ⟨W.heap.size, h4, heap_new _ _, rfl⟩
 case body =>
  rintro l pre x a' W hl ⟨r, hr⟩ ⟨⟨v, h1, h2⟩, h3, h4⟩ ⟨Bx, hBx, bx, rfl⟩ hlt
  obtain ⟨g0, g1, _, hb1⟩ := blk2 bx
  obtain ⟨k0, kf, hb2⟩ := blk1 h1
  have H1 := hid h1
  have H2 := hid h2
  have c1 : pre.length + 1 ≤ maxLen := by unfold maxLen; omega
  have c2 : (pre.length + 1) * 16 ≤ 140737488355328 := by omega
  clear h1 h2 bx
  simp only [encDv]
  gi_wp2_with (gi_at_builtin; refine wpListIn_append_own _ rfl _ _ 111 rfl (w.heap.size + 3) 61 i0 _ 2 16 Tryz.underlying111 hi hz0 hz1 hz2 rfl (by decide) _ pre.length _ rfl (World.ownsRow.alloc H2.out _) ⟨W.heap.size, 0, none⟩ 1 1 (encD x) rfl rfl (new_cellsD W x _) (encD_one x) c1 c2 (by simp; omega) ?_; intro v' w1 hown' hgrow _; obtain ⟨g', cap', rfl⟩ := ownsRow_succ hown'; have hq := blk_grown (blk_alloc H1.out (.cells #[.int .u8 x.kind, .int .i64 x.key] 61)) hgrow (fun e => by have := (Owns.block H2.out (w.heap.size + 1) e.symm).1; omega); have hq0 := (blk1 hq).1; have hqf := (blk1 hq).2.1; have hql := (blk1 hq).2.2; have HOWN := hid hown'; have HGR := hid hgrow; clear hown' hgrow; have HQ := hid hq; clear hq)
  have hrow : ∀ r, v.ownBlock = some r → w.heap.size + 3 ≤ r := fun r e => (Owns.block H2.out r e).1
  refine ⟨((keeps_grown H2.out HGR.out).trans (KeepsOthers.setCell _ _ _)).from _, ?_, ⟨_, blk_set HQ.out 0 _, ?_⟩, ?_, ?_⟩
  ·exact (((On.refl _ _).alloc _).trans (on_grown HGR.out (fun r e h => by have := hrow r e; rcases h with h | h <;> omega))).setCell (fun h => by rcases h with h | h <;> dsimp only at h <;> omega) _
  ·refine Owns.other (p := ⟨w.heap.size + 1, 0, none⟩) ?_ (by simp) _
   unfold Owns
   have := HOWN.out
   simpa [List.flatMap_append] using this
  ·exact ((h3.alloc (by omega) _).grown HGR.out (by simp; omega) (fun r e => by have := hrow r e; omega)).setCell (p := ⟨w.heap.size + 1, 0, none⟩) (by simp) _
  ·have := HGR.out.size
   simp [World.setCell] at this ⊢
   omega
 case done =>
  rintro D xs W hD hS ⟨⟨v, h1, h2⟩, h3, h4⟩ hK
  obtain ⟨va, vn, vc, rfl⟩ := h2.shape
  obtain ⟨k0, kf, hb2⟩ := blk1 h1
  have H1 := hid h1
  have H2 := hid h2
  have HK := hid hK
  have HS := hid hS
  clear h1 h2 hK hS
  gi_wp2
  refine ⟨by simp, .inl ⟨_, _, rfl, run_takeDeferred (by exact (Below.heap_setCell W ⟨w.heap.size + 1, 0, none⟩ _ D (by simp; omega)).trans HK.out), ?_⟩⟩
  refine ⟨_, res_slice rfl rfl (set_back H1.out HK.out rfl _), _, rfl, ?_, ?_⟩
  ·rw [← HS.out]
   exact (Owns.own (Owns.other H2.out (p := ⟨w.heap.size + 1, 0, none⟩) (by simp) _) (grownBy_putObj' _ D (.deferred none)) (fun r e => by cases e; exact ⟨_, by exact (Below.heap_setCell W ⟨w.heap.size + 1, 0, none⟩ _ D (by simp; omega)).trans HK.out, rfl⟩)).mono (by omega)
  ·exact below_put (h3.setCell (p := ⟨w.heap.size + 1, 0, none⟩) (by simp) _) (by omega) _
 case stop =>
  rintro D c pre W hD hpre h _
  exact h.elim
end Go.Proofs.YthhgpiolcnojfaaGreatDoor

/- Is tells whether a duty is one of a brain's; slices.Contains, Index of duties. -/
namespace Go.Proofs.YthhgpiolcnojfaaGreatDoor
open Go.RowKit Go.Shelf

def sameD (x y : DutyV) : Bool := x.kind == y.kind && x.key == y.key
theorem sameD_iff {x y : DutyV} : sameD x y = true ↔ x = y := by
 cases x; cases y; simp [sameD]
theorem sameD_no {x y : DutyV} (h : ¬ x = y) : sameD x y = false := by
 apply Bool.eq_false_iff.2; intro e; exact h (sameD_iff.1 e)
theorem eqD_run (x y : DutyV) (w : World) : (binOp .eql 61 (.agg #[.int .u8 x.kind, .int .i64 x.key]) (.agg #[.int .u8 y.kind, .int .i64 y.key])).run Tryz.prog w = .ok (.bool (sameD x y)) w := by
 simp [go_sem]
 by_cases h1 : x.kind = y.kind <;> by_cases h2 : x.key = y.key <;> simp [sameD, h1, h2]

/-- Where a duty lies; below 0: nowhere. -/
def IdxEnd (L : List DutyV) (d : DutyV) (e : Ending) : Prop := ∃ r : Int, e = .returned (.int .i64 r) ∧ (0 ≤ r ↔ d ∈ L)
theorem not_taken {L : List DutyV} {d : DutyV} {k : Nat} {x : DutyV} (hx : L[k]? = some x) (h : ∀ y ∈ L.take k, ¬ y = d) (hne : ¬ x = d) : ∀ y ∈ L.take (k + 1), ¬ y = d := by
 rw [take_snoc L k x hx]
 intro y hy
 rcases List.mem_append.1 hy with h1 | h1
 ·exact h y h1
 ·simp at h1; rw [h1]; exact hne

set_option maxHeartbeats 400000 in
set_option maxRecDepth 10000 in
theorem indexD_any (s : Value) (L : List DutyV) (d : DutyV) (w : World) (hs : RowOf 2 encD w s L) (hL : L.length ≤ 1000000) :
  Calls Tryz.prog 94 #[s, encDv d] w fun e w' => IdxEnd L d e ∧ Below w.heap.size w w' := by
 obtain ⟨a, c, rfl, hl1, hl2, hl3, hop⟩ := hs.open
 have HOP := hid hop
 have Z0 : Below w.heap.size w (w.alloc (.cells #[.int .u8 d.kind, .int .i64 d.key] 61)) := (Below.refl _ _).alloc (Nat.le_refl _) _
 clear hop hs
 unfold encDv
 go_enter Tryz.func94, Tryz.ntmps94
 go_wp2
 go_loopw [8] (fun i wr => ∃ k : Nat, k ≤ L.length ∧ i = .int .i64 k ∧ (∀ y ∈ L.take k, ¬ y = d) ∧ Below (w.heap.size + 1) (w.alloc (.cells #[.int .u8 d.kind, .int .i64 d.key] 61)) wr) (fun i _ => L.length - (intOf i).toNat)
 case atStart => exact ⟨0, Nat.zero_le _, rfl, by simp, Below.refl _ _⟩
 case round =>
  obtain ⟨k, hk, rfl, htk, hB⟩ := hrel
  have HT := hid htk
  clear htk
  obtain ⟨hc, hf⟩ := bcell hB
  have hsz := hB.size
  simp at hsz
  have hBz : Below w.heap.size w wr := Z0.trans (hB.mono (by omega))
  by_cases hlt : k < L.length
  ·obtain ⟨b1, o1, rfl, hb1, hr1⟩ := HOP.out (by omega)
   obtain ⟨x, hx⟩ := get_lt hlt
   obtain ⟨g0, g1⟩ := rowD hr1 hx
   have HX := hid hx
   have hkL : (k : Int) < (L.length : Int) := by omega
   clear hx
   have heq := eqD_run d x
   by_cases hxd : d = x
   ·rw [sameD_iff.2 hxd] at heq
    have HXD := hid hxd
    clear hxd
    go_wp2
    go_quiet (fail)
    go_wp2
    go_ret
    exact ⟨⟨_, rfl, by simp; rw [HXD.out]; exact mem_get HX.out⟩, below_drewN hBz _⟩
   ·rw [sameD_no hxd] at heq
    have HXD := hid hxd
    clear hxd
    go_wp2
    go_quiet (fail)
    go_wp2
    go_roundw
    case rel => exact ⟨k + 1, by omega, by go_num, not_taken HX.out HT.out (fun e => HXD.out e.symm), below_drewN hB _⟩
    case measure => simp [intOf]; omega
  ·obtain rfl : k = L.length := by omega
   go_wp2
   go_ret
   refine ⟨⟨_, rfl, by simp; intro hd; exact HT.out d (by rw [List.take_length]; exact hd) rfl⟩, hBz⟩

theorem containsD_any (s : Value) (L : List DutyV) (d : DutyV) (w : World) (hs : RowOf 2 encD w s L) (hL : L.length ≤ 1000000) :
  Calls Tryz.prog 85 #[s, encDv d] w fun e w' => e = .returned (.bool (decide (d ∈ L))) ∧ Below w.heap.size w w' := by
 have Z0 : Below w.heap.size w (w.alloc (.cells #[.int .u8 d.kind, .int .i64 d.key] 61)) := (Below.refl _ _).alloc (Nat.le_refl _) _
 have HC := hid (indexD_any s L d _ (hs.below Z0) hL)
 have HZ := hid Z0
 clear hs Z0
 unfold encDv at HC ⊢
 go_enter Tryz.func85, Tryz.ntmps85
 go_wp2_with fail
 refine HC.out.mono ?_
 rintro e w1 ⟨⟨r, rfl, hr⟩, hb⟩
 go_wp2
 go_ret
 refine ⟨ret_bool ?_, HZ.out.trans (hb.mono HZ.out.size)⟩
 by_cases h : d ∈ L
 ·simp [h]
 ·simp [h]
end Go.Proofs.YthhgpiolcnojfaaGreatDoor

/- duty.Is. -/
namespace Go.Proofs.YthhgpiolcnojfaaGreatDoor
open Go.RowKit Go.Shelf
attribute [-go_sem] loadVar
attribute [local go_sem] load_other

set_option maxHeartbeats 2000000 in
set_option maxRecDepth 100000 in
theorem is_any (cs : Array Value) (iv kv : Value) (hcs : BC cs iv kv) (I : List IntentV) (K : List KeptV) (d : DutyV) (w : World) (hl1 : I.length ≤ 1000) (hl2 : K.length ≤ 1000) (hwf : ∀ x ∈ K, in8 x.phase)
  (hA : Asked w) (hI : RowOf 4 encIn w iv I) (hK : RowOf 8 encKp w kv K) :
  Calls Tryz.prog 69 #[.agg cs, encDv d] w fun e w' => e = .returned (.bool (decide (d ∈ dutiesL I K))) ∧ Below w.heap.size w w' := by
 have HN := hid (duties_len I K)
 have HCS := hid hcs
 have HWF := hid hwf
 obtain ⟨W1, hW1⟩ : ∃ W1, W1 = (w.alloc (.cells cs 30)).alloc (.cells #[.int .u8 d.kind, .int .i64 d.key] 61) := ⟨_, rfl⟩
 have hB1 : Below w.heap.size w W1 := by rw [hW1]; exact ((Below.refl _ _).alloc (Nat.le_refl _) _).alloc (by simp) _
 have BX := hid (show BB W1 w.heap.size cs by rw [hW1]; exact (BB.new w cs).below ((Below.refl _ _).alloc (Nat.le_refl _) _) (by simp))
 have BD := hid (show W1.heap[w.heap.size + 1]? = some (.cells #[.int .u8 d.kind, .int .i64 d.key] 61) by rw [hW1]; exact heap_new2 _ _ _)
 have AS := hid (hA.below hB1)
 have RI := hid (RowOf.below hI hB1)
 have RK := hid (RowOf.below hK hB1)
 have Z := hid hB1
 clear hB1 hA hI hK hcs hwf
 obtain ⟨Ev, hEvdef⟩ : ∃ Ev : World → Prop, Ev = fun W => W.heap[w.heap.size + 1]? = some (.cells #[.int .u8 d.kind, .int .i64 d.key] 61) ∧ BB W w.heap.size cs ∧ Asked W ∧ RowOf 4 encIn W iv I ∧ RowOf 8 encKp W kv K ∧ Below w.heap.size w W := ⟨_, rfl⟩
 have hEv0 : Ev W1 := by rw [hEvdef]; exact ⟨BD.out, BX.out, AS.out, RI.out, RK.out, Z.out⟩
 have hEvk : ∀ W W', Below W.heap.size W W' → Ev W → Ev W' := by
  rw [hEvdef]
  rintro W W' hb ⟨q0, q1, q2, q3, q4, q5⟩
  exact ⟨blk_below q0 hb (blk_lt q0), BB.below q1 hb (blk_lt q1), Asked.below q2 hb, RowOf.below q3 hb, RowOf.below q4 hb, q5.trans (hb.mono q5.size)⟩
 have hEv_BX : ∀ W, Ev W → BB W w.heap.size cs := by
  rw [hEvdef]
  rintro W ⟨q0, q1, q2, q3, q4, q5⟩
  exact q1
 have hEv_AS : ∀ W, Ev W → Asked W := by
  rw [hEvdef]
  rintro W ⟨q0, q1, q2, q3, q4, q5⟩
  exact q2
 have hEv_RI : ∀ W, Ev W → RowOf 4 encIn W iv I := by
  rw [hEvdef]
  rintro W ⟨q0, q1, q2, q3, q4, q5⟩
  exact q3
 have hEv_RK : ∀ W, Ev W → RowOf 8 encKp W kv K := by
  rw [hEvdef]
  rintro W ⟨q0, q1, q2, q3, q4, q5⟩
  exact q4
 have hEv_Z : ∀ W, Ev W → Below w.heap.size w W := by
  rw [hEvdef]
  rintro W ⟨q0, q1, q2, q3, q4, q5⟩
  exact q5
 have hEv_BD : ∀ W, Ev W → W.heap[w.heap.size + 1]? = some (.cells #[.int .u8 d.kind, .int .i64 d.key] 61) := by
  rw [hEvdef]
  rintro W ⟨q0, q1, q2, q3, q4, q5⟩
  exact q0
 have hEvc : ∀ W, Ev W → W.cell? ⟨w.heap.size + 1, 0, none⟩ = some (.int .u8 d.kind) ∧ W.cell? ⟨w.heap.size + 1, 1, none⟩ = some (.int .i64 d.key) ∧ (loadVar 30 ⟨w.heap.size, 0, none⟩).run Tryz.prog W = .ok (.agg cs) W := by
  rw [hEvdef]
  rintro W ⟨q0, q1, q2, q3, q4, q5⟩
  exact ⟨blk_cell q0 0, blk_cell q0 1, BB.load q1 HCS.out⟩
 have hEvs : ∀ W W', Below W.heap.size W W' → Ev W → Ev W' ∧ W'.cell? ⟨w.heap.size + 1, 0, none⟩ = some (.int .u8 d.kind) ∧ W'.cell? ⟨w.heap.size + 1, 1, none⟩ = some (.int .i64 d.key) ∧ (loadVar 30 ⟨w.heap.size, 0, none⟩).run Tryz.prog W' = .ok (.agg cs) W' := fun W W' hb h => ⟨hEvk W W' hb h, hEvc W' (hEvk W W' hb h)⟩
 have Ev_0 := hid hEv0
 have Ev_S := hid hEvs
 have Ev_K := hid hEvk
 have Ev_C := hid hEvc
 have Ev_BX := hid hEv_BX
 have Ev_AS := hid hEv_AS
 have Ev_RI := hid hEv_RI
 have Ev_RK := hid hEv_RK
 have Ev_Z := hid hEv_Z
 have Ev_BD := hid hEv_BD
 have Ev_D := hid hEvdef
 clear BD BX AS RI RK Z hEv0 hEvk hEvs hEvdef hEv_BX hEv_AS hEv_RI hEv_RK hEv_Z hEv_BD hEvc
 unfold encDv
 go_enter Tryz.func69, Tryz.ntmps69
 go_wp2_with fail
 rw [← hW1]
 clear hW1
 go_region_held3 (fun W => Ev W ∧ W.cell? ⟨w.heap.size + 1, 0, none⟩ = some (.int .u8 d.kind) ∧ W.cell? ⟨w.heap.size + 1, 1, none⟩ = some (.int .i64 d.key) ∧ (loadVar 30 ⟨w.heap.size, 0, none⟩).run Tryz.prog W = .ok (.agg cs) W) (first | exact Ev_S.out _ _ (below_drewN (Below.refl _ _) 1) Ev_0.out | (go_split_ands; exact Ev_S.out _ _ (below_drewN (Below.refl _ _) 1) (by assumption)) | (go_split_ands; exact Ev_S.out _ _ hbt (by assumption)) | (go_split_ands; exact Ev_S.out _ _ hbu (by assumption))) (first | (go_at_call 86; go_split_ands; refine (of_any _ iv kv HCS.out I K _ hl1 hl2 HWF.out (Ev_AS.out _ (by assumption)) (Ev_RI.out _ (by assumption)) (Ev_RK.out _ (by assumption))).mono ?_; rintro e x1 ⟨v, rfl, hov, hbt⟩) | (go_at_call 85; go_split_ands; refine (containsD_any _ _ d _ (hov.row encD_len (by decide)) (by have := HN.out; omega)).mono ?_; rintro e x2 ⟨rfl, hbu⟩))
 go_split_ands
 go_wp2
 go_ret
 exact ⟨rfl, Ev_Z.out _ (by assumption)⟩
end Go.Proofs.YthhgpiolcnojfaaGreatDoor
