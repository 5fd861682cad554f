import Derived.Test.YthhgpiolcnojfaaGreatDoorClg
import Derived.RangeFuncNested
import Derived.RangeFuncBound
import Derived.RangeFuncCalls
import Derived.RangeFuncLeaves
import Derived.RangeFuncBox
import Derived.Shelf.Abstract
import Derived.Shelf.RegionOpen
import Derived.OwnWalkIn
import Derived.TacticsInMore
import Derived.LoopNIn
import Derived.LoopIn
/- A part of the proofs about open calls: contracts of functions, or plain facts that they want. -/
namespace Go.Proofs.YthhgpiolcnojfaaGreatDoor
open Go.RowKit Go.Shelf
attribute [local go_sem] Oper.semAt_some

def itemC (x : CallV) : Array Value := #[encS x]

set_option maxRecDepth 100000 in
set_option maxHeartbeats 2000000 in
theorem those1_in (n : Nat) (hn : 1 ≤ n) (l Bc Bs gs : Nat) (S : Nat → Prop) (cap : Array Value) (f : CallV → Bool) (a : Option Addr) (c : Nat) (L : List CallV) (J Jx : List CallV → World → Prop)
  (hl1 : L.length ≤ 9223372036854775807) (_hl2 : c ≤ 9223372036854775807)
  (he : ∀ args w, (callFunc gs args).run Tryz.prog w = .ok (.enter gs args) w)
  (W : World) (hS : ∀ k, S k → k < W.heap.size) (hJ : AbidesFrom W.heap.size J)
  (hso : ∀ (W' : World) (x : CallV), On S W W' → Calls Tryz.prog gs (#[encS x] ++ cap) W' fun e W'' => e = .returned (.bool (f x)) ∧ Below W'.heap.size W' W'')
  (hY : ∀ pre x W, J pre W → pre.length < L.length → YieldAt Fence.wide (n - 1) Tryz.prog l (itemC x) W fun e W' =>
   (e = .returned (.bool true) ∧ J (pre ++ [x]) W' ∧ On S W W') ∨ (e = .returned (.bool false) ∧ Jx (pre ++ [x]) W'))
  (hBc : S Bc) (hBs : S Bs) (hc2 : W.cell? ⟨Bc, 2, none⟩ = some (.slice a L.length c)) (hs0 : W.cell? ⟨Bs, 0, none⟩ = some (.func (.func gs) #[] cap))
  (hop : 0 < L.length → ∃ b off, a = some ⟨b, off, none⟩ ∧ S b ∧ RowAt 4 encC W b off L) (h0 : J [] W) :
  CallsIn Fence.wide n Tryz.prog 83 #[.func (.yield l) #[] #[], .pointer (some ⟨Bc, 0, none⟩), .pointer (some ⟨Bs, 0, none⟩)] W fun e W' => (∃ v, e = .returned v) ∧
   ((∃ ys, ys = L.filter f ∧ J ys W') ∨ (∃ pre, pre <+: L.filter f ∧ Jx pre W')) := by
 have HOP := hid hop
 have HSO := hid hso
 have HY := hid hY
 clear hop hso hY
 refine callsIn_of_wp Tryz.func83 rfl trivial ?_ rfl
 simp only [Tryz.ntmps83, List.size_toArray, List.length_cons, List.length_nil, Nat.reduceAdd, Nat.reduceSub, Array.replicate_succ, Array.replicate_zero, List.push_toArray, List.append_toArray, List.nil_append, List.cons_append]
 gi_wp2
 gi_loopw [9] (fun i wr => ∃ k : Nat, k ≤ L.length ∧ i = .int .i64 k ∧ J ((L.take k).filter f) wr ∧ On S W wr)
  (fun i _ => L.length - (intOf i).toNat)
 case atStart => exact ⟨0, Nat.zero_le _, rfl, h0, On.refl _ _⟩
 case round =>
  obtain ⟨k, hk, rfl, hJs, hB⟩ := hrel
  have hsz := hB.size
  have hc2r := (hB.cell 2 hBc (hS _ hBc)).trans hc2
  have hs0r := (hB.cell 0 hBs (hS _ hBs)).trans hs0
  by_cases hlt : k < L.length
  ·obtain ⟨b, off, rfl, hb, hrow⟩ := HOP.out (by omega)
   obtain ⟨x, hx⟩ := get_lt hlt
   obtain ⟨g0, g1, g2, g3⟩ := row4 (hrow.on hB hb (hS b hb)) hx
   have HS := hid (take_snoc L k x hx)
   have HX := hid hx
   clear hx
   have hb0 := hS b hb
   have hb3 := hS Bs hBs
   have hb1 : b < wr.heap.size := by omega
   have hb2 : Bs < wr.heap.size := by omega
   have hB1 : On S W (wr.alloc (.cells #[.int .i64 x.id, .int .u8 x.kind, .int .i64 x.key, .int .i64 x.sent] 40)) := hB.alloc _
   obtain ⟨fx, hfx⟩ : ∃ fx, f x = fx := ⟨_, rfl⟩
   have hcall := HSO.out _ x hB1
   rw [hfx] at hcall
   have HC := hid hcall
   have HFX := hid hfx
   clear hcall hfx
   cases fx with
   | true =>
    gi_wp2
    refine ⟨trivial, callsIn_wide.2 (HC.out.mono ?_)⟩
    rintro e w2 ⟨rfl, hw2⟩
    have hgr : Below wr.heap.size wr w2 := ((Below.refl _ _).alloc (Nat.le_refl _) _).trans (hw2.mono (by simp))
    have hJ2 := hJ _ _ _ none hJs (grown_of_below hgr none) (by simp)
    have hz2 := hw2.size
    simp at hz2
    obtain ⟨hcw, hfw⟩ := bcell hw2
    obtain ⟨fn, tmps, assign, body, hy, hR⟩ := HY.out _ x w2 hJ2 (by have := List.length_filter_le f (L.take k); simp at this; omega)
    dsimp only [itemC, encS] at hy
    have zz : wr.heap.size < wr.heap.size + 1 := by omega
    have HR := hid hR
    clear hR
    gi_wp2
    refine HR.out.mono ?_
    rintro e W3 (⟨rfl, hJ3, hk3⟩ | ⟨rfl, hJx3⟩)
    ·gi_wp2
     go_roundw
     case rel =>
      refine ⟨k + 1, by omega, by simp, ?_, (hB.trans_below hgr).trans hk3⟩
      rw [HS.out, List.filter_append]; simpa [HFX.out] using hJ3
     case measure => simp [intOf]; omega
    ·gi_wp2
     refine bodyPost_ret (results_none rfl _ _ _) rfl ?_
     refine ⟨⟨_, rfl⟩, .inr ⟨_, ?_, hJx3⟩⟩
     have : (L.take (k + 1)).filter f = (L.take k).filter f ++ [x] := by rw [HS.out, List.filter_append]; simp [HFX.out]
     rw [← this]
     exact (List.take_prefix _ _).filter _
   | false =>
    gi_wp2
    refine ⟨trivial, callsIn_wide.2 (HC.out.mono ?_)⟩
    rintro e w2 ⟨rfl, hw2⟩
    have hgr : Below wr.heap.size wr w2 := ((Below.refl _ _).alloc (Nat.le_refl _) _).trans (hw2.mono (by simp))
    have hJ2 := hJ _ _ _ none hJs (grown_of_below hgr none) (by simp)
    gi_wp2
    refine ⟨fun _ _ => trivial, ?_⟩
    gi_wp2
    go_roundw
    case rel =>
     refine ⟨k + 1, by omega, by simp, ?_, hB.trans_below hgr⟩
     rw [HS.out, List.filter_append]; simpa [HFX.out] using hJ2
    case measure => simp [intOf]; omega
  ·obtain rfl : k = L.length := by omega
   have HJ := hid hJs
   clear hJs
   gi_wp2
   go_end0
   exact ⟨⟨_, rfl⟩, .inl ⟨_, by rw [List.take_length], HJ.out⟩⟩

/-- **those hands back a value that goes over the calls of which it is so, in order.** -/
theorem those_stops (n : Nat) (hn : 1 ≤ n) (Bc Bs gs : Nat) (S : Nat → Prop) (cap : Array Value) (f : CallV → Bool) (s : Value) (L : List CallV) (w : World)
  (he : ∀ args w, (callFunc gs args).run Tryz.prog w = .ok (.enter gs args) w) (hS : ∀ k, S k → k < w.heap.size)
  (hso : ∀ (W' : World) (x : CallV), On S w W' → Calls Tryz.prog gs (#[encS x] ++ cap) W' fun e W'' => e = .returned (.bool (f x)) ∧ Below W'.heap.size W' W'')
  (hBc : S Bc) (hBs : S Bs) (hc2 : w.cell? ⟨Bc, 2, none⟩ = some s) (hs0 : w.cell? ⟨Bs, 0, none⟩ = some (.func (.func gs) #[] cap))
  (hr : Row12 w s L) (hb : ∀ b off l c, s = .slice (some ⟨b, off, none⟩) l c → 0 < l → S b) :
  SeqStopsK Fence.wide n Tryz.prog 83 #[.pointer (some ⟨Bc, 0, none⟩), .pointer (some ⟨Bs, 0, none⟩)] itemC (On S) (fun ys => ys = L.filter f) (fun pre => pre <+: L.filter f) L.length w := by
 intro l J Jx W hW hJ _ hY h0
 obtain ⟨a, c, rfl, hl1, hl2, hl3, hop⟩ := hr.open
 have hO : On S w W := On.of_below hW hS
 refine those1_in n hn l Bc Bs gs S cap f a c L J Jx hl1 hl2 he W (fun k hk => Nat.lt_of_lt_of_le (hS k hk) hW.size) hJ (fun W' x h => hso W' x (hO.trans h)) hY hBc hBs ((hO.cell _ hBc (hS _ hBc)).trans hc2) ((hO.cell _ hBs (hS _ hBs)).trans hs0) (fun h0 => ?_) h0
 obtain ⟨b, off, rfl, hlt, hrow⟩ := hop h0
 exact ⟨b, off, rfl, hb b off _ _ rfl h0, hrow.on hO (hb b off _ _ rfl h0) hlt⟩

set_option maxHeartbeats 1000000 in
theorem those_any (ep nx : Int) (s : Value) (gs : Nat) (cap : Array Value) (w : World) :
  Calls Tryz.prog 62 #[calls ep nx s, .func (.func gs) #[] cap] w fun e w' => e = .returned (.func (.func 83) #[] #[.pointer (some ⟨w.heap.size, 0, none⟩), .pointer (some ⟨w.heap.size + 1, 0, none⟩)]) ∧
   w' = (w.alloc (.cells #[.int .i64 ep, .int .i64 nx, s] 33)).alloc (.cells #[.func (.func gs) #[] cap] 130) := by
 have hmf := mkfunc
 unfold calls
 go_enter Tryz.func62, Tryz.ntmps62
 go_wp2
 go_ret
 exact ⟨rfl, rfl⟩
end Go.Proofs.YthhgpiolcnojfaaGreatDoor

/- A part of the proofs about open calls: contracts of functions, or plain facts that they want. -/
namespace Go.Proofs.YthhgpiolcnojfaaGreatDoor
open Go.RowKit Go.Shelf
attribute [local go_sem] Oper.semAt_some

set_option maxHeartbeats 400000 in
theorem cfind1_any (x : CallV) (p : Nat) (id : Int) (W : World) (h : W.cell? ⟨p, 0, none⟩ = some (.int .i64 id)) :
  Calls Tryz.prog 63 (#[encS x] ++ #[.pointer (some ⟨p, 0, none⟩)]) W fun e W' => e = .returned (.bool (x.id == id)) ∧ Below W.heap.size W W' := by
 have hp := lt_of_cell h
 simp only [encS, List.append_toArray, List.nil_append, List.cons_append]
 go_enter Tryz.func63, Tryz.ntmps63
 go_wp2
 go_ret
 exact ⟨rfl, (Below.refl _ _).alloc (Nat.le_refl _) _⟩

def findC (L : List CallV) (id : Int) : CallV × Bool :=
 match L.find? (fun x => x.id == id) with
 | some x => (x, true)
 | none => (⟨0, 0, 0, 0⟩, false)

/-- Between two rounds of Find's loop. -/
def FindI (w w0 : World) (pre : List CallV) (W : World) : Prop :=
 pre = [] ∧ W.heap[w.heap.size + 2]? = some (.cells #[.int .i64 0, .int .u8 0, .int .i64 0, .int .i64 0] 40) ∧ W.heap[w.heap.size + 3]? = some (.cells #[.bool false] 4) ∧ Below w.heap.size w0 W
/-- Where a round of Find's loop has left. -/
def FindX (w w0 : World) (c : Code) (pre : List CallV) (W : World) : Prop :=
 c = .ret ∧ ∃ x, pre = [x] ∧ W.heap[w.heap.size + 2]? = some (.cells #[.int .i64 x.id, .int .u8 x.kind, .int .i64 x.key, .int .i64 x.sent] 40) ∧ W.heap[w.heap.size + 3]? = some (.cells #[.bool true] 4) ∧ Below w.heap.size w0 W

theorem FindI.own {w w0 : World} {B : Nat} (hB : w.heap.size ≤ B) (hw : w.heap.size ≤ w0.heap.size) : OwnFrom B (FindI w w0) := by
 rintro pre W W' row ⟨h1, h2, h3, h4⟩ hg hr
 refine ⟨h1, own_blk h2 hg (fun r e => (hr r e).2), own_blk h3 hg (fun r e => (hr r e).2), h4.grown hg (Nat.le_trans hw h4.size) (fun k e => Nat.le_trans hB (hr k e).1)⟩
theorem FindX.own {w w0 : World} {B : Nat} (c : Code) (hB : w.heap.size ≤ B) (hw : w.heap.size ≤ w0.heap.size) : OwnFrom B (FindX w w0 c) := by
 rintro pre W W' row ⟨h0, x, h1, h2, h3, h4⟩ hg hr
 exact ⟨h0, x, h1, own_blk h2 hg (fun r e => (hr r e).2), own_blk h3 hg (fun r e => (hr r e).2), h4.grown hg (Nat.le_trans hw h4.size) (fun k e => Nat.le_trans hB (hr k e).1)⟩

/-- The blocks that Find's loop leaves alone. -/
def FindS (w : World) (k : Nat) : Prop := k < w.heap.size + 6 ∧ k ≠ w.heap.size + 2 ∧ k ≠ w.heap.size + 3

/-- Where Find's loop variable lies. -/
def FindA (w : World) (frame : Nat → CallV → Act) (x : CallV) (a' : Act) (W : World) : Prop :=
 ∃ Bx, w.heap.size + 6 ≤ Bx ∧ W.heap[Bx]? = some (.cells #[.int .i64 x.id, .int .u8 x.kind, .int .i64 x.key, .int .i64 x.sent] 40) ∧ a' = frame Bx x
theorem FindA.own {w : World} {frame : Nat → CallV → Act} {B : Nat} (x : CallV) (a' : Act) : OwnFrom B (fun (_ : Unit) W => FindA w frame x a' W) := by
 rintro _ W W' row ⟨Bx, h1, h2, h3⟩ hg hr
 exact ⟨Bx, h1, own_blk h2 hg (fun r e => (hr r e).2), h3⟩

theorem find_results {tmps : Array Value} {b : Nat} {x : CallV} {ok : Bool} {W : World} (h4 : tmps.getD 4 undef = .pointer (some ⟨b + 2, 0, none⟩)) (h5 : tmps.getD 5 undef = .pointer (some ⟨b + 3, 0, none⟩))
  (i2 : W.heap[b + 2]? = some (.cells #[.int .i64 x.id, .int .u8 x.kind, .int .i64 x.key, .int .i64 x.sent] 40)) (i3 : W.heap[b + 3]? = some (.cells #[.bool ok] 4)) :
  (results Tryz.f33 tmps).run Tryz.prog W = .ok (.tuple #[encS x, .bool ok]) W := by
 obtain ⟨k0, k1, k2, k3, _, _⟩ := blk4 i2
 obtain ⟨m0, _, _⟩ := blk1 i3
 rw [Array.getD_eq_getD_getElem?] at h4 h5
 simp [results, Tryz.results33, go_sem, h4, h5, k0, k1, k2, k3, m0, encS]

set_option maxRecDepth 100000 in
set_option maxHeartbeats 1000000 in
theorem find_any (ep nx id : Int) (s : Value) (L : List CallV) (w : World) (_hn : L.length ≤ 1000000) (hs : Row12 w s L) :
  Calls Tryz.prog 33 #[calls ep nx s, .int .i64 id] w fun e w' => e = .returned (.tuple #[encS (findC L id).1, .bool (findC L id).2]) ∧ Below w.heap.size w w' := by
 have hmf := mkfunc
 refine (callsIn_wide (n := 4)).1 ?_
 refine callsIn_of_wp_marks Tryz.func33 rfl trivial ?_ rfl
 unfold calls
 simp only [Tryz.ntmps33, List.size_toArray, List.length_cons, List.length_nil, Nat.reduceAdd, Nat.reduceSub, Array.replicate_succ, Array.replicate_zero, List.push_toArray, List.append_toArray, List.nil_append, List.cons_append]
 gi_wp2_with fail
 refine ⟨trivial, callsIn_wide.2 ((those_any ep nx s 63 _ _).mono ?_)⟩
 rintro e w0 ⟨rfl, hw0⟩
 have hw1 : w0 = (((((w.alloc (.cells #[.int .i64 ep, .int .i64 nx, s] 33)).alloc (.cells #[.int .i64 id] 3)).alloc (.cells #[.int .i64 0, .int .u8 0, .int .i64 0, .int .i64 0] 40)).alloc (.cells #[.bool false] 4)).alloc (.cells #[.int .i64 ep, .int .i64 nx, s] 33)).alloc (.cells #[.func (.func 63) #[] #[.pointer (some ⟨w.heap.size + 1, 0, none⟩)]] 130) := hw0
 have hsz : w0.heap.size = w.heap.size + 6 := by rw [hw1]; simp
 have q1 : w0.heap[w.heap.size + 1]? = some (.cells #[.int .i64 id] 3) := by
  rw [hw1]; exact blk_alloc (blk_alloc (blk_alloc (blk_alloc (heap_new2 _ _ _) _) _) _) _
 have q2 : w0.heap[w.heap.size + 2]? = some (.cells #[.int .i64 0, .int .u8 0, .int .i64 0, .int .i64 0] 40) := by
  rw [hw1]; exact blk_alloc (blk_alloc (blk_alloc (by simpa using heap_new2 (w.alloc _) _ _) _) _) _
 have q3 : w0.heap[w.heap.size + 3]? = some (.cells #[.bool false] 4) := by
  rw [hw1]; exact blk_alloc (blk_alloc (by simpa using heap_new2 ((w.alloc _).alloc _) _ _) _) _
 have q4 : w0.heap[w.heap.size + 4]? = some (.cells #[.int .i64 ep, .int .i64 nx, s] 33) := by
  rw [hw1]; exact blk_alloc (by simpa using heap_new2 (((w.alloc _).alloc _).alloc _) _ _) _
 have q5 : w0.heap[w.heap.size + 5]? = some (.cells #[.func (.func 63) #[] #[.pointer (some ⟨w.heap.size + 1, 0, none⟩)]] 130) := by
  rw [hw1]; simpa using heap_new2 ((((w.alloc _).alloc _).alloc _).alloc _) _ _
 have hB0 : Below w.heap.size w w0 := by
  rw [hw1]
  exact ((((((Below.refl _ w).alloc (Nat.le_refl _) _).alloc (by simp) _).alloc (by simp; omega) _).alloc (by simp; omega) _).alloc (by simp; omega) _).alloc (by simp; omega) _
 clear hw0 hw1
 have Q1 := hid q1
 have Q2 := hid q2
 have Q3 := hid q3
 have Q4 := hid q4
 have Q5 := hid q5
 have HSZ := hid hsz
 clear q1 q2 q3 q4 q5 hsz
 gi_wp2
 have hR := hs.below hB0
 have HSTOPS : SeqStopsK Fence.wide 3 Tryz.prog 83 #[.pointer (some ⟨w.heap.size + 4, 0, none⟩), .pointer (some ⟨w.heap.size + 5, 0, none⟩)] itemC (On (FindS w)) (fun ys => ys = L.filter (fun x => x.id == id)) (fun pre => pre <+: L.filter (fun x => x.id == id)) L.length w0 := by
  refine those_stops 3 (by omega) (w.heap.size + 4) (w.heap.size + 5) 63 (FindS w) #[.pointer (some ⟨w.heap.size + 1, 0, none⟩)] (fun x => x.id == id) s L w0 (enters_of Tryz.func63 (by kernel_rfl) rfl) (fun k hk => by have := HSZ.out; unfold FindS at hk; omega) ?_ (by unfold FindS; omega) (by unfold FindS; omega) (blk_cell Q4.out 2) (blk_cell Q5.out 0) hR ?_
  ·intro W' x hO
   exact cfind1_any x (w.heap.size + 1) id W' ((hO.cell 0 (by unfold FindS; omega) (by have := HSZ.out; omega)).trans (blk_cell Q1.out 0))
  ·rintro b off l c rfl hl
   rcases hs with ⟨a', c', he, _, _, _⟩ | ⟨_, b', off', c', he, _, _, hb', _⟩
   ·cases he; omega
   ·cases he; unfold FindS; omega
 refine wpIn_rangeFunc_ownH rfl (by omega) (gf := 83) (lb := #[.pointer (some ⟨w.heap.size + 4, 0, none⟩), .pointer (some ⟨w.heap.size + 5, 0, none⟩)]) rfl trivial (enters_of Tryz.func83 (by kernel_rfl) rfl)
  HSTOPS (fun h k => h.trans k) (fun W l o o' hl _ _ _ => (On.refl _ _).putObj (by have := HSZ.out; unfold FindS; omega) _) (Below.refl _ _) (fun _ => rfl)
  (FindI w w0) (FindX w w0) (FindI.own hB0.size hB0.size) (fun c => FindX.own c hB0.size hB0.size) ⟨rfl, Q2.out, Q3.out, Below.refl _ _⟩
  (FindA w (fun Bx x => { tmps := #[.agg #[.int .i64 ep, .int .i64 nx, s], .int .i64 id, .pointer (some ⟨w.heap.size, 0, none⟩), .pointer (some ⟨w.heap.size + 1, 0, none⟩), .pointer (some ⟨w.heap.size + 2, 0, none⟩), .pointer (some ⟨w.heap.size + 3, 0, none⟩), .pointer (some ⟨Bx, 0, none⟩), .agg #[.int .i64 ep, .int .i64 nx, s], .func (.func 63) #[] #[.pointer (some ⟨w.heap.size + 1, 0, none⟩)], .func (.func 83) #[] #[.pointer (some ⟨w.heap.size + 4, 0, none⟩), .pointer (some ⟨w.heap.size + 5, 0, none⟩)], encS x, undef, undef], defers := [] }))
  (fun x a' => FindA.own x a') ?assign ?body ?done ?stop
 case assign =>
  rintro l pre x W K hI hK
  have HK := hid hK
  clear hK
  simp only [encS, itemC]
  gi_wp2
  refine HK.out _ _ ((KeepsOthers.alloc _ _).from _) ((On.refl _ _).alloc _) ⟨hI.1, blk_alloc hI.2.1 _, blk_alloc hI.2.2.1 _, hI.2.2.2.alloc (Nat.le_trans hB0.size hI.2.2.2.size) _⟩ ⟨W.heap.size, ?_, heap_new _ _, rfl⟩
  have := HSZ.out
  have := hI.2.2.2.size
  omega
 case body =>
  rintro l pre x a' W hl ⟨r, hr⟩ ⟨rfl, i2, i3, i4⟩ ⟨Bx, hBx, bx, rfl⟩ hlt
  obtain ⟨g0, g1, g2, g3, _, hb1⟩ := blk4 bx
  obtain ⟨k0, k1, k2, k3, kf, hb2⟩ := blk4 i2
  obtain ⟨m0, mf, hb3⟩ := blk1 i3
  have I2 := hid i2
  have I3 := hid i3
  have n1 : ¬ (w.heap.size + 2 = w.heap.size + 3) := by omega
  clear i2 i3 bx
  simp only [encS]
  gi_wp2
  refine ⟨(keeps_set (keeps_set (keeps_set (keeps_set (keeps_set (KeepsOthers.refl _) _ _) _ _) _ _) _ _) _ _).from _, rfl, x, rfl, ?_, ?_, ?_⟩
  ·simpa using blk_other (blk_set (blk_set (blk_set (blk_set I2.out 0 (.int .i64 x.id)) 1 (.int .u8 x.kind)) 2 (.int .i64 x.key)) 3 (.int .i64 x.sent)) (p := ⟨w.heap.size + 3, 0, none⟩) n1 (.bool true)
  ·simpa using blk_set (blk_other (blk_other (blk_other (blk_other I3.out (p := ⟨w.heap.size + 2, 0, none⟩) (by simp) (.int .i64 x.id)) (p := ⟨w.heap.size + 2, 1, none⟩) (by simp) (.int .u8 x.kind)) (p := ⟨w.heap.size + 2, 2, none⟩) (by simp) (.int .i64 x.key)) (p := ⟨w.heap.size + 2, 3, none⟩) (by simp) (.int .i64 x.sent)) 0 (.bool true)
  ·exact ((((i4.setCell (by simp) _).setCell (by simp) _).setCell (by simp) _).setCell (by simp) _).setCell (by simp) _
 case done =>
  rintro D xs W hD hxs ⟨h1, i2, i3, i4⟩ hK
  have hnil : findC L id = (⟨0, 0, 0, 0⟩, false) := by
   unfold findC
   have : L.find? (fun x => x.id == id) = none := by
    rw [List.find?_eq_none]
    intro x hx
    have h0 : L.filter (fun x => x.id == id) = [] := by rw [← hxs]; exact h1
    rw [List.filter_eq_nil_iff] at h0
    exact h0 x hx
   rw [this]
  have HN := hid hnil
  obtain ⟨k0, k1, k2, k3, kf, hb2⟩ := blk4 i2
  obtain ⟨m0, mf, hb3⟩ := blk1 i3
  have I2 := hid i2
  have I3 := hid i3
  have HK := hid hK
  have n1 : ¬ (w.heap.size + 2 = w.heap.size + 3) := by omega
  clear i2 i3 hK hxs h1 hnil
  gi_wp2
  have hK5 := (keeps_set (keeps_set (keeps_set (keeps_set (keeps_set (KeepsOthers.refl W) ⟨w.heap.size + 2, 0, none⟩ (.int .i64 0)) ⟨w.heap.size + 2, 1, none⟩ (.int .u8 0)) ⟨w.heap.size + 2, 2, none⟩ (.int .i64 0)) ⟨w.heap.size + 2, 3, none⟩ (.int .i64 0)) ⟨w.heap.size + 3, 0, none⟩ (.bool false)).same D _ HK.out rfl
  refine ⟨by simp, .inl ⟨_, _, rfl, run_takeDeferred hK5, ?_⟩⟩
  refine ⟨_, find_results (b := w.heap.size) (x := ⟨0, 0, 0, 0⟩) (ok := false) rfl rfl (blk_put ?_ hK5 rfl _) (blk_put ?_ hK5 rfl _), ?_, ?_⟩
  ·simpa using blk_other (blk_set (blk_set (blk_set (blk_set I2.out 0 (.int .i64 0)) 1 (.int .u8 0)) 2 (.int .i64 0)) 3 (.int .i64 0)) (p := ⟨w.heap.size + 3, 0, none⟩) n1 (.bool false)
  ·simpa using blk_set (blk_other (blk_other (blk_other (blk_other I3.out (p := ⟨w.heap.size + 2, 0, none⟩) (by simp) (.int .i64 0)) (p := ⟨w.heap.size + 2, 1, none⟩) (by simp) (.int .u8 0)) (p := ⟨w.heap.size + 2, 2, none⟩) (by simp) (.int .i64 0)) (p := ⟨w.heap.size + 2, 3, none⟩) (by simp) (.int .i64 0)) 0 (.bool false)
  ·rw [HN.out]
  ·exact below_put ((((((hB0.trans i4).setCell (p := ⟨w.heap.size + 2, 0, none⟩) (by simp) _).setCell (p := ⟨w.heap.size + 2, 1, none⟩) (by simp) _).setCell (p := ⟨w.heap.size + 2, 2, none⟩) (by simp) _).setCell (p := ⟨w.heap.size + 2, 3, none⟩) (by simp) _).setCell (p := ⟨w.heap.size + 3, 0, none⟩) (by simp) _) (Nat.le_trans hB0.size hD) _
 case stop =>
  rintro D c pre W hD hpre ⟨rfl, x, rfl, i2, i3, i4⟩ hK
  have hfd : findC L id = (x, true) := by
   unfold findC
   obtain ⟨t, ht⟩ := hpre
   rw [← List.head?_filter, ← ht]; rfl
  have HN := hid hfd
  gi_wp2
  refine ⟨by simp, .inl ⟨_, _, rfl, run_takeDeferred hK, ?_⟩⟩
  refine ⟨_, find_results (b := w.heap.size) (x := x) (ok := true) rfl rfl (blk_put i2 hK rfl _) (blk_put i3 hK rfl _), by rw [HN.out], below_put (hB0.trans i4) (Nat.le_trans hB0.size hD) _⟩
end Go.Proofs.YthhgpiolcnojfaaGreatDoor
