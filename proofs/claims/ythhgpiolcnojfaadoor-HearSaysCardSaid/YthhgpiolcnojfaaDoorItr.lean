
/- A part of the proofs about open calls: contracts of functions, or plain facts that they want. -/
import Derived.Test.YthhgpiolcnojfaaDoorRgt
import Derived.RangeFuncNested
import Derived.RangeFuncBound
import Derived.RangeFuncCalls
import Derived.RangeFuncLeaves
import Derived.RangeFuncBox
import Derived.Shelf.Abstract
import Derived.Shelf.RegionOpen
import Derived.OwnWalkIn
import Derived.TacticsInMore
import Derived.LoopNIn
import Derived.LoopIn
namespace Go.Proofs.YthhgpiolcnojfaaDoor
open Go.RowKit Go.Shelf
attribute [local go_sem] Oper.semAt_some

def itemC (x : CallV) : Array Value := #[encS x]

set_option maxRecDepth 100000 in
set_option maxHeartbeats 2000000 in
theorem those1_in (n : Nat) (hn : 1 ≤ n) (l Bc Bs gs : Nat) (S : Nat → Prop) (cap : Array Value) (f : CallV → Bool) (a : Option Addr) (c : Nat) (L : List CallV) (J Jx : List CallV → World → Prop)
    (hl1 : L.length ≤ 9223372036854775807) (_hl2 : c ≤ 9223372036854775807)
    (he : ∀ args w, (callFunc gs args).run Tryd.prog w = .ok (.enter gs args) w)
    (W : World) (hS : ∀ k, S k → k < W.heap.size) (hJ : AbidesFrom W.heap.size J)
    (hso : ∀ (W' : World) (x : CallV), On S W W' → Calls Tryd.prog gs (#[encS x] ++ cap) W' fun e W'' => e = .returned (.bool (f x)) ∧ Below W'.heap.size W' W'')
    (hY : ∀ pre x W, J pre W → pre.length < L.length → YieldAt Fence.wide (n - 1) Tryd.prog l (itemC x) W fun e W' =>
      (e = .returned (.bool true) ∧ J (pre ++ [x]) W' ∧ On S W W') ∨ (e = .returned (.bool false) ∧ Jx (pre ++ [x]) W'))
    (hBc : S Bc) (hBs : S Bs) (hc2 : W.cell? ⟨Bc, 2, none⟩ = some (.slice a L.length c)) (hs0 : W.cell? ⟨Bs, 0, none⟩ = some (.func (.func gs) #[] cap))
    (hop : 0 < L.length → ∃ b off, a = some ⟨b, off, none⟩ ∧ S b ∧ RowAt 4 encC W b off L) (h0 : J [] W) :
    CallsIn Fence.wide n Tryd.prog 25 #[.func (.yield l) #[] #[], .pointer (some ⟨Bc, 0, none⟩), .pointer (some ⟨Bs, 0, none⟩)] W fun e W' => (∃ v, e = .returned v) ∧
      ((∃ ys, ys = L.filter f ∧ J ys W') ∨ (∃ pre, pre <+: L.filter f ∧ Jx pre W')) := by
  have HOP := hid hop
  have HSO := hid hso
  have HY := hid hY
  clear hop hso hY
  refine callsIn_of_wp Tryd.func25 rfl trivial ?_ rfl
  simp only [Tryd.ntmps25, List.size_toArray, List.length_cons, List.length_nil, Nat.reduceAdd, Nat.reduceSub, Array.replicate_succ, Array.replicate_zero, List.push_toArray, List.append_toArray, List.nil_append, List.cons_append]
  gi_wp2
  gi_loopw [9] (fun i wr => ∃ k : Nat, k ≤ L.length ∧ i = .int .i64 k ∧ J ((L.take k).filter f) wr ∧ On S W wr)
    (fun i _ => L.length - (intOf i).toNat)
  case atStart => exact ⟨0, Nat.zero_le _, rfl, h0, On.refl _ _⟩
  case round =>
    obtain ⟨k, hk, rfl, hJs, hB⟩ := hrel
    have hsz := hB.size
    have hc2r := (hB.cell 2 hBc (hS _ hBc)).trans hc2
    have hs0r := (hB.cell 0 hBs (hS _ hBs)).trans hs0
    by_cases hlt : k < L.length
    · obtain ⟨b, off, rfl, hb, hrow⟩ := HOP.out (by omega)
      obtain ⟨x, hx⟩ := get_lt hlt
      obtain ⟨g0, g1, g2, g3⟩ := row4 (hrow.on hB hb (hS b hb)) hx
      have HS := hid (take_snoc L k x hx)
      have HX := hid hx
      clear hx
      have hb0 := hS b hb
      have hb3 := hS Bs hBs
      have hb1 : b < wr.heap.size := by omega
      have hb2 : Bs < wr.heap.size := by omega
      have hB1 : On S W (wr.alloc (.cells #[.int .i64 x.id, .int .u8 x.kind, .int .i64 x.key, .int .i64 x.sent] 23)) := hB.alloc _
      obtain ⟨fx, hfx⟩ : ∃ fx, f x = fx := ⟨_, rfl⟩
      have hcall := HSO.out _ x hB1
      rw [hfx] at hcall
      have HC := hid hcall
      have HFX := hid hfx
      clear hcall hfx
      cases fx with
      | true =>
        gi_wp2
        refine ⟨trivial, callsIn_wide.2 (HC.out.mono ?_)⟩
        rintro e w2 ⟨rfl, hw2⟩
        have hgr : Below wr.heap.size wr w2 := ((Below.refl _ _).alloc (Nat.le_refl _) _).trans (hw2.mono (by simp))
        have hJ2 := hJ _ _ _ none hJs (grown_of_below hgr none) (by simp)
        have hz2 := hw2.size
        simp at hz2
        obtain ⟨hcw, hfw⟩ := bcell hw2
        obtain ⟨fn, tmps, assign, body, hy, hR⟩ := HY.out _ x w2 hJ2 (by have := List.length_filter_le f (L.take k); simp at this; omega)
        dsimp only [itemC, encS] at hy
        have zz : wr.heap.size < wr.heap.size + 1 := by omega
        have HR := hid hR
        clear hR
        gi_wp2
        refine HR.out.mono ?_
        rintro e W3 (⟨rfl, hJ3, hk3⟩ | ⟨rfl, hJx3⟩)
        · gi_wp2
          go_roundw
          case rel =>
            refine ⟨k + 1, by omega, by simp, ?_, (hB.trans_below hgr).trans hk3⟩
            rw [HS.out, List.filter_append]; simpa [HFX.out] using hJ3
          case measure => simp [intOf]; omega
        · gi_wp2
          refine bodyPost_ret (results_none rfl _ _ _) rfl ?_
          refine ⟨⟨_, rfl⟩, .inr ⟨_, ?_, hJx3⟩⟩
          have : (L.take (k + 1)).filter f = (L.take k).filter f ++ [x] := by rw [HS.out, List.filter_append]; simp [HFX.out]
          rw [← this]
          exact (List.take_prefix _ _).filter _
      | false =>
        gi_wp2
        refine ⟨trivial, callsIn_wide.2 (HC.out.mono ?_)⟩
        rintro e w2 ⟨rfl, hw2⟩
        have hgr : Below wr.heap.size wr w2 := ((Below.refl _ _).alloc (Nat.le_refl _) _).trans (hw2.mono (by simp))
        have hJ2 := hJ _ _ _ none hJs (grown_of_below hgr none) (by simp)
        gi_wp2
        refine ⟨fun _ _ => trivial, ?_⟩
        gi_wp2
        go_roundw
        case rel =>
          refine ⟨k + 1, by omega, by simp, ?_, hB.trans_below hgr⟩
          rw [HS.out, List.filter_append]; simpa [HFX.out] using hJ2
        case measure => simp [intOf]; omega
    · obtain rfl : k = L.length := by omega
      have HJ := hid hJs
      clear hJs
      gi_wp2
      go_end0
      exact ⟨⟨_, rfl⟩, .inl ⟨_, by rw [List.take_length], HJ.out⟩⟩

/-- **those hands back a value that goes over the calls of which it is so, in order.** -/
theorem those_stops (n : Nat) (hn : 1 ≤ n) (Bc Bs gs : Nat) (S : Nat → Prop) (cap : Array Value) (f : CallV → Bool) (s : Value) (L : List CallV) (w : World)
    (he : ∀ args w, (callFunc gs args).run Tryd.prog w = .ok (.enter gs args) w) (hS : ∀ k, S k → k < w.heap.size)
    (hso : ∀ (W' : World) (x : CallV), On S w W' → Calls Tryd.prog gs (#[encS x] ++ cap) W' fun e W'' => e = .returned (.bool (f x)) ∧ Below W'.heap.size W' W'')
    (hBc : S Bc) (hBs : S Bs) (hc2 : w.cell? ⟨Bc, 2, none⟩ = some s) (hs0 : w.cell? ⟨Bs, 0, none⟩ = some (.func (.func gs) #[] cap))
    (hr : Row12 w s L) (hb : ∀ b off l c, s = .slice (some ⟨b, off, none⟩) l c → 0 < l → S b) :
    SeqStopsK Fence.wide n Tryd.prog 25 #[.pointer (some ⟨Bc, 0, none⟩), .pointer (some ⟨Bs, 0, none⟩)] itemC (On S) (fun ys => ys = L.filter f) (fun pre => pre <+: L.filter f) L.length w := by
  intro l J Jx W hW hJ _ hY h0
  obtain ⟨a, c, rfl, hl1, hl2, hl3, hop⟩ := hr.open
  have hO : On S w W := On.of_below hW hS
  refine those1_in n hn l Bc Bs gs S cap f a c L J Jx hl1 hl2 he W (fun k hk => Nat.lt_of_lt_of_le (hS k hk) hW.size) hJ (fun W' x h => hso W' x (hO.trans h)) hY hBc hBs ((hO.cell _ hBc (hS _ hBc)).trans hc2) ((hO.cell _ hBs (hS _ hBs)).trans hs0) (fun h0 => ?_) h0
  obtain ⟨b, off, rfl, hlt, hrow⟩ := hop h0
  exact ⟨b, off, rfl, hb b off _ _ rfl h0, hrow.on hO (hb b off _ _ rfl h0) hlt⟩

set_option maxHeartbeats 1000000 in
theorem those_any (ep nx : Int) (s : Value) (gs : Nat) (cap : Array Value) (w : World) :
    Calls Tryd.prog 16 #[calls ep nx s, .func (.func gs) #[] cap] w fun e w' => e = .returned (.func (.func 25) #[] #[.pointer (some ⟨w.heap.size, 0, none⟩), .pointer (some ⟨w.heap.size + 1, 0, none⟩)]) ∧
      w' = (w.alloc (.cells #[.int .i64 ep, .int .i64 nx, s] 37)).alloc (.cells #[.func (.func gs) #[] cap] 67) := by
  have hmf := mkfunc
  unfold calls
  go_enter Tryd.func16, Tryd.ntmps16
  go_wp2
  go_ret
  exact ⟨rfl, rfl⟩
end Go.Proofs.YthhgpiolcnojfaaDoor
