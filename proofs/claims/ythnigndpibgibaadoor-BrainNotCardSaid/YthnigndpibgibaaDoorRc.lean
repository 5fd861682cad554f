/- Records, gone over. -/
import Derived.Test.YthnigndpibgibaaDoorAp
import Derived.Test.YthnigndpibgibaaDoorItg
namespace Go.Proofs.YthnigndpibgibaaDoor
open Go.RowKit Go.Shelf
attribute [local go_sem] Oper.semAt_some

structure RecE where
  k : Int
  s : Value
  L : List Int
def encR (x : RecE) : List Value := [.int .u8 x.k, x.s]
def itemR (L : List RecE) (i : Fin L.length) : Array Value := #[recV (L.get i).k (L.get i).s]
theorem finAt (n k : Nat) (hk : k < n) : (List.finRange n)[k]? = some ⟨k, hk⟩ := by simp [hk]
theorem rowR {w : World} {b off : Nat} {l : List RecE} (h : RowAt 2 encR w b off l) {i : Nat} {x : RecE} (hi : l[i]? = some x) :
    w.cell? ⟨b, off + i * 2, none⟩ = some (.int .u8 x.k) ∧ w.cell? ⟨b, off + i * 2 + 1, none⟩ = some x.s := ⟨h i x hi 0 _ rfl, h i x hi 1 _ rfl⟩
set_option maxRecDepth 100000 in
set_option maxHeartbeats 2000000 in
theorem records1_in (n : Nat) (hn : 1 ≤ n) (l Bs : Nat) (S : Nat → Prop) (a : Option Addr) (c : Nat) (L : List RecE) (J Jx : List (Fin L.length) → World → Prop)
    (hl1 : L.length ≤ 9223372036854775807) (_hl2 : c ≤ 9223372036854775807) (hsl : ∀ x ∈ L, ∃ a n c, x.s = .slice a n c)
    (W : World) (hS : ∀ k, S k → k < W.heap.size) (hJ : AbidesFrom W.heap.size J)
    (hY : ∀ pre x W, J pre W → pre.length < L.length → YieldAt Fence.wide (n - 1) Tryd.prog l (itemR L x) W fun e W' =>
      (e = .returned (.bool true) ∧ J (pre ++ [x]) W' ∧ On S W W') ∨ (e = .returned (.bool false) ∧ Jx (pre ++ [x]) W'))
    (hBs : S Bs) (hs0 : W.cell? ⟨Bs, 0, none⟩ = some (.slice a L.length c))
    (hop : 0 < L.length → ∃ b off, a = some ⟨b, off, none⟩ ∧ S b ∧ RowAt 2 encR W b off L) (h0 : J [] W) :
    CallsIn Fence.wide n Tryd.prog 56 #[.func (.yield l) #[] #[], .pointer (some ⟨Bs, 0, none⟩)] W fun e W' => (∃ v, e = .returned v) ∧
      ((∃ ys, ys = List.finRange L.length ∧ J ys W') ∨ (∃ pre, True ∧ Jx pre W')) := by
  have HOP := hid hop
  have HY := hid hY
  have HSL := hid hsl
  have hls := hS _ hBs
  clear hop hY hsl
  refine callsIn_of_wp Tryd.func56 rfl trivial ?_ rfl
  simp only [Tryd.ntmps56, List.size_toArray, List.length_cons, List.length_nil, Nat.reduceAdd, Nat.reduceSub, Array.replicate_succ, Array.replicate_zero, List.push_toArray, List.append_toArray, List.nil_append, List.cons_append]
  gi_wp2
  gi_loopw [7] (fun i wr => ∃ k : Nat, k ≤ L.length ∧ i = .int .i64 k ∧ J ((List.finRange L.length).take k) wr ∧ On S W wr)
    (fun i _ => L.length - (intOf i).toNat)
  case atStart => exact ⟨0, Nat.zero_le _, rfl, h0, On.refl _ _⟩
  case round =>
    obtain ⟨k, hk, rfl, hJs, hB⟩ := hrel
    have hsz := hB.size
    by_cases hlt : k < L.length
    · obtain ⟨b, off, rfl, hb, hrow⟩ := HOP.out (by omega)
      obtain ⟨x, hx⟩ := get_lt hlt
      obtain ⟨g0, g1⟩ := rowR (hrow.on hB hb (hS b hb)) hx
      obtain ⟨sa, sn, sc, hsx⟩ := HSL.out x (mem_get hx)
      rw [hsx] at g1
      have HS := hid (take_snoc (List.finRange L.length) k ⟨k, hlt⟩ (finAt _ k hlt))
      have hb0 := hS b hb
      have hb1 : b < wr.heap.size := by omega
      have hkL : (k : Int) < (L.length : Int) := by omega
      have hgr : Below wr.heap.size wr (wr.alloc (.cells #[.int .u8 x.k, .slice sa sn sc] 37)) := (Below.refl _ _).alloc (Nat.le_refl _) _
      have hJ2 := hJ _ _ _ none hJs (grown_of_below hgr none) (by simp)
      obtain ⟨fn, tmps, assign, body, hy, hR⟩ := HY.out _ ⟨k, hlt⟩ _ hJ2 (by simp; omega)
      have hgx : L.get ⟨k, hlt⟩ = x := by rw [List.getElem?_eq_getElem hlt] at hx; cases hx; rfl
      dsimp only [itemR, recV] at hy
      rw [hgx, hsx] at hy
      have HSX := hid hsx
      have HR := hid hR
      have HB := hid (hB.trans_below hgr)
      clear hR hx hgr hJ2 hJs hrow hB hsx hgx
      gi_wp2
      refine HR.out.mono ?_
      rintro e W3 (⟨rfl, hJ3, hk3⟩ | ⟨rfl, hJx3⟩)
      · gi_wp2
        go_roundw
        case rel =>
          refine ⟨k + 1, by omega, by simp, ?_, HB.out.trans hk3⟩
          rw [HS.out]; exact hJ3
        case measure => simp [intOf]; omega
      · gi_wp2
        refine bodyPost_ret (results_none rfl _ _ _) rfl ?_
        exact ⟨⟨_, rfl⟩, .inr ⟨_, trivial, hJx3⟩⟩
    · obtain rfl : k = L.length := by omega
      have HJ := hid hJs
      clear hJs
      gi_wp2
      go_end0
      exact ⟨⟨_, rfl⟩, .inl ⟨_, rfl, by have := HJ.out; rwa [List.take_of_length_le (by simp)] at this⟩⟩
/-- records hands back a value that goes over records, in order. -/
theorem records_stops (n : Nat) (hn : 1 ≤ n) (Bs : Nat) (S : Nat → Prop) (s : Value) (L : List RecE) (w : World) (hS : ∀ k, S k → k < w.heap.size) (hBs : S Bs) (hs0 : w.cell? ⟨Bs, 0, none⟩ = some s)
    (hr : RowOf 2 encR w s L) (hb : ∀ b off l c, s = .slice (some ⟨b, off, none⟩) l c → 0 < l → S b) (hsl : ∀ x ∈ L, ∃ a n c, x.s = .slice a n c) :
    SeqStopsK Fence.wide n Tryd.prog 56 #[.pointer (some ⟨Bs, 0, none⟩)] (itemR L) (On S) (fun ys => ys = List.finRange L.length) (fun _ => True) L.length w := by
  intro l J Jx W hW hJ _ hY h0
  obtain ⟨a, c, rfl, hl1, hl2, hl3, hop⟩ := hr.open
  have hO : On S w W := On.of_below hW hS
  refine records1_in n hn l Bs S a c L J Jx hl1 hl2 hsl W (fun k hk => Nat.lt_of_lt_of_le (hS k hk) hW.size) hJ hY hBs ((hO.cell _ hBs (hS _ hBs)).trans hs0) (fun h0 => ?_) h0
  obtain ⟨b, off, rfl, hlt, hrow⟩ := hop h0
  exact ⟨b, off, rfl, hb b off _ _ rfl h0, hrow.on hO (hb b off _ _ rfl h0) hlt⟩
theorem records_any (a : Option Addr) (n c : Nat) (w : World) :
    Calls Tryd.prog 32 #[.slice a n c] w fun e w' => e = .returned (.func (.func 56) #[] #[.pointer (some ⟨w.heap.size, 0, none⟩)]) ∧ w' = w.alloc (.cells #[.slice a n c] 31) := by
  have hmf := mkfunc
  go_enter Tryd.func32, Tryd.ntmps32
  go_wp2
  go_ret
  exact ⟨rfl, rfl⟩
end Go.Proofs.YthnigndpibgibaaDoor
