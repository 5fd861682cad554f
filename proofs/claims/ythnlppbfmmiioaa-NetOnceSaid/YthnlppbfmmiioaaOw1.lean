/- The iterator of net.each, at asks and at answers. -/
import Derived.Test.YthnlppbfmmiioaaOw0
namespace Go.Proofs.Ythnlppbfmmiioaa
open Go.RowKit Go.Shelf
attribute [local go_sem] Oper.semAt_some

theorem On.putObj {S : Nat → Prop} {a w : World} (h : On S a w) {l : Nat} (hl : ¬ S l) (o : Obj) : On S a (w.putObj l o) :=
  ⟨by simpa [World.putObj] using h.size, fun k hk hlt => by
    rw [← h.block k hk hlt]; simp only [World.putObj, Array.getElem?_setIfInBounds]; rw [if_neg (fun e => hl (by rw [e]; exact hk))]⟩
theorem blk_put {b D : Nat} {W : World} {c : Array Value} {t : TypeId} {o : Obj} (h : W.heap[b]? = some (.cells c t)) (hD : W.heap[D]? = some o) (ho : o.isCells = false) (o' : Obj) : (W.putObj D o').heap[b]? = some (.cells c t) := by
  have hne : ¬ D = b := by rintro rfl; rw [h] at hD; cases hD; cases ho
  simp only [World.putObj, Array.getElem?_setIfInBounds]; rw [if_neg hne]; exact h
theorem below_put {B D : Nat} {a W : World} (h : Below B a W) (hD : B ≤ D) (o : Obj) : Below B a (W.putObj D o) :=
  ⟨h.os, h.tape, h.output, by simpa [World.putObj] using h.size, fun k hk => by
    rw [← h.block k hk]; simp only [World.putObj, Array.getElem?_setIfInBounds]; rw [if_neg (by omega)]⟩
theorem keeps_set {a w : World} (h : KeepsOthers a w) (p : Addr) (u : Value) : KeepsOthers a (w.setCell p u) := h.trans (KeepsOthers.setCell _ _ _)
theorem RowOf.on {α : Type} {k : Nat} {enc : α → List Value} {w w' : World} {v : Value} {l : List α} {S : Nat → Prop} (h : RowOf k enc w v l) (hO : On S w w') (hb : ∀ b off n c, v = .slice (some ⟨b, off, none⟩) n c → 0 < n → S b) : RowOf k enc w' v l := by
  rcases h with h | ⟨h0, b, off, c, rfl, h1, h2, hbl, hr⟩
  · exact .inl h
  · exact .inr ⟨h0, b, off, c, rfl, h1, h2, Nat.lt_of_lt_of_le hbl hO.size, hr.on hO (hb b off _ _ rfl h0) hbl⟩

set_option maxRecDepth 100000 in
set_option maxHeartbeats 2000000 in
theorem eachA_in (n : Nat) (hn : 1 ≤ n) (l Bl Bs : Nat) (S : Nat → Prop) (a : Option Addr) (c : Nat) (L : List AskV) (J : List AskV → World → Prop)
    (hl1 : L.length ≤ 9223372036854775807) (_hl2 : c ≤ 9223372036854775807)
    (W : World) (hS : ∀ k, S k → k < W.heap.size) (hJ : AbidesFrom W.heap.size J)
    (hY : ∀ pre x W1, J pre W1 → pre.length < L.length → YieldAt Fence.wide (n - 1) Try.prog l #[aggA x] W1 fun e W' => e = .returned (.bool true) ∧ J (pre ++ [x]) W' ∧ On S W1 W')
    (hBl : S Bl) (hBs : S Bs) (hc2 : W.cell? ⟨Bl, 0, none⟩ = some (.slice a L.length c)) (hs0 : W.cell? ⟨Bs, 0, none⟩ = some (.func (.func 31) #[] #[]))
    (hop : 0 < L.length → ∃ b off, a = some ⟨b, off, none⟩ ∧ S b ∧ RowAt 6 encA W b off L) (h0 : J [] W) :
    CallsIn Fence.wide n Try.prog 43 #[.func (.yield l) #[] #[], .pointer (some ⟨Bl, 0, none⟩), .pointer (some ⟨Bs, 0, none⟩)] W fun e W' => (∃ v, e = .returned v) ∧ ∃ ys, ys = L ∧ J ys W' := by
  have HOP := hid hop
  have HY := hid hY
  have HJ := hid hJ
  clear hop hY hJ
  refine callsIn_of_wp Try.func43 rfl trivial ?_ rfl
  simp only [Try.ntmps43, List.size_toArray, List.length_cons, List.length_nil, Nat.reduceAdd, Nat.reduceSub, Array.replicate_succ, Array.replicate_zero, List.push_toArray, List.append_toArray, List.nil_append, List.cons_append]
  gi_wp2
  gi_loopw [8] (fun i wr => ∃ k : Nat, k ≤ L.length ∧ i = .int .i64 k ∧ J (L.take k) wr ∧ On S W wr)
    (fun i _ => L.length - (intOf i).toNat)
  case atStart => exact ⟨0, Nat.zero_le _, rfl, h0, On.refl _ _⟩
  case round =>
    obtain ⟨k, hk, rfl, hJs, hB⟩ := hrel
    have hsz := hB.size
    have hc2r := (hB.cell 0 hBl (hS _ hBl)).trans hc2
    have hs0r := (hB.cell 0 hBs (hS _ hBs)).trans hs0
    by_cases hlt : k < L.length
    · obtain ⟨b, off, rfl, hb, hrow⟩ := HOP.out (by omega)
      obtain ⟨x, hx⟩ := get_lt hlt
      obtain ⟨g0, g1, g2, g3, g4, g5⟩ := rowA (hrow.on hB hb (hS b hb)) hx
      have HS := hid (take_snoc L k x hx)
      clear hx
      have hb0 := hS b hb
      have hb3 := hS Bs hBs
      have hb1 : b < wr.heap.size := by omega
      have hb2 : Bs < wr.heap.size := by omega
      have HB := hid hB
      have HJS := hid hJs
      clear hB hJs
      have HC := hid (nsm_any x)
      gi_wp2
      refine ⟨trivial, callsIn_wide.2 ((HC.out _).mono ?_)⟩
      rintro e w2 ⟨rfl, hw2⟩
      have hgr : Below wr.heap.size wr w2 := ((Below.refl _ _).alloc (Nat.le_refl _) _).trans (hw2.mono (by simp))
      have hJ2 := HJ.out _ _ _ none HJS.out (grown_of_below hgr none) (by simp)
      obtain ⟨fn, tmps, assign, body, hy, hR⟩ := HY.out _ x w2 hJ2 (by simp; omega)
      have HGR := hid hgr
      dsimp only [aggA] at hy ⊢
      have HR := hid hR
      clear hR hw2 hgr hJ2
      gi_wp2
      refine HR.out.mono ?_
      rintro e W3 ⟨rfl, hJ3, hk3⟩
      have HJ3 := hid hJ3
      have HK3 := hid hk3
      clear hJ3 hk3
      gi_wp2
      go_roundw
      case rel => exact ⟨k + 1, by omega, by simp, by rw [HS.out]; exact HJ3.out, (HB.out.trans_below HGR.out).trans HK3.out⟩
      case measure => simp [intOf]; omega
    · obtain rfl : k = L.length := by omega
      have HJS := hid hJs
      clear hJs
      gi_wp2
      go_end0
      exact ⟨⟨_, rfl⟩, _, rfl, by have := HJS.out; rwa [List.take_length] at this⟩

theorem eachA_all (n : Nat) (hn : 1 ≤ n) (Bl Bs : Nat) (S : Nat → Prop) (s : Value) (L : List AskV) (w : World) (hS : ∀ k, S k → k < w.heap.size)
    (hBl : S Bl) (hBs : S Bs) (hc : w.cell? ⟨Bl, 0, none⟩ = some s) (hs0 : w.cell? ⟨Bs, 0, none⟩ = some (.func (.func 31) #[] #[]))
    (hr : RowA w s L) (hb : ∀ b off l c, s = .slice (some ⟨b, off, none⟩) l c → 0 < l → S b) :
    SeqAll Fence.wide n Try.prog 43 #[.pointer (some ⟨Bl, 0, none⟩), .pointer (some ⟨Bs, 0, none⟩)] (fun x : AskV => #[aggA x]) (On S) (fun _ _ => True) (fun xs => xs = L) L.length w := by
  intro l J W hW hJ hY h0
  obtain ⟨a, c, rfl, hl1, hl2, hl3, hop⟩ := hr.open
  have hO : On S w W := On.of_below hW hS
  refine eachA_in n hn l Bl Bs S a c L J hl1 hl2 W (fun k hk => Nat.lt_of_lt_of_le (hS k hk) hW.size) hJ (fun pre x W1 h1 h2 => hY pre x W1 h1 trivial h2) hBl hBs ((hO.cell _ hBl (hS _ hBl)).trans hc) ((hO.cell _ hBs (hS _ hBs)).trans hs0) (fun h0 => ?_) h0
  obtain ⟨b, off, rfl, hlt, hrow⟩ := hop h0
  exact ⟨b, off, rfl, hb b off _ _ rfl h0, hrow.on hO (hb b off _ _ rfl h0) hlt⟩

/-- An answer, and how it lies. -/
abbrev TellP := TellM × TellV

set_option maxRecDepth 100000 in
set_option maxHeartbeats 2000000 in
theorem eachT_in (n : Nat) (hn : 1 ≤ n) (l Bl Bs : Nat) (S : Nat → Prop) (a : Option Addr) (c : Nat) (ms : List TellM) (L : List TellV) (J : List TellP → World → Prop) (B : Nat)
    (hl1 : ms.length ≤ 9223372036854775807) (_hl2 : c ≤ 9223372036854775807) (hsn : seenOk 1000000 L) (hlen : ms.length = L.length)
    (W : World) (hS : ∀ k, S k → k < W.heap.size) (hJ : AbidesFrom W.heap.size J) (hBW : B ≤ W.heap.size)
    (hY : ∀ pre (x : TellP) W1, J pre W1 → TellOwn W1 B x.1 x.2 → pre.length < L.length → YieldAt Fence.wide (n - 1) Try.prog l #[aggT x.1] W1 fun e W' => e = .returned (.bool true) ∧ J (pre ++ [x]) W' ∧ On S W1 W')
    (hBl : S Bl) (hBs : S Bs) (hc2 : W.cell? ⟨Bl, 0, none⟩ = some (.slice a ms.length c)) (hs0 : W.cell? ⟨Bs, 0, none⟩ = some (.func (.func 28) #[] #[]))
    (hop : 0 < ms.length → ∃ b off, a = some ⟨b, off, none⟩ ∧ S b ∧ RowAt 6 encT W b off ms)
    (htl : ∀ (i : Nat) m t, ms[i]? = some m → L[i]? = some t → TellIs W m t ∧ ∀ b off l c, m.sv = .slice (some ⟨b, off, none⟩) l c → 0 < l → S b) (h0 : J [] W) :
    CallsIn Fence.wide n Try.prog 44 #[.func (.yield l) #[] #[], .pointer (some ⟨Bl, 0, none⟩), .pointer (some ⟨Bs, 0, none⟩)] W fun e W' => (∃ v, e = .returned v) ∧ ∃ ys : List TellP, ys.map (·.2) = L ∧ J ys W' := by
  have HOP := hid hop
  have HY := hid hY
  have HJ := hid hJ
  have HTL := hid htl
  have HSN := hid hsn
  have HLEN := hid hlen
  clear hop hY hJ htl hsn hlen
  refine callsIn_of_wp Try.func44 rfl trivial ?_ rfl
  simp only [Try.ntmps44, List.size_toArray, List.length_cons, List.length_nil, Nat.reduceAdd, Nat.reduceSub, Array.replicate_succ, Array.replicate_zero, List.push_toArray, List.append_toArray, List.nil_append, List.cons_append]
  gi_wp2
  gi_loopw [8] (fun i wr => ∃ (k : Nat) (ys : List TellP), k ≤ ms.length ∧ i = .int .i64 k ∧ ys.map (·.2) = L.take k ∧ J ys wr ∧ On S W wr)
    (fun i _ => ms.length - (intOf i).toNat)
  case atStart => exact ⟨0, [], Nat.zero_le _, rfl, rfl, h0, On.refl _ _⟩
  case round =>
    obtain ⟨k, ys, hk, rfl, hys, hJs, hB⟩ := hrel
    have hsz := hB.size
    have hc2r := (hB.cell 0 hBl (hS _ hBl)).trans hc2
    have hs0r := (hB.cell 0 hBs (hS _ hBs)).trans hs0
    have HYS := hid hys
    clear hys
    by_cases hlt : k < ms.length
    · obtain ⟨b, off, rfl, hb, hrow⟩ := HOP.out (by omega)
      obtain ⟨x, hx⟩ := get_lt hlt
      obtain ⟨t, ht⟩ := get_lt (show k < L.length by rw [← HLEN.out]; exact hlt)
      obtain ⟨⟨hrx, hvx⟩, hsx⟩ := HTL.out k x t hx ht
      have hrx2 := RowOf.on hrx hB hsx
      obtain ⟨xa, xc, hxs⟩ := shape_row hrx
      obtain ⟨xcall, xkind, xcode, xid, xsv, xmore⟩ := x
      simp only at hxs
      subst hxs
      obtain ⟨g0, g1, g2, g3, g4, g5⟩ := rowT (hrow.on hB hb (hS b hb)) hx
      have HS := hid (take_snoc L k t ht)
      have hts := HSN.out t (mem_get ht)
      have HVX := hid hvx
      have HRX := hid hrx2
      clear hx ht hvx hrx hrx2 hsx
      have hb0 := hS b hb
      have hb3 := hS Bs hBs
      have hb1 : b < wr.heap.size := by omega
      have hb2 : Bs < wr.heap.size := by omega
      have HB := hid hB
      have HJS := hid hJs
      clear hB hJs
      have HC := hid (fun o => nown_any xcall xkind xcode xid xa t.seen.length xc xmore t.seen (wr.alloc o) hts (RowOf.below HRX.out ((Below.refl _ _).alloc (Nat.le_refl _) _)))
      gi_wp2
      refine ⟨trivial, callsIn_wide.2 ((HC.out _).mono ?_)⟩
      rintro e w2 ⟨a', n', c', rfl, hown, hw2⟩
      have hgr : Below wr.heap.size wr w2 := ((Below.refl _ _).alloc (Nat.le_refl _) _).trans (hw2.mono (by simp))
      have hJ2 := HJ.out _ _ _ none HJS.out (grown_of_below hgr none) (by simp)
      have hG : TellOwn w2 B ⟨xcall, xkind, xcode, xid, .slice a' n' c', xmore⟩ t := ⟨Owns.mono hown (by simp; omega), HVX.out⟩
      have hyl : ys.length < L.length := by have := congrArg List.length HYS.out; simp at this; have := HLEN.out; omega
      obtain ⟨fn, tmps, assign, body, hy, hR⟩ := HY.out _ (⟨xcall, xkind, xcode, xid, .slice a' n' c', xmore⟩, t) w2 hJ2 hG hyl
      have HGR := hid hgr
      dsimp only [aggT] at hy
      have HR := hid hR
      clear hR hw2 hgr hJ2 hG hown hyl
      gi_wp2
      refine HR.out.mono ?_
      rintro e W3 ⟨rfl, hJ3, hk3⟩
      have HJ3 := hid hJ3
      have HK3 := hid hk3
      clear hJ3 hk3
      gi_wp2
      go_roundw
      case rel => exact ⟨k + 1, _, by omega, by simp, by rw [HS.out, List.map_append, HYS.out]; rfl, HJ3.out, (HB.out.trans_below HGR.out).trans HK3.out⟩
      case measure => simp [intOf]; omega
    · obtain rfl : k = ms.length := by omega
      have HJS := hid hJs
      clear hJs
      gi_wp2
      go_end0
      exact ⟨⟨_, rfl⟩, ys, by rw [HYS.out, HLEN.out, List.take_length], HJS.out⟩

theorem eachT_all (n : Nat) (hn : 1 ≤ n) (Bl Bs : Nat) (S : Nat → Prop) (s : Value) (ms : List TellM) (L : List TellV) (w : World) (hS : ∀ k, S k → k < w.heap.size) (hsn : seenOk 1000000 L)
    (hBl : S Bl) (hBs : S Bs) (hc : w.cell? ⟨Bl, 0, none⟩ = some s) (hs0 : w.cell? ⟨Bs, 0, none⟩ = some (.func (.func 28) #[] #[]))
    (hr : RowT w s ms) (ht : TellsIs w ms L) (hb : ∀ b off l c, s = .slice (some ⟨b, off, none⟩) l c → 0 < l → S b)
    (hbs : ∀ m ∈ ms, ∀ b off l c, m.sv = .slice (some ⟨b, off, none⟩) l c → 0 < l → S b) (B : Nat) (hB : B ≤ w.heap.size) :
    SeqAll Fence.wide n Try.prog 44 #[.pointer (some ⟨Bl, 0, none⟩), .pointer (some ⟨Bs, 0, none⟩)] (fun x : TellP => #[aggT x.1]) (On S) (fun x W => TellOwn W B x.1 x.2) (fun xs => xs.map (·.2) = L) L.length w := by
  intro l J W hW hJ hY h0
  obtain ⟨a, c, rfl, hl1, hl2, hl3, hop⟩ := hr.open
  have hO : On S w W := On.of_below hW hS
  refine eachT_in n hn l Bl Bs S a c ms L J B hl1 hl2 hsn ht.1 W (fun k hk => Nat.lt_of_lt_of_le (hS k hk) hW.size) hJ (Nat.le_trans hB hW.size) hY hBl hBs ((hO.cell _ hBl (hS _ hBl)).trans hc) ((hO.cell _ hBs (hS _ hBs)).trans hs0) (fun h0 => ?_) (fun i m t hm ht' => ?_) h0
  · obtain ⟨b, off, rfl, hlt, hrow⟩ := hop h0
    exact ⟨b, off, rfl, hb b off _ _ rfl h0, hrow.on hO (hb b off _ _ rfl h0) hlt⟩
  · exact ⟨⟨RowOf.on (ht.2 i m t hm ht').1 hO (hbs m (mem_get hm)), (ht.2 i m t hm ht').2⟩, hbs m (mem_get hm)⟩

set_option maxHeartbeats 1000000 in
theorem each_askv (s : Value) (w : World) (a : Option Addr) (n c : Nat) (hs : s = .slice a n c) :
    Calls Try.prog 30 #[s, .func (.func 31) #[] #[]] w fun e w' => e = .returned (.func (.func 43) #[] #[.pointer (some ⟨w.heap.size, 0, none⟩), .pointer (some ⟨w.heap.size + 1, 0, none⟩)]) ∧
      w' = (w.alloc (.cells #[s] 22)).alloc (.cells #[.func (.func 31) #[] #[]] 63) := by
  have hmf := mkfunc
  subst hs
  go_enter Try.func30, Try.ntmps30
  go_wp2
  go_ret
  exact ⟨rfl, rfl⟩
set_option maxHeartbeats 1000000 in
theorem each_tellv (s : Value) (w : World) (a : Option Addr) (n c : Nat) (hs : s = .slice a n c) :
    Calls Try.prog 32 #[s, .func (.func 28) #[] #[]] w fun e w' => e = .returned (.func (.func 44) #[] #[.pointer (some ⟨w.heap.size, 0, none⟩), .pointer (some ⟨w.heap.size + 1, 0, none⟩)]) ∧
      w' = (w.alloc (.cells #[s] 23)).alloc (.cells #[.func (.func 28) #[] #[]] 59) := by
  have hmf := mkfunc
  subst hs
  go_enter Try.func32, Try.ntmps32
  go_wp2
  go_ret
  exact ⟨rfl, rfl⟩
end Go.Proofs.Ythnlppbfmmiioaa
