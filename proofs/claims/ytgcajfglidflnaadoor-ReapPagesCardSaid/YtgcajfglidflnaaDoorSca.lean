import Derived.Test.YtgcajfglidflnaaDoorSna
import Derived.Test.YtgcajfglidflnaaDoorRcm
import Derived.Test.YtgcajfglidflnaaDoorEqm
import Derived.Deep.Cut
import Derived.BigQuiet
/- reap.Begin, Ask, Due, Page; herdref21.Same, Great; herdref09.Same; herdref02.Same, of what is equal. -/
namespace Go.Proofs.YtgcajfglidflnaaDoor
open Go.RowKit Go.Shelf

set_option maxHeartbeats 1000000 in
set_option maxRecDepth 100000 in
theorem rrec_same (k : Int) (s t : Value) (L : List Int) (w : World) (hs : RowOf 1 encI w s L) (ht : RowOf 1 encI w t L) (hL : L.length ≤ 1000000) :
    Calls Tryd.prog 19 #[recV k s, recV k t] w fun e w' => e = .returned (.bool true) ∧ Below w.heap.size w w' := by
  unfold recV
  obtain ⟨a, c, rfl, hl1, hl2, hl3, hop⟩ := hs.open
  obtain ⟨b, d, rfl, hm1, hm2, hm3, hoq⟩ := ht.open
  have HOP := hid hop
  have HOQ := hid hoq
  have d1 : (k != k) = false := by simp
  have d3 : ((L.length : Int) != (L.length : Int)) = false := by simp
  clear hop hoq hs ht
  go_enter Tryd.func19, Tryd.ntmps19
  go_wp2
  obtain ⟨wo, hwo⟩ : ∃ wo : World, wo = (w.alloc (.cells #[.int .u8 k, .slice a L.length c] 62)).alloc (.cells #[.int .u8 k, .slice b L.length d] 62) := ⟨_, rfl⟩
  have B0 : Hid (wo.heap[w.heap.size]? = some (.cells #[.int .u8 k, .slice a L.length c] 62)) := hid (by rw [hwo]; exact blk_alloc (heap_new w _) _)
  have B1 : Hid (wo.heap[w.heap.size + 1]? = some (.cells #[.int .u8 k, .slice b L.length d] 62)) := hid (by rw [hwo]; exact heap_new2 w _ _)
  have Z : Hid (Below w.heap.size w wo) := hid (by rw [hwo]; exact ((Below.refl _ _).alloc (Nat.le_refl _) _).alloc (by simp) _)
  rw [← hwo]
  clear hwo
  go_loopw [5] (fun i wr => ∃ k : Nat, k ≤ L.length ∧ i = .int .i64 k ∧ Below wo.heap.size wo wr) (fun i _ => L.length - (intOf i).toNat)
  case atStart => exact ⟨0, Nat.zero_le _, rfl, Below.refl _ _⟩
  case round =>
    obtain ⟨n, hk, rfl, hB⟩ := hrel
    have HB := hid hB
    have HBZ := hid (Z.out.trans (hB.mono Z.out.size))
    clear hB
    obtain ⟨b00, b01, b0f, b0l⟩ := blk2 (blk_below B0.out HB.out (blk_lt B0.out))
    obtain ⟨b10, b11, b1f, b1l⟩ := blk2 (blk_below B1.out HB.out (blk_lt B1.out))
    by_cases hlt : n < L.length
    · obtain ⟨b1, o1, rfl, hb1, hr1⟩ := HOP.out (by omega)
      obtain ⟨b2, o2, rfl, hb2, hr2⟩ := HOQ.out (by omega)
      obtain ⟨x, hx⟩ := get_lt hlt
      have g0 := rowN1 (hr1.below HBZ.out hb1) hx
      have h0 := rowN1 (hr2.below HBZ.out hb2) hx
      have hkL : (n : Int) < (L.length : Int) := by omega
      have hz1 : b1 < wr.heap.size := by have := HBZ.out.size; omega
      have hz2 : b2 < wr.heap.size := by have := HBZ.out.size; omega
      have hne : (x != x) = false := by simp
      clear hx hr1 hr2
      go_wp2_with fail
      go_quiet (fail)
      go_wp2
      go_roundw
      case rel => exact ⟨n + 1, by omega, by go_num, below_drewN HB.out _⟩
      case measure => simp [intOf]; omega
    · obtain rfl : n = L.length := by omega
      go_wp2
      go_ret
      exact ⟨rfl, HBZ.out⟩
def scanV (on : Bool) (frm beh : Int) (sv : Value) : Value := .agg #[.bool on, .int .i64 frm, .int .i64 beh, sv]
def tellV (c k d i : Int) (sv : Value) (m : Bool) : Value := .agg #[.int .i64 c, .int .u8 k, .int .u8 d, .int .i64 i, sv, .bool m]
theorem res_scan {fn : Func} {tmps : Array Value} {r : Tmp} {t : TypeId} {b : Nat} {c0 c1 c2 c3 : Value} {W : World} (hres : fn.results = #[.cell r 33]) (h : tmps.getD r undef = .pointer (some ⟨b, 0, none⟩)) (hb : W.heap[b]? = some (.cells #[c0, c1, c2, c3] t)) :
    (results fn tmps).run Tryd.prog W = .ok (.agg #[c0, c1, c2, c3]) W := by
  obtain ⟨k0, k1, k2, k3, _⟩ := blk4 hb
  rw [Array.getD_eq_getD_getElem?] at h
  simp [results, hres, go_sem, h, k0, k1, k2, k3]
theorem res_scan2 {fn : Func} {tmps : Array Value} {r q : Tmp} {t : TypeId} {b : Nat} {c0 c1 c2 c3 u : Value} {W : World} (hres : fn.results = #[.cell r 33, .tmp q]) (h : tmps.getD r undef = .pointer (some ⟨b, 0, none⟩)) (hq : tmps.getD q undef = u) (hb : W.heap[b]? = some (.cells #[c0, c1, c2, c3] t)) :
    (results fn tmps).run Tryd.prog W = .ok (.tuple #[.agg #[c0, c1, c2, c3], u]) W := by
  obtain ⟨k0, k1, k2, k3, _⟩ := blk4 hb
  rw [Array.getD_eq_getD_getElem?] at h hq
  simp [results, hres, go_sem, h, hq, k0, k1, k2, k3]
theorem res_ask {fn : Func} {tmps : Array Value} {r : Tmp} {t : TypeId} {b : Nat} {c0 c1 c2 c3 c4 c5 : Value} {W : World} (hres : fn.results = #[.cell r 58]) (h : tmps.getD r undef = .pointer (some ⟨b, 0, none⟩)) (hb : W.heap[b]? = some (.cells #[c0, c1, c2, c3, c4, c5] t)) :
    (results fn tmps).run Tryd.prog W = .ok (.agg #[c0, c1, c2, c3, c4, c5]) W := by
  have k0 := blk_cell hb 0
  have k1 := blk_cell hb 1
  have k2 := blk_cell hb 2
  have k3 := blk_cell hb 3
  have k4 := blk_cell hb 4
  have k5 := blk_cell hb 5
  simp only [List.getElem?_toArray, List.getElem?_cons_succ, List.getElem?_cons_zero] at k0 k1 k2 k3 k4 k5
  rw [Array.getD_eq_getD_getElem?] at h
  simp [results, hres, go_sem, h, k0, k1, k2, k3, k4, k5]
theorem begin_any (now : Int) (w : World) : Calls Tryd.prog 17 #[.int .i64 now] w fun e w' => e = .returned (scanV true now 0 (.slice none 0 0)) ∧ Below w.heap.size w w' := by
  go_enter Tryd.func17, Tryd.ntmps17
  go_wp2
  exact bodyPost_ret (res_scan (b := w.heap.size) rfl rfl (heap_new w _)) rfl ⟨rfl, (Below.refl _ _).alloc (Nat.le_refl _) _⟩
theorem ask21_any (on : Bool) (frm beh call : Int) (a : Option Addr) (n c : Nat) (w : World) : Calls Tryd.prog 18 #[scanV on frm beh (.slice a n c), .int .i64 call] w fun e w' => e = .returned (.agg #[.int .u8 7, .int .i64 call, .int .i64 beh, .int .i64 0, .int .i64 0, .int .i64 0]) ∧ Below w.heap.size w w' := by
  unfold scanV
  go_enter Tryd.func18, Tryd.ntmps18
  go_wp2
  exact bodyPost_ret (res_ask (b := w.heap.size + 1) rfl rfl (heap_new2 w _ _)) rfl ⟨rfl, ((Below.refl _ _).alloc (Nat.le_refl _) _).alloc (by simp) _⟩
theorem great21_any (on : Bool) (frm beh : Int) (sv : Value) (L : List SeenV) (w : World) (hs : RowS w sv L) (q : Bool) (hq : decide ((60 : Int) < (L.length : Int)) = q) : Calls Tryd.prog 8 #[scanV on frm beh sv] w fun e w' => e = .returned (.bool q) ∧ Below w.heap.size w w' := by
  obtain ⟨a, c, rfl, _⟩ := hs.open
  clear hs
  unfold scanV
  go_enter Tryd.func8, Tryd.ntmps8
  go_wp2
  go_ret
  exact ⟨rfl, (Below.refl _ _).alloc (Nat.le_refl _) _⟩
theorem sneq_same (x : SeenV) (w : World) : (binOp .neq 44 (.agg #[.int .i64 x.id, .int .i64 x.token, .int .i64 x.version, .int .i64 x.zone, .bool x.on, .bool x.well, .bool x.inn]) (.agg #[.int .i64 x.id, .int .i64 x.token, .int .i64 x.version, .int .i64 x.zone, .bool x.on, .bool x.well, .bool x.inn])).run Tryd.prog w = .ok (.bool false) w := by
  simp [go_sem]
set_option maxHeartbeats 1000000 in
set_option maxRecDepth 100000 in
theorem same09_any (L : List SeenV) (s t : Value) (w : World) (hs : RowS w s L) (ht : RowS w t L) :
    Calls Tryd.prog 29 #[s, t] w fun e w' => e = .returned (.bool true) ∧ Below w.heap.size w w' := by
  obtain ⟨a, c, rfl, hl1, hl2, hl3, hop⟩ := hs.open
  obtain ⟨b, d, rfl, hm1, hm2, hm3, hoq⟩ := ht.open
  have HOP := hid hop
  have HOQ := hid hoq
  have d3 : ((L.length : Int) != (L.length : Int)) = false := by simp
  clear hop hoq hs ht
  go_enter Tryd.func29, Tryd.ntmps29
  go_wp2
  go_loopw [5] (fun i wr => ∃ k : Nat, k ≤ L.length ∧ i = .int .i64 k ∧ Below w.heap.size w wr) (fun i _ => L.length - (intOf i).toNat)
  case atStart => exact ⟨0, Nat.zero_le _, rfl, Below.refl _ _⟩
  case round =>
    obtain ⟨n, hk, rfl, hB⟩ := hrel
    have HB := hid hB
    clear hB
    by_cases hlt : n < L.length
    · obtain ⟨b1, o1, rfl, hb1, hr1⟩ := HOP.out (by omega)
      obtain ⟨b2, o2, rfl, hb2, hr2⟩ := HOQ.out (by omega)
      obtain ⟨x, hx⟩ := get_lt hlt
      obtain ⟨g0, g1, g2, g3, g4, g5, g6⟩ := rowS (hr1.below HB.out hb1) hx
      obtain ⟨h0, h1, h2, h3, h4, h5, h6⟩ := rowS (hr2.below HB.out hb2) hx
      have hkL : (n : Int) < (L.length : Int) := by omega
      have hz1 : b1 < wr.heap.size := by have := HB.out.size; omega
      have hz2 : b2 < wr.heap.size := by have := HB.out.size; omega
      have hne := sneq_same x
      clear hx hr1 hr2
      go_wp2_with fail
      go_quiet (fail)
      go_wp2
      go_roundw
      case rel => exact ⟨n + 1, by omega, by go_num, below_drewN HB.out _⟩
      case measure => simp [intOf]; omega
    · obtain rfl : n = L.length := by omega
      go_wp2
      go_ret
      exact ⟨rfl, HB.out⟩
set_option maxHeartbeats 1000000 in
theorem same21_any (on : Bool) (frm beh : Int) (s t : Value) (L : List SeenV) (w : World) (hs : RowS w s L) (ht : RowS w t L) :
    Calls Tryd.prog 15 #[scanV on frm beh s, scanV on frm beh t] w fun e w' => e = .returned (.bool true) ∧ Below w.heap.size w w' := by
  have HS := hid hs
  have HT := hid ht
  obtain ⟨a, c, rfl, _⟩ := hs.open
  obtain ⟨b, d, rfl, _⟩ := ht.open
  have d1 : (on == on) = true := by simp
  have d2 : (frm == frm) = true := by simp
  have d3 : (beh == beh) = true := by simp
  clear hs ht
  obtain ⟨W1, hW1⟩ : ∃ W1, W1 = (w.alloc (.cells #[.bool on, .int .i64 frm, .int .i64 beh, .slice a L.length c] 33)).alloc (.cells #[.bool on, .int .i64 frm, .int .i64 beh, .slice b L.length d] 33) := ⟨_, rfl⟩
  have hb1 : Below w.heap.size w W1 := by rw [hW1]; exact ((Below.refl _ _).alloc (Nat.le_refl _) _).alloc (by simp) _
  have HB := hid hb1
  have HA := hid (same09_any L _ _ W1 (HS.out.below hb1) (HT.out.below hb1))
  have HW := hid hW1
  clear hb1 hW1
  unfold scanV
  go_enter Tryd.func15, Tryd.ntmps15
  go_wp2_with fail
  rw [← HW.out]
  refine HA.out.mono ?_
  rintro e V ⟨rfl, hb⟩
  have HV := hid (HB.out.trans (hb.mono HB.out.size))
  clear hb
  go_wp2
  go_ret
  exact ⟨rfl, HV.out⟩
theorem due7_any (beh : Int) (a : Option Addr) (n c : Nat) (w : World) : Calls Tryd.prog 20 #[scanV false 5 beh (.slice a n c), .agg #[.int .i64 0, .int .i64 0, .int .i64 0, .int .i64 0, .int .i64 0, .int .i64 0, .int .i64 0, .int .i64 0, .int .i64 2, .int .i64 0, .int .i64 0, .int .i64 0, .int .i64 0, .bool false, .slice none 0 0], .int .i64 7] w fun e w' => e = .returned (.bool true) ∧ Below w.heap.size w w' := by
  unfold scanV
  go_enter Tryd.func20, Tryd.ntmps20
  go_wp2
  go_ret
  exact ⟨rfl, ((Below.refl _ _).alloc (Nat.le_refl _) _).alloc (by simp) _⟩
theorem due6_any (beh : Int) (a : Option Addr) (n c : Nat) (w : World) : Calls Tryd.prog 20 #[scanV false 5 beh (.slice a n c), .agg #[.int .i64 0, .int .i64 0, .int .i64 0, .int .i64 0, .int .i64 0, .int .i64 0, .int .i64 0, .int .i64 0, .int .i64 2, .int .i64 0, .int .i64 0, .int .i64 0, .int .i64 0, .bool false, .slice none 0 0], .int .i64 6] w fun e w' => e = .returned (.bool false) ∧ Below w.heap.size w w' := by
  unfold scanV
  go_enter Tryd.func20, Tryd.ntmps20
  go_wp2
  go_ret
  exact ⟨rfl, ((Below.refl _ _).alloc (Nat.le_refl _) _).alloc (by simp) _⟩
end Go.Proofs.YtgcajfglidflnaaDoor
