import Derived.Test.YtgcajfglidflnaaGreatDoorSna
import Derived.Test.YtgcajfglidflnaaGreatDoorRcm
import Derived.Test.YtgcajfglidflnaaGreatDoorEqm
import Derived.Deep.Cut
import Derived.BigQuiet
/- reap.Begin, Ask, Due, Page; herdref21.Same, Great; herdref09.Same; herdref02.Same, of what is equal. -/
namespace Go.Proofs.YtgcajfglidflnaaGreatDoor
open Go.RowKit Go.Shelf

set_option maxHeartbeats 1000000 in
set_option maxRecDepth 100000 in
theorem rrec_same (k : Int) (s t : Value) (L : List Int) (w : World) (hs : RowOf 1 encI w s L) (ht : RowOf 1 encI w t L) (hL : L.length ≤ 1000000) :
  Calls Tryz.prog 20 #[recV k s, recV k t] w fun e w' => e = .returned (.bool true) ∧ Below w.heap.size w w' := by
 unfold recV
 obtain ⟨a, c, rfl, hl1, hl2, hl3, hop⟩ := hs.open
 obtain ⟨b, d, rfl, hm1, hm2, hm3, hoq⟩ := ht.open
 have HOP := hid hop
 have HOQ := hid hoq
 have d1 : (k != k) = false := by simp
 have d3 : ((L.length : Int) != (L.length : Int)) = false := by simp
 clear hop hoq hs ht
 go_enter Tryz.func20, Tryz.ntmps20
 go_wp2
 obtain ⟨wo, hwo⟩ : ∃ wo : World, wo = (w.alloc (.cells #[.int .u8 k, .slice a L.length c] 70)).alloc (.cells #[.int .u8 k, .slice b L.length d] 70) := ⟨_, rfl⟩
 have B0 : Hid (wo.heap[w.heap.size]? = some (.cells #[.int .u8 k, .slice a L.length c] 70)) := hid (by rw [hwo]; exact blk_alloc (heap_new w _) _)
 have B1 : Hid (wo.heap[w.heap.size + 1]? = some (.cells #[.int .u8 k, .slice b L.length d] 70)) := hid (by rw [hwo]; exact heap_new2 w _ _)
 have Z : Hid (Below w.heap.size w wo) := hid (by rw [hwo]; exact ((Below.refl _ _).alloc (Nat.le_refl _) _).alloc (by simp) _)
 rw [← hwo]
 clear hwo
 go_loopw [5] (fun i wr => ∃ k : Nat, k ≤ L.length ∧ i = .int .i64 k ∧ Below wo.heap.size wo wr) (fun i _ => L.length - (intOf i).toNat)
 case atStart => exact ⟨0, Nat.zero_le _, rfl, Below.refl _ _⟩
 case round =>
  obtain ⟨n, hk, rfl, hB⟩ := hrel
  have HB := hid hB
  have HBZ := hid (Z.out.trans (hB.mono Z.out.size))
  clear hB
  obtain ⟨b00, b01, b0f, b0l⟩ := blk2 (blk_below B0.out HB.out (blk_lt B0.out))
  obtain ⟨b10, b11, b1f, b1l⟩ := blk2 (blk_below B1.out HB.out (blk_lt B1.out))
  by_cases hlt : n < L.length
  ·obtain ⟨b1, o1, rfl, hb1, hr1⟩ := HOP.out (by omega)
   obtain ⟨b2, o2, rfl, hb2, hr2⟩ := HOQ.out (by omega)
   obtain ⟨x, hx⟩ := get_lt hlt
   have g0 := rowN1 (hr1.below HBZ.out hb1) hx
   have h0 := rowN1 (hr2.below HBZ.out hb2) hx
   have hkL : (n : Int) < (L.length : Int) := by omega
   have hz1 : b1 < wr.heap.size := by have := HBZ.out.size; omega
   have hz2 : b2 < wr.heap.size := by have := HBZ.out.size; omega
   have hne : (x != x) = false := by simp
   clear hx hr1 hr2
   go_wp2_with fail
   go_quiet (fail)
   go_wp2
   go_roundw
   case rel => exact ⟨n + 1, by omega, by go_num, below_drewN HB.out _⟩
   case measure => simp [intOf]; omega
  ·obtain rfl : n = L.length := by omega
   go_wp2
   go_ret
   exact ⟨rfl, HBZ.out⟩
def scanV (on : Bool) (frm beh : Int) (sv : Value) : Value := .agg #[.bool on, .int .i64 frm, .int .i64 beh, sv]
def tellV (c k d i : Int) (sv : Value) (m : Bool) : Value := .agg #[.int .i64 c, .int .u8 k, .int .u8 d, .int .i64 i, sv, .bool m]
theorem res_scan {fn : Func} {tmps : Array Value} {r : Tmp} {t : TypeId} {b : Nat} {c0 c1 c2 c3 : Value} {W : World} (hres : fn.results = #[.cell r 39]) (h : tmps.getD r undef = .pointer (some ⟨b, 0, none⟩)) (hb : W.heap[b]? = some (.cells #[c0, c1, c2, c3] t)) :
  (results fn tmps).run Tryz.prog W = .ok (.agg #[c0, c1, c2, c3]) W := by
 obtain ⟨k0, k1, k2, k3, _⟩ := blk4 hb
 rw [Array.getD_eq_getD_getElem?] at h
 simp [results, hres, go_sem, h, k0, k1, k2, k3]
theorem res_scan2 {fn : Func} {tmps : Array Value} {r q : Tmp} {t : TypeId} {b : Nat} {c0 c1 c2 c3 u : Value} {W : World} (hres : fn.results = #[.cell r 39, .tmp q]) (h : tmps.getD r undef = .pointer (some ⟨b, 0, none⟩)) (hq : tmps.getD q undef = u) (hb : W.heap[b]? = some (.cells #[c0, c1, c2, c3] t)) :
  (results fn tmps).run Tryz.prog W = .ok (.tuple #[.agg #[c0, c1, c2, c3], u]) W := by
 obtain ⟨k0, k1, k2, k3, _⟩ := blk4 hb
 rw [Array.getD_eq_getD_getElem?] at h hq
 simp [results, hres, go_sem, h, hq, k0, k1, k2, k3]
theorem res_ask {fn : Func} {tmps : Array Value} {r : Tmp} {t : TypeId} {b : Nat} {c0 c1 c2 c3 c4 c5 : Value} {W : World} (hres : fn.results = #[.cell r 66]) (h : tmps.getD r undef = .pointer (some ⟨b, 0, none⟩)) (hb : W.heap[b]? = some (.cells #[c0, c1, c2, c3, c4, c5] t)) :
  (results fn tmps).run Tryz.prog W = .ok (.agg #[c0, c1, c2, c3, c4, c5]) W := by
 have k0 := blk_cell hb 0
 have k1 := blk_cell hb 1
 have k2 := blk_cell hb 2
 have k3 := blk_cell hb 3
 have k4 := blk_cell hb 4
 have k5 := blk_cell hb 5
 simp only [List.getElem?_toArray, List.getElem?_cons_succ, List.getElem?_cons_zero] at k0 k1 k2 k3 k4 k5
 rw [Array.getD_eq_getD_getElem?] at h
 simp [results, hres, go_sem, h, k0, k1, k2, k3, k4, k5]
theorem begin_any (now : Int) (w : World) : Calls Tryz.prog 18 #[.int .i64 now] w fun e w' => e = .returned (scanV true now 0 (.slice none 0 0)) ∧ Below w.heap.size w w' := by
 go_enter Tryz.func18, Tryz.ntmps18
 go_wp2
 exact bodyPost_ret (res_scan (b := w.heap.size) rfl rfl (heap_new w _)) rfl ⟨rfl, (Below.refl _ _).alloc (Nat.le_refl _) _⟩
theorem ask21_any (on : Bool) (frm beh call : Int) (a : Option Addr) (n c : Nat) (w : World) : Calls Tryz.prog 19 #[scanV on frm beh (.slice a n c), .int .i64 call] w fun e w' => e = .returned (.agg #[.int .u8 7, .int .i64 call, .int .i64 beh, .int .i64 0, .int .i64 0, .int .i64 0]) ∧ Below w.heap.size w w' := by
 unfold scanV
 go_enter Tryz.func19, Tryz.ntmps19
 go_wp2
 exact bodyPost_ret (res_ask (b := w.heap.size + 1) rfl rfl (heap_new2 w _ _)) rfl ⟨rfl, ((Below.refl _ _).alloc (Nat.le_refl _) _).alloc (by simp) _⟩
theorem sneq_same (x : SeenV) (w : World) : (binOp .neq 49 (.agg #[.int .i64 x.id, .int .i64 x.token, .int .i64 x.version, .int .i64 x.zone, .bool x.on, .bool x.well, .bool x.inn]) (.agg #[.int .i64 x.id, .int .i64 x.token, .int .i64 x.version, .int .i64 x.zone, .bool x.on, .bool x.well, .bool x.inn])).run Tryz.prog w = .ok (.bool false) w := by
 simp [go_sem]
set_option maxHeartbeats 1000000 in
set_option maxRecDepth 100000 in
theorem same09_any (L : List SeenV) (s t : Value) (w : World) (hs : RowS w s L) (ht : RowS w t L) :
  Calls Tryz.prog 9 #[s, t] w fun e w' => e = .returned (.bool true) ∧ Below w.heap.size w w' := by
 obtain ⟨a, c, rfl, hl1, hl2, hl3, hop⟩ := hs.open
 obtain ⟨b, d, rfl, hm1, hm2, hm3, hoq⟩ := ht.open
 have HOP := hid hop
 have HOQ := hid hoq
 have d3 : ((L.length : Int) != (L.length : Int)) = false := by simp
 clear hop hoq hs ht
 go_enter Tryz.func9, Tryz.ntmps9
 go_wp2
 go_loopw [5] (fun i wr => ∃ k : Nat, k ≤ L.length ∧ i = .int .i64 k ∧ Below w.heap.size w wr) (fun i _ => L.length - (intOf i).toNat)
 case atStart => exact ⟨0, Nat.zero_le _, rfl, Below.refl _ _⟩
 case round =>
  obtain ⟨n, hk, rfl, hB⟩ := hrel
  have HB := hid hB
  clear hB
  by_cases hlt : n < L.length
  ·obtain ⟨b1, o1, rfl, hb1, hr1⟩ := HOP.out (by omega)
   obtain ⟨b2, o2, rfl, hb2, hr2⟩ := HOQ.out (by omega)
   obtain ⟨x, hx⟩ := get_lt hlt
   obtain ⟨g0, g1, g2, g3, g4, g5, g6⟩ := rowS (hr1.below HB.out hb1) hx
   obtain ⟨h0, h1, h2, h3, h4, h5, h6⟩ := rowS (hr2.below HB.out hb2) hx
   have hkL : (n : Int) < (L.length : Int) := by omega
   have hz1 : b1 < wr.heap.size := by have := HB.out.size; omega
   have hz2 : b2 < wr.heap.size := by have := HB.out.size; omega
   have hne := sneq_same x
   clear hx hr1 hr2
   go_wp2_with fail
   go_quiet (fail)
   go_wp2
   go_roundw
   case rel => exact ⟨n + 1, by omega, by go_num, below_drewN HB.out _⟩
   case measure => simp [intOf]; omega
  ·obtain rfl : n = L.length := by omega
   go_wp2
   go_ret
   exact ⟨rfl, HB.out⟩
theorem due7_any (beh : Int) (a : Option Addr) (n c : Nat) (w : World) : Calls Tryz.prog 21 #[scanV false 5 beh (.slice a n c), .agg #[.int .i64 0, .int .i64 0, .int .i64 0, .int .i64 0, .int .i64 0, .int .i64 0, .int .i64 0, .int .i64 0, .int .i64 2, .int .i64 0, .int .i64 0, .int .i64 0, .int .i64 0, .bool false, .slice none 0 0], .int .i64 7] w fun e w' => e = .returned (.bool true) ∧ Below w.heap.size w w' := by
 unfold scanV
 go_enter Tryz.func21, Tryz.ntmps21
 go_wp2
 go_ret
 exact ⟨rfl, ((Below.refl _ _).alloc (Nat.le_refl _) _).alloc (by simp) _⟩
theorem due6_any (beh : Int) (a : Option Addr) (n c : Nat) (w : World) : Calls Tryz.prog 21 #[scanV false 5 beh (.slice a n c), .agg #[.int .i64 0, .int .i64 0, .int .i64 0, .int .i64 0, .int .i64 0, .int .i64 0, .int .i64 0, .int .i64 0, .int .i64 2, .int .i64 0, .int .i64 0, .int .i64 0, .int .i64 0, .bool false, .slice none 0 0], .int .i64 6] w fun e w' => e = .returned (.bool false) ∧ Below w.heap.size w w' := by
 unfold scanV
 go_enter Tryz.func21, Tryz.ntmps21
 go_wp2
 go_ret
 exact ⟨rfl, ((Below.refl _ _).alloc (Nat.le_refl _) _).alloc (by simp) _⟩
end Go.Proofs.YtgcajfglidflnaaGreatDoor

/- reap.Page: a page is taken in. -/
namespace Go.Proofs.YtgcajfglidflnaaGreatDoor
open Go.RowKit Go.Shelf

/-- What Page ends with. -/
def PgEnd (on' : Bool) (frm beh' : Int) (L' : List SeenV) (wh : Bool) (w : World) (e : Ending) (w' : World) : Prop :=
 ∃ v, e = .returned (.tuple #[scanV on' frm beh' v, .bool wh]) ∧ OwnS w' w.heap.size v L' ∧ Below w.heap.size w w'
/-- Is it the page that is awaited? -/
def pageOk (on : Bool) (beh k d i : Int) : Prop := on = true ∧ k = 7 ∧ d = 1 ∧ i = beh
/-- What stands at Page's end. -/
def PgJ (w : World) (on' : Bool) (frm beh' : Int) (L' : List SeenV) (wh : Bool) (a' : Act) (W : World) : Prop :=
 ∃ (u0 u1 u2 u3 u6 u7 u8 u9 u10 u11 u12 u13 u14 u15 u16 u17 u18 u19 u20 u21 u22 u23 u24 u25 u26 u27 u28 u29 u30 u31 u32 u33 u34 u35 u36 u37 u38 u39 u40 u41 u42 u43 u44 u45 u46 u47 u48 u49 u50 v : Value), a' = { tmps := #[u0, u1, u2, u3, .pointer (some ⟨w.heap.size + 1 + 1, 0, none⟩), .bool wh, u6, u7, u8, u9, u10, u11, u12, u13, u14, u15, u16, u17, u18, u19, u20, u21, u22, u23, u24, u25, u26, u27, u28, u29, u30, u31, u32, u33, u34, u35, u36, u37, u38, u39, u40, u41, u42, u43, u44, u45, u46, u47, u48, u49, u50], defers := [] } ∧ W.heap[w.heap.size + 1 + 1]? = some (.cells #[.bool on', .int .i64 frm, .int .i64 beh', v] 39) ∧ OwnS W w.heap.size v L' ∧ Below w.heap.size w W
theorem set4 {W : World} {b : Nat} {a0 a1 a2 a3 : Value} {t : TypeId} (h : W.heap[b]? = some (.cells #[a0, a1, a2, a3] t)) (x0 x1 x2 x3 : Value) :
  ((((W.setCell ⟨b, 0, none⟩ x0).setCell ⟨b, 1, none⟩ x1).setCell ⟨b, 2, none⟩ x2).setCell ⟨b, 3, none⟩ x3).heap[b]? = some (.cells #[x0, x1, x2, x3] t) := by
 simpa using blk_set (blk_set (blk_set (blk_set h 0 x0) 1 x1) 2 x2) 3 x3
theorem set4_other {W : World} {b q : Nat} {o : Obj} (h : W.heap[q]? = some o) (hne : q ≠ b) (x0 x1 x2 x3 : Value) :
  ((((W.setCell ⟨b, 0, none⟩ x0).setCell ⟨b, 1, none⟩ x1).setCell ⟨b, 2, none⟩ x2).setCell ⟨b, 3, none⟩ x3).heap[q]? = some o := blk_far (blk_far (blk_far (blk_far h hne _) hne _) hne _) hne _
theorem set4_below {a : Nat} {w W : World} {b : Nat} (h : Below a w W) (hb : a ≤ b) (x0 x1 x2 x3 : Value) :
  Below a w ((((W.setCell ⟨b, 0, none⟩ x0).setCell ⟨b, 1, none⟩ x1).setCell ⟨b, 2, none⟩ x2).setCell ⟨b, 3, none⟩ x3) :=
 (((h.setCell (p := ⟨b, 0, none⟩) hb _).setCell (p := ⟨b, 1, none⟩) hb _).setCell (p := ⟨b, 2, none⟩) hb _).setCell (p := ⟨b, 3, none⟩) hb _
theorem set4_owns {W : World} {base b : Nat} {a0 a1 a2 a3 v : Value} {L : List SeenV} (h : OwnS W base v L) (hb : W.heap[b]? = some (.cells #[a0, a1, a2, a3] 39)) (x0 x1 x2 x3 : Value) :
  OwnS ((((W.setCell ⟨b, 0, none⟩ x0).setCell ⟨b, 1, none⟩ x1).setCell ⟨b, 2, none⟩ x2).setCell ⟨b, 3, none⟩ x3) base v L :=
 owns_at (owns_at (owns_at (owns_at h hb (by decide) 0 _) (blk_set hb 0 _) (by decide) 1 _) (blk_set (blk_set hb 0 _) 1 _) (by decide) 2 _) (blk_set (blk_set (blk_set hb 0 _) 1 _) 2 _) (by decide) 3 _
set_option maxRecDepth 100000 in
set_option maxHeartbeats 4000000 in
theorem page_any (on : Bool) (frm beh c k d i : Int) (sv tv : Value) (m : Bool) (L T : List SeenV) (w : World) (hs : RowS w sv L) (ht : RowS w tv T) (hL : L.length ≤ 1000) (hT : T.length ≤ 1000)
  (on' wh : Bool) (beh' : Int) (L' : List SeenV) (hcase : (pageOk on beh k d i ∧ on' = m ∧ beh' = nextL T beh ∧ L' = L ++ T ∧ wh = !m) ∨ (¬ pageOk on beh k d i ∧ on' = on ∧ beh' = beh ∧ L' = L ∧ wh = false)) :
  Calls Tryz.prog 17 #[scanV on frm beh sv, tellV c k d i tv m] w (PgEnd on' frm beh' L' wh w) := by
 obtain ⟨i0, hi, hz0, hz1, hz2⟩ := info_parts infoSn
 have HS := hid hs
 have HT := hid ht
 obtain ⟨sa, sc, rfl, _⟩ := hs.open
 obtain ⟨ta, tc, rfl, _⟩ := ht.open
 obtain ⟨W1, hW1⟩ : ∃ W1, W1 = ((w.alloc (.cells #[.bool on, .int .i64 frm, .int .i64 beh, .slice sa L.length sc] 39)).alloc (.cells #[.int .i64 c, .int .u8 k, .int .u8 d, .int .i64 i, .slice ta T.length tc, .bool m] 64)).alloc (.cells #[.bool false, .int .i64 0, .int .i64 0, .slice none 0 0] 39) := ⟨_, rfl⟩
 have hb1 : Below w.heap.size w W1 := by rw [hW1]; exact (((Below.refl _ _).alloc (Nat.le_refl _) _).alloc (by simp) _).alloc (by simp; omega) _
 have n0 : W1.heap[w.heap.size]? = some (.cells #[.bool on, .int .i64 frm, .int .i64 beh, .slice sa L.length sc] 39) := by rw [hW1]; exact blk_alloc (blk_alloc (heap_new _ _) _) _
 have n1 : W1.heap[w.heap.size + 1]? = some (.cells #[.int .i64 c, .int .u8 k, .int .u8 d, .int .i64 i, .slice ta T.length tc, .bool m] 64) := by rw [hW1]; exact blk_alloc (heap_new2 _ _ _) _
 have n2 : W1.heap[w.heap.size + 1 + 1]? = some (.cells #[.bool false, .int .i64 0, .int .i64 0, .slice none 0 0] 39) := by rw [hW1]; simpa using heap_new2 (w.alloc _) _ _
 have HB1 := hid hb1
 have N0 := hid n0
 have N1 := hid n1
 have N2 := hid n2
 have HW1 := hid hW1
 have HI := hid (And.intro hi (And.intro hz0 (And.intro hz1 hz2)))
 have HC := hid hcase
 clear hs ht hb1 n0 n1 n2 hW1 hi hz0 hz1 hz2 hcase
 unfold scanV tellV
 go_enter Tryz.func17, Tryz.ntmps17
 go_wp2_with fail
 refine wp_scope_jumps 0 (PgJ w on' frm beh' L' wh) (fun _ _ => 0) rfl ?first ?pass
 case pass =>
  rintro a' W ⟨u0, u1, u2, u3, u6, u7, u8, u9, u10, u11, u12, u13, u14, u15, u16, u17, u18, u19, u20, u21, u22, u23, u24, u25, u26, u27, u28, u29, u30, u31, u32, u33, u34, u35, u36, u37, u38, u39, u40, u41, u42, u43, u44, u45, u46, u47, u48, u49, u50, v, rfl, hz, ho, hb⟩
  dsimp only
  obtain ⟨va, vn, vc, rfl⟩ := ho.shape
  obtain ⟨z0, z1, z2, z3, zf, zl⟩ := blk4 hz
  have HZ := hid hz
  have HO := hid ho
  have HB := hid hb
  clear hz ho hb
  go_wp2
  try simp only [Exit.jump]
  exact bodyPost_ret (res_scan2 rfl rfl rfl (set4 HZ.out _ _ _ _)) rfl ⟨_, rfl, set4_owns HO.out HZ.out _ _ _ _, set4_below HB.out (by omega) _ _ _ _⟩
 case first =>
  rw [← HW1.out]
  clear HW1
  obtain ⟨a0, a1, a2, a3, af, al⟩ := blk4 N0.out
  obtain ⟨z0, z1, z2, z3, zf, zl⟩ := blk4 N2.out
  go_wp2_with fail
  obtain ⟨W2, hW2⟩ : ∃ W2, W2 = (((W1.setCell ⟨w.heap.size + 1 + 1, 0, none⟩ (.bool on)).setCell ⟨w.heap.size + 1 + 1, 1, none⟩ (.int .i64 frm)).setCell ⟨w.heap.size + 1 + 1, 2, none⟩ (.int .i64 beh)).setCell ⟨w.heap.size + 1 + 1, 3, none⟩ (.slice sa L.length sc) := ⟨_, rfl⟩
  have hb2 : Below w.heap.size w W2 := by rw [hW2]; exact set4_below HB1.out (by omega) _ _ _ _
  have m0 : W2.heap[w.heap.size]? = some (.cells #[.bool on, .int .i64 frm, .int .i64 beh, .slice sa L.length sc] 39) := by rw [hW2]; exact set4_other N0.out (by omega) _ _ _ _
  have m1 : W2.heap[w.heap.size + 1]? = some (.cells #[.int .i64 c, .int .u8 k, .int .u8 d, .int .i64 i, .slice ta T.length tc, .bool m] 64) := by rw [hW2]; exact set4_other N1.out (by omega) _ _ _ _
  have m2 : W2.heap[w.heap.size + 1 + 1]? = some (.cells #[.bool on, .int .i64 frm, .int .i64 beh, .slice sa L.length sc] 39) := by rw [hW2]; exact set4 N2.out _ _ _ _
  rw [← hW2]
  have HB2 := hid hb2
  have M0 := hid m0
  have M1 := hid m1
  have M2 := hid m2
  clear hb2 m0 m1 m2 hW2 a0 a1 a2 a3 af al z0 z1 z2 z3 zf zl N0 N1 N2 HB1
  refine (cloneS_any _ L W2 (by omega) (HS.out.below HB2.out)).mono ?_
  rintro e V0 ⟨v, rfl, ho, hb⟩
  obtain ⟨va, vn, vc, rfl⟩ := ho.shape
  have p2 := blk_below M2.out hb (blk_lt M2.out)
  obtain ⟨z0, z1, z2, z3, zf, zl⟩ := blk4 p2
  obtain ⟨V, hV⟩ : ∃ V, V = V0.setCell ⟨w.heap.size + 1 + 1, 3, none⟩ (.slice va vn vc) := ⟨_, rfl⟩
  have HBV := hid (show Below w.heap.size w V by rw [hV]; exact (HB2.out.trans (hb.mono HB2.out.size)).setCell (p := ⟨w.heap.size + 1 + 1, 3, none⟩) (by simp; omega) _)
  have P0 := hid (show V.heap[w.heap.size]? = some (.cells #[.bool on, .int .i64 frm, .int .i64 beh, .slice sa L.length sc] 39) by rw [hV]; exact blk_far (blk_below M0.out hb (blk_lt M0.out)) (by omega) _)
  have P1 := hid (show V.heap[w.heap.size + 1]? = some (.cells #[.int .i64 c, .int .u8 k, .int .u8 d, .int .i64 i, .slice ta T.length tc, .bool m] 64) by rw [hV]; exact blk_far (blk_below M1.out hb (blk_lt M1.out)) (by omega) _)
  have P2 := hid (show V.heap[w.heap.size + 1 + 1]? = some (.cells #[.bool on, .int .i64 frm, .int .i64 beh, .slice va vn vc] 39) by rw [hV]; simpa using blk_set p2 3 (.slice va vn vc))
  have HOB := hid (show ∀ g, (Value.slice va vn vc).ownBlock = some g → w.heap.size + 1 + 1 < g from fun g e => by have := (Owns.block ho g e).1; have := blk_lt M2.out; omega)
  have HO := hid (show OwnS V w.heap.size (.slice va vn vc) L by rw [hV]; exact owns_at (ho.mono HB2.out.size) p2 (by decide) 3 _)
  have HV := hid hV
  clear ho hb p2 hV
  go_upto_region 3 with (fail)
  rw [← HV.out]
  clear HV z0 z1 z2 z3 zf zl M0 M1 M2
  obtain ⟨a0, a1, a2, a3, af, al⟩ := blk4 P0.out
  have t1 : V.cell? ⟨w.heap.size + 1, 1, none⟩ = some (.int .u8 k) := blk_cell P1.out 1
  have t2 : V.cell? ⟨w.heap.size + 1, 2, none⟩ = some (.int .u8 d) := blk_cell P1.out 2
  have t3 : V.cell? ⟨w.heap.size + 1, 3, none⟩ = some (.int .i64 i) := blk_cell P1.out 3
  have t4 : V.cell? ⟨w.heap.size + 1, 4, none⟩ = some (.slice ta T.length tc) := blk_cell P1.out 4
  have t5 : V.cell? ⟨w.heap.size + 1, 5, none⟩ = some (.bool m) := blk_cell P1.out 5
  have tl := blk_lt P1.out
  by_cases hok : pageOk on beh k d i
  ·obtain ⟨rfl, rfl, rfl, rfl⟩ := hok
   obtain ⟨rfl, rfl, rfl, rfl⟩ : on' = m ∧ beh' = nextL T i ∧ L' = L ++ T ∧ wh = !m := by
    rcases HC.out with h | h
    ·exact h.2
    ·exact absurd ⟨rfl, rfl, rfl, rfl⟩ h.1
   clear HC
   have c1 : L.length + T.length ≤ maxLen := by unfold maxLen; omega
   have c2 : (L.length + T.length) * 40 ≤ 140737488355328 := by omega
   obtain ⟨z0, z1, z2, z3, zf, zl⟩ := blk4 P2.out
   go_wp2_with (at_builtin; go_loud (refine append_rows rfl _ _ 37 rfl w.heap.size 49 i0 _ 40 Tryz.underlying37 HI.out.1 HI.out.2.1 HI.out.2.2.1 HI.out.2.2.2 rfl (by decide) encSn_len encSn_one _ L rfl HO.out _ T rfl (HT.out.below HBV.out) c1 c2 HBV.out.size ?_); intro v' w1 hown hgrow; obtain ⟨na, nn, nc, rfl⟩ := Owns.shape hown; have q0 := blk_grown P0.out hgrow (fun e => by have := HOB.out _ e.symm; omega); have q1 := blk_grown P1.out hgrow (fun e => by have := HOB.out _ e.symm; omega); have q2 := blk_grown P2.out hgrow (fun e => by have := HOB.out _ e.symm; omega); have HBW := hid (HBV.out.grown hgrow HBV.out.size (fun g e => by have := HOB.out g e; omega)); have HOWN := hid hown; have Q0 := hid q0; have Q1 := hid q1; have Q2 := hid q2; clear a0 a1 a2 a3 af al t1 t2 t3 t4 t5 tl z0 z1 z2 z3 zf zl; obtain ⟨a0, a1, a2, a3, af, al⟩ := blk4 q0; have t4 : w1.cell? ⟨w.heap.size + 1, 4, none⟩ = some (.slice ta T.length tc) := blk_cell q1 4; have tl := blk_lt q1; obtain ⟨z0, z1, z2, z3, zf, zl⟩ := blk4 q2; clear hown hgrow q0 q1 q2)
   obtain ⟨X0, hX0⟩ : ∃ X0, X0 = w1.setCell ⟨w.heap.size + 1 + 1, 3, none⟩ (.slice na nn nc) := ⟨_, rfl⟩
   have HBX0 := hid (show Below w.heap.size w X0 by rw [hX0]; exact HBW.out.setCell (p := ⟨w.heap.size + 1 + 1, 3, none⟩) (by simp; omega) _)
   have R1 := hid (show X0.heap[w.heap.size + 1]? = some (.cells #[.int .i64 c, .int .u8 7, .int .u8 1, .int .i64 i, .slice ta T.length tc, .bool on'] 64) by rw [hX0]; exact blk_far Q1.out (by omega) _)
   have R2 := hid (show X0.heap[w.heap.size + 1 + 1]? = some (.cells #[.bool true, .int .i64 frm, .int .i64 i, .slice na nn nc] 39) by rw [hX0]; simpa using blk_set Q2.out 3 (.slice na nn nc))
   have HO0 := hid (show OwnS X0 w.heap.size (.slice na nn nc) (L ++ T) by rw [hX0]; exact owns_at HOWN.out Q2.out (by decide) 3 _)
   rw [← hX0]
   clear hX0 a0 a1 a2 a3 af al t4 tl z0 z1 z2 z3 zf zl c1 c2 Q0 Q1 Q2 P0 P1 P2 HO HOWN
   refine (next_any _ T i X0 (HT.out.below HBX0.out)).mono ?_
   rintro e X ⟨rfl, hb⟩
   have S1 := hid (blk_below R1.out hb (blk_lt R1.out))
   have S2 := hid (blk_below R2.out hb (blk_lt R2.out))
   have HO1 := hid (Owns.below HO0.out hb)
   have HBX := hid (HBX0.out.trans (hb.mono HBX0.out.size))
   obtain ⟨nx, hnx⟩ : ∃ nx, nextL T i = nx := ⟨_, rfl⟩
   rw [hnx]
   have HNX := hid hnx
   clear hb hnx R1 R2 HO0 HBX0
   have t5 : X.cell? ⟨w.heap.size + 1, 5, none⟩ = some (.bool on') := blk_cell S1.out 5
   have tl := blk_lt S1.out
   obtain ⟨z0, z1, z2, z3, zf, zl⟩ := blk4 S2.out
   go_wp2_with fail
   go_region
   obtain ⟨Y, hY⟩ : ∃ Y, Y = ((X.setCell ⟨w.heap.size + 1 + 1, 2, none⟩ (.int .i64 nx)).setCell ⟨w.heap.size + 1 + 1, 0, none⟩ (.bool on')).drew := ⟨_, rfl⟩
   have HBY := hid (show Below w.heap.size w Y by rw [hY]; exact below_drewN ((HBX.out.setCell (p := ⟨w.heap.size + 1 + 1, 2, none⟩) (by simp; omega) _).setCell (p := ⟨w.heap.size + 1 + 1, 0, none⟩) (by simp; omega) _) 1)
   have HY2 := hid (show Y.heap[w.heap.size + 1 + 1]? = some (.cells #[.bool on', .int .i64 frm, .int .i64 nx, .slice na nn nc] 39) by rw [hY]; exact (show ((X.setCell ⟨w.heap.size + 1 + 1, 2, none⟩ (.int .i64 nx)).setCell ⟨w.heap.size + 1 + 1, 0, none⟩ (.bool on')).heap[w.heap.size + 1 + 1]? = _ by simpa using blk_set (blk_set S2.out 2 (.int .i64 nx)) 0 (.bool on')))
   have HOY := hid (show OwnS Y w.heap.size (.slice na nn nc) (L ++ T) from by rw [hY]; exact owns_at (owns_at HO1.out S2.out (by decide) 2 _) (blk_set S2.out 2 _) (by decide) 0 _)
   rw [← hY]
   clear hY z0 z1 z2 z3 zf zl t5 tl S1 S2 HO1 HBX
   obtain ⟨z0, z1, z2, z3, zf, zl⟩ := blk4 HY2.out
   go_wp2
   refine wp_label ?_
   simp only [Exit.then]
   go_wp2
   try simp only [Exit.jump]
   exact bodyPost_ret (res_scan2 rfl rfl rfl (set4 HY2.out _ _ _ _)) rfl ⟨_, by rw [HNX.out]; rfl, set4_owns HOY.out HY2.out _ _ _ _, set4_below HBY.out (by omega) _ _ _ _⟩
  ·obtain ⟨rfl, rfl, rfl, rfl⟩ : on' = on ∧ beh' = beh ∧ L' = L ∧ wh = false := by
    rcases HC.out with h | h
    ·exact absurd h.1 hok
    ·exact h.2
   clear HC
   cases on' with
   | false =>
    clear hok
    go_wp2
    refine wp_goto ?_
    simp only [Exit.then, Exit.jump]
    exact ⟨trivial, _, _, _, _, _, _, _, _, _, _, _, _, _, _, _, _, _, _, _, _, _, _, _, _, _, _, _, _, _, _, _, _, _, _, _, _, _, _, _, _, _, _, _, _, _, _, _, _, _, _, rfl, P2.out, HO.out, HBV.out⟩
   | true =>
    by_cases hk : k = 7
    ·subst hk
     by_cases hd : d = 1
     ·subst hd
      have hi : ¬ i = beh' := fun e => hok ⟨rfl, rfl, rfl, e⟩
      clear hok
      go_wp2
      refine wp_goto ?_
      simp only [Exit.then, Exit.jump]
      exact ⟨trivial, _, _, _, _, _, _, _, _, _, _, _, _, _, _, _, _, _, _, _, _, _, _, _, _, _, _, _, _, _, _, _, _, _, _, _, _, _, _, _, _, _, _, _, _, _, _, _, _, _, _, rfl, P2.out, HO.out, HBV.out⟩
     ·clear hok
      go_wp2
      refine wp_goto ?_
      simp only [Exit.then, Exit.jump]
      exact ⟨trivial, _, _, _, _, _, _, _, _, _, _, _, _, _, _, _, _, _, _, _, _, _, _, _, _, _, _, _, _, _, _, _, _, _, _, _, _, _, _, _, _, _, _, _, _, _, _, _, _, _, _, rfl, P2.out, HO.out, HBV.out⟩
    ·clear hok
     go_wp2
     refine wp_goto ?_
     simp only [Exit.then, Exit.jump]
     exact ⟨trivial, _, _, _, _, _, _, _, _, _, _, _, _, _, _, _, _, _, _, _, _, _, _, _, _, _, _, _, _, _, _, _, _, _, _, _, _, _, _, _, _, _, _, _, _, _, _, _, _, _, _, rfl, P2.out, HO.out, HBV.out⟩
end Go.Proofs.YtgcajfglidflnaaGreatDoor
