import Derived.Test.YtgcajfglidflnaaGreatDoorClo
import Derived.Test.YtgcajfglidflnaaGreatDoorPga
import Derived.Deep.RegionHeld3
import Derived.Lib.QuietBelow
import Derived.BigQuiet
/- herdref09: what is shown of a box, all that is shown, a page, an answer. -/
namespace Go.Proofs.YtgcajfglidflnaaGreatDoor
open Go.RowKit Go.Shelf

/-- What is shown of a box. -/
def seenOf (x : BoxV) : SeenV := ⟨x.id, x.token, x.version, x.zone, x.on, x.well, x.lb == 1⟩
def shownBx (x : BoxV) : Bool := x.tag && !x.gone
/-- All that is shown. -/
def allC (L : List BoxV) : List SeenV := (L.filter shownBx).map seenOf
theorem allC_snoc {L : List BoxV} {n : Nat} {x : BoxV} (h : L[n]? = some x) : allC (L.take (n + 1)) = if shownBx x then allC (L.take n) ++ [seenOf x] else allC (L.take n) := by
 have hlt := lt_get h
 rw [List.getElem?_eq_getElem hlt] at h
 cases h
 rw [List.take_add_one, List.getElem?_eq_getElem hlt]
 unfold allC
 simp only [Option.toList_some, List.filter_append, List.map_append, List.filter_cons, List.filter_nil]
 cases shownBx L[n] <;> simp
theorem allC_len (L : List BoxV) : (allC L).length ≤ L.length := by
 unfold allC
 rw [List.length_map]
 exact List.length_filter_le _ _
theorem res_seen {fn : Func} {tmps : Array Value} {r : Tmp} {t : TypeId} {b : Nat} {c0 c1 c2 c3 c4 c5 c6 : Value} {W : World} (hres : fn.results = #[.cell r 49]) (h : tmps.getD r undef = .pointer (some ⟨b, 0, none⟩)) (hb : W.heap[b]? = some (.cells #[c0, c1, c2, c3, c4, c5, c6] t)) :
  (results fn tmps).run Tryz.prog W = .ok (.agg #[c0, c1, c2, c3, c4, c5, c6]) W := by
 have k0 := blk_cell hb 0
 have k1 := blk_cell hb 1
 have k2 := blk_cell hb 2
 have k3 := blk_cell hb 3
 have k4 := blk_cell hb 4
 have k5 := blk_cell hb 5
 have k6 := blk_cell hb 6
 simp only [List.getElem?_toArray, List.getElem?_cons_succ, List.getElem?_cons_zero] at k0 k1 k2 k3 k4 k5 k6
 rw [Array.getD_eq_getD_getElem?] at h
 simp [results, hres, go_sem, h, k0, k1, k2, k3, k4, k5, k6]
theorem seen09_any (x : BoxV) (w : World) : Calls Tryz.prog 23 #[.agg #[.int .i64 x.id, .int .i64 x.token, .int .i64 x.version, .int .i64 x.zone, .bool x.tag, .bool x.on, .bool x.gone, .bool x.well, .int .u8 x.lb, .int .i64 x.til, .int .i64 x.fence]] w fun e w' => e = .returned (.agg #[.int .i64 x.id, .int .i64 x.token, .int .i64 x.version, .int .i64 x.zone, .bool x.on, .bool x.well, .bool (x.lb == 1)]) ∧ Below w.heap.size w w' := by
 obtain ⟨id, token, version, zone, tag, on, gone, well, lb, til, fence⟩ := x
 dsimp only
 go_enter Tryz.func23, Tryz.ntmps23
 go_wp2
 exact bodyPost_ret (res_seen (b := w.heap.size + 1) rfl rfl (heap_new2 w _ _)) rfl ⟨rfl, ((Below.refl _ _).alloc (Nat.le_refl _) _).alloc (by simp) _⟩
theorem bs_sn1 (x : SeenV) (w : World) : (Instr.buildSlice 37 1 #[(0, .agg #[.int .i64 x.id, .int .i64 x.token, .int .i64 x.version, .int .i64 x.zone, .bool x.on, .bool x.well, .bool x.inn])]).run Tryz.prog w = .ok (.slice (some ⟨w.heap.size, 0, none⟩) 1 1) (w.alloc (.cells #[.int .i64 x.id, .int .i64 x.token, .int .i64 x.version, .int .i64 x.zone, .bool x.on, .bool x.well, .bool x.inn] 49)) := by kernel_rfl
theorem new_sn1 (W : World) (x : SeenV) : ∀ (j : Nat) u, (encSn x)[j]? = some u → (W.alloc (.cells #[.int .i64 x.id, .int .i64 x.token, .int .i64 x.version, .int .i64 x.zone, .bool x.on, .bool x.well, .bool x.inn] 49)).cell? ((⟨W.heap.size, 0, none⟩ : Addr).add j) = some u := by
 intro j u hj
 rw [show ((⟨W.heap.size, 0, none⟩ : Addr).add j) = ⟨W.heap.size, j, none⟩ by unfold Addr.add; split <;> simp_all]
 rw [blk_cell (heap_new W _)]
 simpa [encSn] using hj
attribute [-go_sem] Instr.buildSlice
set_option maxRecDepth 100000 in
set_option maxHeartbeats 4000000 in
theorem all09_any (C : CloudV) (s : Value) (w : World) (hC : CloudR C) (hs : RowOf 11 encBx w s C.boxes) :
  Calls Tryz.prog 10 #[.agg (cloudA C s)] w fun e w' => ∃ v, e = .returned v ∧ OwnS w' w.heap.size v (allC C.boxes) ∧ Below w.heap.size w w' := by
 obtain ⟨i0, hi, hz0, hz1, hz2⟩ := info_parts infoSn
 have HI := hid (And.intro hi (And.intro hz0 (And.intro hz1 hz2)))
 have HR := fun W (hb : Below w.heap.size w W) => rright08_any C s true (by simp [hC]) W (hs.below hb)
 have h60 := hC.len
 obtain ⟨L, floor, drain, now, tight⟩ := C
 unfold cloudA at HR ⊢
 dsimp only at hs HR h60 ⊢
 obtain ⟨a, c, rfl, _, _, _, hop⟩ := hs.open
 have HOP := hid hop
 have HR := hid HR
 have H60 := hid h60
 obtain ⟨W1, hW1⟩ : ∃ W1, W1 = w.alloc (.cells #[.slice a L.length c, .int .i64 floor, .int .i64 drain, .int .i64 now, .bool tight] 24) := ⟨_, rfl⟩
 have n1 : W1.heap[w.heap.size]? = some (.cells #[.slice a L.length c, .int .i64 floor, .int .i64 drain, .int .i64 now, .bool tight] 24) := by rw [hW1]; exact heap_new _ _
 have HB := hid (show Below w.heap.size w W1 by rw [hW1]; exact (Below.refl _ _).alloc (Nat.le_refl _) _)
 have N1 := hid n1
 have HW1 := hid hW1
 clear n1 hop hs hW1 hC h60 hi hz0 hz1 hz2
 go_enter Tryz.func10, Tryz.ntmps10
 go_wp2
 rw [← HW1.out]
 go_loopw [4, 3] (fun iv ov wr => ∃ n : Nat, n ≤ L.length ∧ iv = .int .i64 n ∧ OwnS wr W1.heap.size ov (allC (L.take n)) ∧ Below W1.heap.size W1 wr) (fun iv _ _ => L.length - (intOf iv).toNat)
 case atStart => exact ⟨0, Nat.zero_le _, rfl, Owns.nil _ _, Below.refl _ _⟩
 case round =>
  obtain ⟨n, hn, rfl, ho, hBr⟩ := hrel
  have HBr := hid hBr
  have HBW := hid (HB.out.trans (hBr.mono HB.out.size))
  have hal := allC_len (L.take n)
  have hA60 : (allC (L.take n)).length ≤ 60 := by have := H60.out; rw [List.length_take] at hal; omega
  obtain ⟨A, hA⟩ : ∃ A, allC (L.take n) = A := ⟨_, rfl⟩
  rw [hA] at ho hA60
  have HA := hid hA
  have HA60 := hid hA60
  have HOW := hid ho
  obtain ⟨va, vn, vc, rfl⟩ := ho.shape
  have N2 := hid (blk_below N1.out hBr (blk_lt N1.out))
  clear hBr ho hal hA hA60
  obtain ⟨c0, c1, c2, c3, c4, cf, cl⟩ := blk5 N2.out
  by_cases hlt : n < L.length
  ·have hnL : (n : Int) < (L.length : Int) := by omega
   have HRW := hid (HR.out wr HBW.out)
   go_wp2_with fail
   refine HRW.out.mono ?_
   rintro e Z ⟨rfl, hb⟩
   have HBZ := hid (HBW.out.trans (hb.mono HBW.out.size))
   have HBZ1 := hid (HBr.out.trans (hb.mono HBr.out.size))
   have HOZ := hid (Owns.below HOW.out hb)
   have N3 := hid (blk_below N2.out hb (blk_lt N2.out))
   clear hb c0 c1 c2 c3 c4 cf cl N2 HOW
   obtain ⟨c0, c1, c2, c3, c4, cf, cl⟩ := blk5 N3.out
   obtain ⟨b1, o1, rfl, hb1, hr1⟩ := HOP.out (by omega)
   obtain ⟨x, hx⟩ := get_lt hlt
   have hl1 : b1 < Z.heap.size := Nat.lt_of_lt_of_le hb1 HBZ.out.size
   obtain ⟨g0, g1, g2, g3, g4, g5, g6, g7, g8, g9, g10⟩ := rowBx (hr1.below HBZ.out hb1) hx
   have HX := hid hx
   clear hx hr1
   obtain ⟨id, token, version, zone, tag, on, gone, well, lb, til, fence⟩ := x
   dsimp only at g0 g1 g2 g3 g4 g5 g6 g7 g8 g9 g10
   cases tag with
   | false =>
    have HN := hid (show allC (L.take (n + 1)) = A by rw [allC_snoc HX.out]; exact HA.out)
    go_wp2
    go_roundw
    case rel => exact ⟨n + 1, by omega, by go_num, by rw [HN.out]; exact HOZ.out, HBZ1.out⟩
    case measure => simp [intOf]; omega
   | true =>
    cases gone with
    | true =>
     have HN := hid (show allC (L.take (n + 1)) = A by rw [allC_snoc HX.out]; exact HA.out)
     go_wp2
     go_roundw
     case rel => exact ⟨n + 1, by omega, by go_num, by rw [HN.out]; exact HOZ.out, HBZ1.out⟩
     case measure => simp [intOf]; omega
    | false =>
     have HN := hid (show allC (L.take (n + 1)) = A ++ [⟨id, token, version, zone, on, well, lb == 1⟩] by rw [allC_snoc HX.out, HA.out]; rfl)
     have hsn := seen09_any ⟨id, token, version, zone, true, on, false, well, lb, til, fence⟩
     dsimp only at hsn
     have HSN := hid hsn
     clear hsn
     go_wp2_with fail
     refine (HSN.out _).mono ?_
     rintro e Y ⟨rfl, hb⟩
     have HBY := hid (HBZ1.out.trans (hb.mono HBZ1.out.size))
     have HOY := hid (Owns.below HOZ.out hb)
     have hbs := bs_sn1 ⟨id, token, version, zone, on, well, lb == 1⟩
     dsimp only at hbs
     have hAl : A.length ≤ 60 := HA60.out
     clear hb c0 c1 c2 c3 c4 cf cl g0 g1 g2 g3 g4 g5 g6 g7 g8 g9 g10 HSN
     go_wp2_with (at_builtin; go_loud (refine append_one rfl _ _ 37 rfl W1.heap.size 49 i0 _ 40 Tryz.underlying37 HI.out.1 HI.out.2.1 HI.out.2.2.1 HI.out.2.2.2 rfl (by decide) encSn_len encSn_one _ A rfl (Owns.below HOY.out ((Below.refl _ _).alloc (Nat.le_refl _) _)) ⟨Y.heap.size, 0, none⟩ ⟨id, token, version, zone, on, well, lb == 1⟩ rfl (new_sn1 Y ⟨id, token, version, zone, on, well, lb == 1⟩) (by unfold maxLen; omega) (by omega) (by have := HBY.out.size; simp; omega) ?_); intro v' w1 hown hbel hgrow; have HOWN := hid hown; have HB1 := hid ((HBY.out.alloc HBY.out.size _).trans hbel); clear hown hbel hgrow)
     go_roundw
     case rel => exact ⟨n + 1, by omega, by go_num, by rw [HN.out]; exact HOWN.out, HB1.out⟩
     case measure => simp [intOf]; omega
  ·obtain rfl : n = L.length := by omega
   go_wp2
   go_ret
   exact ⟨_, rfl, by have := HA.out; rw [List.take_length] at this; rw [this]; exact HOW.out.mono HB.out.size, HBW.out⟩
end Go.Proofs.YtgcajfglidflnaaGreatDoor

/- A cloud's listing, page by page: plain. -/
namespace Go.Proofs.YtgcajfglidflnaaGreatDoor
open Go.RowKit Go.Shelf

theorem allC_rise {C : CloudV} (h : CloudR C) : (allC C.boxes).Pairwise fun a b => a.id < b.id := by
 unfold allC
 rw [List.pairwise_map]
 refine List.Pairwise.filter _ (List.pairwise_iff_getElem.2 fun i j hi hj hij => ?_)
 have h1 := boxB_id (h.box i _ (List.getElem?_eq_getElem hi))
 have h2 := boxB_id (h.box j _ (List.getElem?_eq_getElem hj))
 unfold seenOf
 dsimp only
 omega
theorem allC_in {C : CloudV} (h : CloudR C) {x : SeenV} (hx : x ∈ allC C.boxes) : 1 ≤ x.id ∧ x.id ≤ 60 ∧ numP x.token = true ∧ numP x.version = true ∧ numP x.zone = true := by
 unfold allC at hx
 obtain ⟨b, hb, rfl⟩ := List.mem_map.1 hx
 obtain ⟨i, hi, he⟩ := List.mem_iff_getElem.1 ((List.mem_filter.1 hb).1)
 have hg : C.boxes[i]? = some b := by rw [List.getElem?_eq_getElem hi, he]
 have h1 := boxB_id (h.box i _ hg)
 have h2 := h.box i _ hg
 have h3 := h.len
 unfold boxB at h2
 simp only [Bool.and_eq_true] at h2
 refine ⟨?_, ?_, h2.2.1, h2.2.2.1, h2.2.2.2.1⟩ <;> unfold seenOf <;> dsimp only <;> omega
theorem nextL_up : ∀ (l : List SeenV) (b : Int), b ≤ nextL l b ∧ ∀ x ∈ l, x.id ≤ nextL l b
 | [], b => ⟨by unfold nextL; simp, fun x hx => by simp at hx⟩
 | y :: l, b => by
  have h : nextL (y :: l) b = nextL l (max b y.id) := rfl
  have hi := nextL_up l (max b y.id)
  rw [h]
  refine ⟨by have := hi.1; omega, fun x hx => ?_⟩
  rcases List.mem_cons.1 hx with rfl | hx
  ·have := hi.1; omega
  ·exact hi.2 x hx
theorem nextL_lt {u : Int} : ∀ (l : List SeenV) (b : Int), b < u → (∀ x ∈ l, x.id < u) → nextL l b < u
 | [], b, hb, _ => by unfold nextL; simpa using hb
 | y :: l, b, hb, h => by
  have h1 := h y (List.mem_cons_self ..)
  have := nextL_lt l (max b y.id) (by omega) fun x hx => h x (List.mem_cons_of_mem _ hx)
  exact this
/-- A page. -/
def ofL (A : List SeenV) (b : Int) : List SeenV := (A.filter fun x => decide (b < x.id)).take 3
def moreL (A : List SeenV) (b : Int) : Bool := decide (3 < (A.filter fun x => decide (b < x.id)).length)
/-- How far a listing has come. -/
structure PgI (A : List SeenV) (i : Nat) (pre post : List SeenV) (b : Int) : Prop where
 all : A = pre ++ post
 low : ∀ x ∈ pre, x.id ≤ b
 high : ∀ x ∈ post, b < x.id
 len : pre.length = 3 * i
 left : 0 < post.length ∨ i = 0
theorem PgI.filter {A : List SeenV} {i : Nat} {pre post : List SeenV} {b : Int} (h : PgI A i pre post b) : (A.filter fun x => decide (b < x.id)) = post := by
 rw [h.all, List.filter_append, List.filter_eq_nil_iff.2 (fun x hx => by have := h.low x hx; simp; omega), List.filter_eq_self.2 (fun x hx => by have := h.high x hx; simpa using this), List.nil_append]
theorem PgI.step {A : List SeenV} (hA : A.Pairwise fun a b => a.id < b.id) {i : Nat} {pre post : List SeenV} {b : Int} (h : PgI A i pre post b) (hm : moreL A b = true) :
  PgI A (i + 1) (pre ++ ofL A b) (post.drop 3) (nextL (ofL A b) b) := by
 unfold moreL at hm
 rw [h.filter] at hm
 have hm : 3 < post.length := of_decide_eq_true hm
 have ho : ofL A b = post.take 3 := by unfold ofL; rw [h.filter]
 rw [ho]
 have hp : post.Pairwise fun a b => a.id < b.id := (List.pairwise_append.1 (h.all ▸ hA)).2.1
 rw [← List.take_append_drop 3 post] at hp
 have hq := (List.pairwise_append.1 hp).2.2
 refine ⟨by rw [List.append_assoc, List.take_append_drop]; exact h.all, fun x hx => ?_, fun x hx => ?_, by rw [List.length_append, List.length_take, h.len]; omega, .inl (by rw [List.length_drop]; omega)⟩
 ·rcases List.mem_append.1 hx with hx | hx
  ·have := h.low x hx
   have := (nextL_up (post.take 3) b).1
   omega
  ·exact (nextL_up (post.take 3) b).2 x hx
 ·exact nextL_lt _ _ (h.high x (List.mem_of_mem_drop hx)) fun y hy => hq y hy x hx
theorem PgI.last {A : List SeenV} {i : Nat} {pre post : List SeenV} {b : Int} (h : PgI A i pre post b) (hm : moreL A b = false) : pre ++ ofL A b = A := by
 unfold moreL at hm
 rw [h.filter] at hm
 have hm : ¬ 3 < post.length := of_decide_eq_false hm
 have ho : ofL A b = post.take 3 := by unfold ofL; rw [h.filter]
 rw [ho, List.take_of_length_le (by omega)]
 exact h.all.symm
theorem PgI.start (A : List SeenV) (h : ∀ x ∈ A, 1 ≤ x.id) : PgI A 0 [] A 0 := ⟨rfl, fun x hx => by simp at hx, fun x hx => by have := h x hx; omega, rfl, .inr rfl⟩
theorem PgI.bound {A : List SeenV} (hA : A.length ≤ 60) {i : Nat} {pre post : List SeenV} {b : Int} (h : PgI A i pre post b) : i ≤ 20 := by
 have h1 := congrArg List.length h.all
 rw [List.length_append, h.len] at h1
 have h2 := h.left
 omega
end Go.Proofs.YtgcajfglidflnaaGreatDoor

/- herdref09.Of, Answer. -/
namespace Go.Proofs.YtgcajfglidflnaaGreatDoor
open Go.RowKit Go.Shelf
attribute [-go_sem] Instr.buildSlice

def flt (b : Int) (l : List SeenV) : List SeenV := l.filter fun x => decide (b < x.id)
theorem flt_snoc {A : List SeenV} {n : Nat} {x : SeenV} (b : Int) (h : A[n]? = some x) : flt b (A.take (n + 1)) = if b < x.id then flt b (A.take n) ++ [x] else flt b (A.take n) := by
 have hlt := lt_get h
 rw [List.getElem?_eq_getElem hlt] at h
 cases h
 rw [List.take_add_one, List.getElem?_eq_getElem hlt]
 unfold flt
 simp only [Option.toList_some, List.filter_append, List.filter_cons, List.filter_nil]
 by_cases hb : b < A[n].id
 ·simp [hb]
 ·simp [hb]
set_option maxRecDepth 100000 in
set_option maxHeartbeats 4000000 in
theorem of09_any (C : CloudV) (s : Value) (b : Int) (w : World) (hC : CloudR C) (hs : RowOf 11 encBx w s C.boxes) :
  Calls Tryz.prog 34 #[.agg (cloudA C s), .int .i64 b] w fun e w' => ∃ v, e = .returned (.tuple #[v, .bool (moreL (allC C.boxes) b)]) ∧ OwnS w' w.heap.size v (ofL (allC C.boxes) b) ∧ Below w.heap.size w w' := by
 obtain ⟨i0, hi, hz0, hz1, hz2⟩ := info_parts infoSn
 have HI := hid (And.intro hi (And.intro hz0 (And.intro hz1 hz2)))
 have HR := fun W (hb : Below w.heap.size w W) => all09_any C s W hC (hs.below hb)
 have h60 := hC.len
 have hal := allC_len C.boxes
 obtain ⟨L, floor, drain, now, tight⟩ := C
 unfold cloudA at HR ⊢
 dsimp only at hs HR h60 hal ⊢
 obtain ⟨a, c, rfl, _, _, _, _⟩ := hs.open
 obtain ⟨A, hA⟩ : ∃ A, allC L = A := ⟨_, rfl⟩
 rw [hA] at HR hal ⊢
 have HR := hid HR
 have H60 := hid (show A.length ≤ 60 by omega)
 obtain ⟨W1, hW1⟩ : ∃ W1, W1 = w.alloc (.cells #[.slice a L.length c, .int .i64 floor, .int .i64 drain, .int .i64 now, .bool tight] 24) := ⟨_, rfl⟩
 have n1 : W1.heap[w.heap.size]? = some (.cells #[.slice a L.length c, .int .i64 floor, .int .i64 drain, .int .i64 now, .bool tight] 24) := by rw [hW1]; exact heap_new _ _
 have HB := hid (show Below w.heap.size w W1 by rw [hW1]; exact (Below.refl _ _).alloc (Nat.le_refl _) _)
 have N1 := hid n1
 have HW1 := hid hW1
 clear n1 hs hW1 hC h60 hi hz0 hz1 hz2 hal hA
 go_enter Tryz.func34, Tryz.ntmps34
 go_upto_region 1 with (fail)
 rw [← HW1.out]
 clear HW1
 obtain ⟨c0, c1, c2, c3, c4, cf, cl⟩ := blk5 N1.out
 have HRW := hid (HR.out W1 HB.out)
 go_wp2_with fail
 refine HRW.out.mono ?_
 rintro e Z ⟨v, rfl, ho, hb⟩
 have HRA0 := Owns.row ho encSn_len (by decide)
 obtain ⟨aa, ac, rfl, _, _, _, hop⟩ := HRA0.open
 have HOP := hid hop
 have HBZ := hid (HB.out.trans (hb.mono HB.out.size))
 clear hb ho HRA0 hop c0 c1 c2 c3 c4 cf cl N1
 go_wp2
 go_loopw [9, 7, 8] (fun iv ov mv wr => ∃ n : Nat, n ≤ A.length ∧ iv = .int .i64 n ∧ OwnS wr Z.heap.size ov ((flt b (A.take n)).take 3) ∧ mv = .bool (decide (3 < (flt b (A.take n)).length)) ∧ Below Z.heap.size Z wr) (fun iv _ _ _ => A.length - (intOf iv).toNat)
 case atStart => exact ⟨0, Nat.zero_le _, rfl, Owns.nil _ _, rfl, Below.refl _ _⟩
 case round =>
  obtain ⟨n, hn, rfl, ho, rfl, hBr⟩ := hrel
  have HBr := hid hBr
  have HBW := hid (HBZ.out.trans (hBr.mono HBZ.out.size))
  obtain ⟨F, hF⟩ : ∃ F, flt b (A.take n) = F := ⟨_, rfl⟩
  rw [hF] at ho ⊢
  have HF := hid hF
  obtain ⟨G, hG⟩ : ∃ G, F.take 3 = G := ⟨_, rfl⟩
  rw [hG] at ho
  have HG := hid hG
  have HOW := hid ho
  obtain ⟨oa, oc, rfl, _⟩ := (Owns.row ho encSn_len (by decide)).open
  have hgl : G.length ≤ 3 := by rw [← hG, List.length_take]; omega
  have HGL := hid (show G.length ≤ 3 ∧ (G.length < 3 → F = G ∧ F.length < 3) from ⟨hgl, fun h => by
   have h1 : F.length < 3 := by rw [← hG, List.length_take] at h; omega
   exact ⟨by rw [← hG, List.take_of_length_le (by omega)], h1⟩⟩)
  clear hBr ho hF hG hgl
  obtain ⟨mo, hmo⟩ : ∃ m, decide (3 < F.length) = m := ⟨_, rfl⟩
  rw [hmo]
  have HMO := hid hmo
  clear hmo
  by_cases hlt : n < A.length
  ·have hnL : (n : Int) < (A.length : Int) := by omega
   obtain ⟨b1, o1, rfl, hb1, hr1⟩ := HOP.out (by omega)
   obtain ⟨x, hx⟩ := get_lt hlt
   have hl1 : b1 < wr.heap.size := Nat.lt_of_lt_of_le hb1 HBr.out.size
   obtain ⟨g0, g1, g2, g3, g4, g5, g6⟩ := rowS (hr1.below HBr.out hb1) hx
   have HX := hid hx
   clear hx hr1
   by_cases hbx : b < x.id
   ·have dx : decide (b < x.id) = true := decide_eq_true hbx
    have HN := hid (show flt b (A.take (n + 1)) = F ++ [x] by rw [flt_snoc b HX.out, if_pos hbx, HF.out])
    clear hbx
    by_cases h3 : G.length < 3
    ·have d3 : decide ((G.length : Int) < 3) = true := decide_eq_true (by omega)
     obtain ⟨hfg, hfl⟩ := HGL.out.2 h3
     have HFG := hid hfg
     have HFL := hid hfl
     have hbs := bs_sn1 x
     clear h3 hfg hfl
     go_wp2_with (at_builtin; go_loud (refine append_one rfl _ _ 37 rfl Z.heap.size 49 i0 _ 40 Tryz.underlying37 HI.out.1 HI.out.2.1 HI.out.2.2.1 HI.out.2.2.2 rfl (by decide) encSn_len encSn_one _ G rfl (Owns.below HOW.out ((Below.refl _ _).alloc (Nat.le_refl _) _)) ⟨wr.heap.size, 0, none⟩ x rfl (new_sn1 wr x) (by have := HGL.out.1; unfold maxLen; omega) (by have := HGL.out.1; omega) (by have := HBr.out.size; simp; omega) ?_); intro v' w1 hown hbel hgrow; have HOWN := hid hown; have HB1 := hid ((HBr.out.alloc HBr.out.size _).trans hbel); clear hown hbel hgrow)
     go_roundw
     case rel => exact ⟨n + 1, by omega, by go_num, by rw [HN.out, List.take_of_length_le (by have := HFL.out; simp; omega), HFG.out]; exact HOWN.out, by rw [HN.out, ← HMO.out, decide_eq_false (show ¬ 3 < F.length by have := HFL.out; omega), decide_eq_false (by have := HFL.out; simp; omega)], HB1.out⟩
     case measure => simp [intOf]; omega
    ·have d3 : decide ((G.length : Int) < 3) = false := decide_eq_false (by omega)
     have HFL := hid (show 3 ≤ F.length by
      have := HG.out
      have h4 : G.length = min 3 F.length := by rw [← this, List.length_take]
      omega)
     clear h3
     go_wp2_with fail
     go_roundw
     case rel => exact ⟨n + 1, by omega, by go_num, by rw [HN.out, List.take_append_of_le_length HFL.out, HG.out]; exact HOW.out, by rw [HN.out, decide_eq_true (by have := HFL.out; simp; omega)], HBr.out⟩
     case measure => simp [intOf]; omega
   ·have dx : decide (b < x.id) = false := decide_eq_false hbx
    have HN := hid (show flt b (A.take (n + 1)) = F by rw [flt_snoc b HX.out, if_neg hbx, HF.out])
    clear hbx
    go_wp2_with fail
    go_roundw
    case rel => exact ⟨n + 1, by omega, by go_num, by rw [HN.out, HG.out]; exact HOW.out, by rw [HN.out, HMO.out], HBr.out⟩
    case measure => simp [intOf]; omega
  ·obtain rfl : n = A.length := by omega
   have HE := hid (show A.filter (fun x => decide (b < x.id)) = F by have := HF.out; rw [List.take_length] at this; exact this)
   have HM := hid (show moreL A b = mo by unfold moreL; rw [HE.out, HMO.out])
   have HO := hid (show ofL A b = G by unfold ofL; rw [HE.out, HG.out])
   go_wp2
   go_ret2
   refine ⟨.slice oa G.length oc, ?_, by rw [HO.out]; exact HOW.out.mono HBZ.out.size, HBW.out⟩
   rw [HM.out]
   rfl
theorem res_tell {fn : Func} {tmps : Array Value} {r : Tmp} {t : TypeId} {b : Nat} {c0 c1 c2 c3 c4 c5 : Value} {W : World} (hres : fn.results = #[.cell r 64]) (h : tmps.getD r undef = .pointer (some ⟨b, 0, none⟩)) (hb : W.heap[b]? = some (.cells #[c0, c1, c2, c3, c4, c5] t)) :
  (results fn tmps).run Tryz.prog W = .ok (.agg #[c0, c1, c2, c3, c4, c5]) W := by
 have k0 := blk_cell hb 0
 have k1 := blk_cell hb 1
 have k2 := blk_cell hb 2
 have k3 := blk_cell hb 3
 have k4 := blk_cell hb 4
 have k5 := blk_cell hb 5
 simp only [List.getElem?_toArray, List.getElem?_cons_succ, List.getElem?_cons_zero] at k0 k1 k2 k3 k4 k5
 rw [Array.getD_eq_getD_getElem?] at h
 simp [results, hres, go_sem, h, k0, k1, k2, k3, k4, k5]
theorem set6 {W : World} {b : Nat} {a0 a1 a2 a3 a4 a5 : Value} {t : TypeId} (h : W.heap[b]? = some (.cells #[a0, a1, a2, a3, a4, a5] t)) (x0 x1 x2 x3 x4 x5 : Value) :
  ((((((W.setCell ⟨b, 0, none⟩ x0).setCell ⟨b, 1, none⟩ x1).setCell ⟨b, 2, none⟩ x2).setCell ⟨b, 3, none⟩ x3).setCell ⟨b, 4, none⟩ x4).setCell ⟨b, 5, none⟩ x5).heap[b]? = some (.cells #[x0, x1, x2, x3, x4, x5] t) := by
 simpa using blk_set (blk_set (blk_set (blk_set (blk_set (blk_set h 0 x0) 1 x1) 2 x2) 3 x3) 4 x4) 5 x5
theorem set6_below {a : Nat} {w W : World} {b : Nat} (h : Below a w W) (hb : a ≤ b) (x0 x1 x2 x3 x4 x5 : Value) :
  Below a w ((((((W.setCell ⟨b, 0, none⟩ x0).setCell ⟨b, 1, none⟩ x1).setCell ⟨b, 2, none⟩ x2).setCell ⟨b, 3, none⟩ x3).setCell ⟨b, 4, none⟩ x4).setCell ⟨b, 5, none⟩ x5) :=
 (((((h.setCell (p := ⟨b, 0, none⟩) hb _).setCell (p := ⟨b, 1, none⟩) hb _).setCell (p := ⟨b, 2, none⟩) hb _).setCell (p := ⟨b, 3, none⟩) hb _).setCell (p := ⟨b, 4, none⟩) hb _).setCell (p := ⟨b, 5, none⟩) hb _
theorem set6_owns {W : World} {base b : Nat} {a0 a1 a2 a3 a4 a5 v : Value} {L : List SeenV} (h : OwnS W base v L) (hb : W.heap[b]? = some (.cells #[a0, a1, a2, a3, a4, a5] 64)) (x0 x1 x2 x3 x4 x5 : Value) :
  OwnS ((((((W.setCell ⟨b, 0, none⟩ x0).setCell ⟨b, 1, none⟩ x1).setCell ⟨b, 2, none⟩ x2).setCell ⟨b, 3, none⟩ x3).setCell ⟨b, 4, none⟩ x4).setCell ⟨b, 5, none⟩ x5) base v L :=
 (owns_at (owns_at (owns_at (owns_at (owns_at (owns_at h hb (by decide) 0 _) (blk_set hb 0 _) (by decide) 1 _) (blk_set (blk_set hb 0 _) 1 _) (by decide) 2 _) (blk_set (blk_set (blk_set hb 0 _) 1 _) 2 _) (by decide) 3 _) (blk_set (blk_set (blk_set (blk_set hb 0 _) 1 _) 2 _) 3 _) (by decide) 4 _) (blk_set (blk_set (blk_set (blk_set (blk_set hb 0 _) 1 _) 2 _) 3 _) 4 _) (by decide) 5 _)
theorem owns_set {W : World} {base b j : Nat} {cs : Array Value} {v x : Value} {L : List SeenV} (h : OwnS W base v L) (hb : W.heap[b]? = some (.cells cs 64)) : OwnS (W.setCell ⟨b, j, none⟩ x) base v L := owns_at h hb (by decide) j x
set_option maxRecDepth 100000 in
set_option maxHeartbeats 4000000 in
theorem ans09_any (C : CloudV) (s : Value) (call beh : Int) (w : World) (hC : CloudR C) (hs : RowOf 11 encBx w s C.boxes) :
  Calls Tryz.prog 22 #[.agg (cloudA C s), .agg #[.int .u8 7, .int .i64 call, .int .i64 beh, .int .i64 0, .int .i64 0, .int .i64 0]] w fun e w' => ∃ v, e = .returned (tellV call 7 1 beh v (moreL (allC C.boxes) beh)) ∧ OwnS w' w.heap.size v (ofL (allC C.boxes) beh) ∧ Below w.heap.size w w' := by
 have HR := fun W (hb : Below w.heap.size w W) => of09_any C s beh W hC (hs.below hb)
 obtain ⟨L, floor, drain, now, tight⟩ := C
 unfold cloudA at HR ⊢
 dsimp only at hs HR ⊢
 obtain ⟨a, c, rfl, _, _, _, _⟩ := hs.open
 obtain ⟨P, hP⟩ : ∃ P, ofL (allC L) beh = P := ⟨_, rfl⟩
 obtain ⟨mo, hmo⟩ : ∃ m, moreL (allC L) beh = m := ⟨_, rfl⟩
 rw [hP, hmo] at HR ⊢
 have HR := hid HR
 obtain ⟨W1, hW1⟩ : ∃ W1, W1 = ((w.alloc (.cells #[.slice a L.length c, .int .i64 floor, .int .i64 drain, .int .i64 now, .bool tight] 24)).alloc (.cells #[.int .u8 7, .int .i64 call, .int .i64 beh, .int .i64 0, .int .i64 0, .int .i64 0] 66)).alloc (.cells #[.int .i64 0, .int .u8 0, .int .u8 0, .int .i64 0, .slice none 0 0, .bool false] 64) := ⟨_, rfl⟩
 have n0 : W1.heap[w.heap.size]? = some (.cells #[.slice a L.length c, .int .i64 floor, .int .i64 drain, .int .i64 now, .bool tight] 24) := by rw [hW1]; exact blk_alloc (blk_alloc (heap_new _ _) _) _
 have n1 : W1.heap[w.heap.size + 1]? = some (.cells #[.int .u8 7, .int .i64 call, .int .i64 beh, .int .i64 0, .int .i64 0, .int .i64 0] 66) := by rw [hW1]; exact blk_alloc (heap_new2 _ _ _) _
 have n2 : W1.heap[w.heap.size + 1 + 1]? = some (.cells #[.int .i64 0, .int .u8 0, .int .u8 0, .int .i64 0, .slice none 0 0, .bool false] 64) := by rw [hW1]; simpa using heap_new2 (w.alloc _) _ _
 have hb1 : Below w.heap.size w W1 := by rw [hW1]; exact (((Below.refl _ _).alloc (Nat.le_refl _) _).alloc (by simp) _).alloc (by simp; omega) _
 have HW1 := hid hW1
 obtain ⟨W2, hW2⟩ : ∃ W2, W2 = W1.alloc (.cells #[.int .i64 call, .int .u8 7, .int .u8 3, .int .i64 beh, .slice none 0 0, .bool false] 64) := ⟨_, rfl⟩
 have HW2 := hid hW2
 have hb2 : Below w.heap.size w W2 := by rw [hW2]; exact hb1.alloc hb1.size _
 have m0 : W2.heap[w.heap.size]? = some (.cells #[.slice a L.length c, .int .i64 floor, .int .i64 drain, .int .i64 now, .bool tight] 24) := by rw [hW2]; exact blk_alloc n0 _
 have m1 : W2.heap[w.heap.size + 1]? = some (.cells #[.int .u8 7, .int .i64 call, .int .i64 beh, .int .i64 0, .int .i64 0, .int .i64 0] 66) := by rw [hW2]; exact blk_alloc n1 _
 have m2 : W2.heap[w.heap.size + 1 + 1]? = some (.cells #[.int .i64 0, .int .u8 0, .int .u8 0, .int .i64 0, .slice none 0 0, .bool false] 64) := by rw [hW2]; exact blk_alloc n2 _
 have m3 : W2.heap[W1.heap.size]? = some (.cells #[.int .i64 call, .int .u8 7, .int .u8 3, .int .i64 beh, .slice none 0 0, .bool false] 64) := by rw [hW2]; exact heap_new _ _
 obtain ⟨T5, hT5⟩ : ∃ T, W1.heap.size = T := ⟨_, rfl⟩
 rw [hT5] at m3
 have hlt5 : w.heap.size + 1 + 1 < T5 := by rw [← hT5]; exact blk_lt n2
 have HT5 := hid hT5
 have HLT5 := hid hlt5
 have N0 := hid n0
 have N1 := hid n1
 have M0 := hid m0
 have M1 := hid m1
 have M2 := hid m2
 have M3 := hid m3
 have HB2 := hid hb2
 clear hW1 hW2 n0 n1 n2 hb1 hb2 m0 m1 m2 m3 hT5 hlt5 hs hP hmo hC
 unfold tellV
 go_enter Tryz.func22, Tryz.ntmps22
 go_upto_region 1 with (fail)
 rw [← HW1.out]
 clear HW1
 have a0 : W1.cell? ⟨w.heap.size + 1, 0, none⟩ = some (.int .u8 7) := blk_cell N1.out 0
 have a1 : W1.cell? ⟨w.heap.size + 1, 1, none⟩ = some (.int .i64 call) := blk_cell N1.out 1
 have a2 : W1.cell? ⟨w.heap.size + 1, 2, none⟩ = some (.int .i64 beh) := blk_cell N1.out 2
 have al := blk_lt N1.out
 go_upto_region 2 with (fail)
 rw [← HW2.out, HT5.out]
 clear HW2 HT5 a0 a1 a2 al N0 N1
 have a0 : W2.cell? ⟨w.heap.size + 1, 0, none⟩ = some (.int .u8 7) := blk_cell M1.out 0
 have a2 : W2.cell? ⟨w.heap.size + 1, 2, none⟩ = some (.int .i64 beh) := blk_cell M1.out 2
 have al := blk_lt M1.out
 have t2 : W2.cell? ⟨T5, 2, none⟩ = some (.int .u8 3) := blk_cell M3.out 2
 have tf : ∀ j, W2.frozen? ⟨T5, j, none⟩ = false := blk_free M3.out
 have tl := blk_lt M3.out
 go_upto_region 4 with (fail)
 obtain ⟨W3, hW3⟩ : ∃ W3, W3 = W2.setCell ⟨T5, 2, none⟩ (.int .u8 1) := ⟨_, rfl⟩
 have HB3 := hid (show Below w.heap.size w W3 by rw [hW3]; exact HB2.out.setCell (p := ⟨T5, 2, none⟩) (by have := HLT5.out; simp; omega) _)
 have L0 := hid (show W3.heap[w.heap.size]? = some (.cells #[.slice a L.length c, .int .i64 floor, .int .i64 drain, .int .i64 now, .bool tight] 24) by rw [hW3]; exact blk_far M0.out (by have := HLT5.out; omega) _)
 have L1 := hid (show W3.heap[w.heap.size + 1]? = some (.cells #[.int .u8 7, .int .i64 call, .int .i64 beh, .int .i64 0, .int .i64 0, .int .i64 0] 66) by rw [hW3]; exact blk_far M1.out (by have := HLT5.out; omega) _)
 have L2 := hid (show W3.heap[w.heap.size + 1 + 1]? = some (.cells #[.int .i64 0, .int .u8 0, .int .u8 0, .int .i64 0, .slice none 0 0, .bool false] 64) by rw [hW3]; exact blk_far M2.out (by have := HLT5.out; omega) _)
 have L3 := hid (show W3.heap[T5]? = some (.cells #[.int .i64 call, .int .u8 7, .int .u8 1, .int .i64 beh, .slice none 0 0, .bool false] 64) by rw [hW3]; simpa using blk_set M3.out 2 (.int .u8 1))
 rw [← hW3]
 clear hW3 a0 a2 al t2 tf tl M0 M1 M2 M3 HB2
 obtain ⟨c0, c1, c2, c3, c4, cf, cl⟩ := blk5 L0.out
 have a2 : W3.cell? ⟨w.heap.size + 1, 2, none⟩ = some (.int .i64 beh) := blk_cell L1.out 2
 have al := blk_lt L1.out
 have HRW := hid (HR.out W3 HB3.out)
 go_wp2_with fail
 refine HRW.out.mono ?_
 rintro e V ⟨v, rfl, ho, hb⟩
 obtain ⟨va, vn, vc, rfl⟩ := ho.shape
 have K2 := hid (blk_below L2.out hb (blk_lt L2.out))
 have K3 := hid (blk_below L3.out hb (blk_lt L3.out))
 have HO := hid (ho.mono HB3.out.size)
 have HBV := hid (HB3.out.trans (hb.mono HB3.out.size))
 clear ho hb c0 c1 c2 c3 c4 cf cl a2 al L0 L1 L2 L3 HRW HR
 have t4 : V.cell? ⟨T5, 4, none⟩ = some (.slice none 0 0) := blk_cell K3.out 4
 have t5 : V.cell? ⟨T5, 5, none⟩ = some (.bool false) := blk_cell K3.out 5
 have tf : ∀ j, V.frozen? ⟨T5, j, none⟩ = false := blk_free K3.out
 have tl := blk_lt K3.out
 go_upto_region 5 with (fail)
 obtain ⟨X, hX⟩ : ∃ X, X = (V.setCell ⟨T5, 4, none⟩ (.slice va vn vc)).setCell ⟨T5, 5, none⟩ (.bool mo) := ⟨_, rfl⟩
 have HBX := hid (show Below w.heap.size w X by rw [hX]; exact (HBV.out.setCell (p := ⟨T5, 4, none⟩) (by have := HLT5.out; simp; omega) _).setCell (p := ⟨T5, 5, none⟩) (by have := HLT5.out; simp; omega) _)
 have X2 := hid (show X.heap[w.heap.size + 1 + 1]? = some (.cells #[.int .i64 0, .int .u8 0, .int .u8 0, .int .i64 0, .slice none 0 0, .bool false] 64) by rw [hX]; exact blk_far (blk_far K2.out (by have := HLT5.out; omega) _) (by have := HLT5.out; omega) _)
 have X3 := hid (show X.heap[T5]? = some (.cells #[.int .i64 call, .int .u8 7, .int .u8 1, .int .i64 beh, .slice va vn vc, .bool mo] 64) by rw [hX]; simpa using blk_set (blk_set K3.out 4 (.slice va vn vc)) 5 (.bool mo))
 have HOX := hid (show OwnS X w.heap.size (.slice va vn vc) P by rw [hX]; exact owns_set (owns_set HO.out K3.out) (blk_set K3.out 4 _))
 rw [← hX]
 clear hX t4 t5 tf tl K2 K3 HO HBV
 obtain ⟨y0, y1, y2, y3, y4, y5, yf, yl⟩ := blk6 X3.out
 obtain ⟨z0, z1, z2, z3, z4, z5, zf, zl⟩ := blk6 X2.out
 go_wp2
 exact bodyPost_ret (res_tell rfl rfl (set6 X2.out _ _ _ _ _ _)) rfl ⟨_, rfl, set6_owns HOX.out X2.out _ _ _ _ _ _, set6_below HBX.out (by omega) _ _ _ _ _ _⟩
end Go.Proofs.YtgcajfglidflnaaGreatDoor

/- herdlaw21.listed: a whole listing of a cloud, page by page. -/
namespace Go.Proofs.YtgcajfglidflnaaGreatDoor
open Go.RowKit Go.Shelf

/-- Behind a page that is taken in. -/
structure LsX (W X : World) (T : Nat) (mo : Bool) (now nx : Int) (v : Value) (LT : List SeenV) : Prop where
 blk : X.heap[T]? = some (.cells #[.bool mo, .int .i64 now, .int .i64 nx, v] 39)
 own : OwnS X W.heap.size v LT
 bel : Below W.heap.size W X
theorem lsA {W y : World} {mo : Bool} {now nx : Int} {v : Value} {LT : List SeenV} (hb : Below W.heap.size W y) (ho : OwnS y W.heap.size v LT) : LsX W (y.alloc (.cells #[.bool mo, .int .i64 now, .int .i64 nx, v] 39)) y.heap.size mo now nx v LT :=
 ⟨heap_new _ _, Owns.below ho ((Below.refl _ _).alloc (Nat.le_refl _) _), hb.alloc hb.size _⟩
theorem lsB {W y : World} {T : Nat} {a0 a1 a2 a3 : Value} {mo : Bool} {now nx : Int} {v : Value} {LT : List SeenV} (hb : Below W.heap.size W y) (ho : OwnS y W.heap.size v LT) (hz : y.heap[T]? = some (.cells #[a0, a1, a2, a3] 39)) (hT : W.heap.size ≤ T) :
  LsX W ((((y.setCell ⟨T, 0, none⟩ (.bool mo)).setCell ⟨T, 1, none⟩ (.int .i64 now)).setCell ⟨T, 2, none⟩ (.int .i64 nx)).setCell ⟨T, 3, none⟩ v) T mo now nx v LT :=
 ⟨set4 hz _ _ _ _, set4_owns ho hz _ _ _ _, set4_below hb hT _ _ _ _⟩
set_option maxRecDepth 100000 in
set_option maxHeartbeats 8000000 in
theorem listed_any (C : CloudV) (s : Value) (now : Int) (w : World) (hC : CloudR C) (hs : RowOf 11 encBx w s C.boxes) :
  Calls Tryz.prog 8 #[.agg (cloudA C s), .int .i64 now] w fun e w' => ∃ beh v, e = .returned (.tuple #[scanV false now beh v, .bool true]) ∧ OwnS w' w.heap.size v (allC C.boxes) ∧ Below w.heap.size w w' := by
 have HR := fun W (hb : Below w.heap.size w W) beh => ans09_any C s 5 beh W hC (hs.below hb)
 have hrise := allC_rise hC
 have h60 := hC.len
 have hal := allC_len C.boxes
 have hin := fun x (hx : x ∈ allC C.boxes) => (allC_in hC hx).1
 obtain ⟨L, floor, drain, cnow, tight⟩ := C
 unfold cloudA at HR ⊢
 dsimp only at hs HR h60 hal hrise hin ⊢
 obtain ⟨a, c, rfl, _, _, _, _⟩ := hs.open
 obtain ⟨A, hA⟩ : ∃ A, allC L = A := ⟨_, rfl⟩
 rw [hA] at HR hal hrise hin ⊢
 have hr := HR
 clear HR
 have HR := hid hr
 have HRI := hid hrise
 have H60 := hid (show A.length ≤ 60 by omega)
 have HIN := hid hin
 obtain ⟨W1, hW1⟩ : ∃ W1, W1 = (w.alloc (.cells #[.slice a L.length c, .int .i64 floor, .int .i64 drain, .int .i64 cnow, .bool tight] 24)).alloc (.cells #[.bool false, .int .i64 0, .int .i64 0, .slice none 0 0] 39) := ⟨_, rfl⟩
 have n0 : W1.heap[w.heap.size]? = some (.cells #[.slice a L.length c, .int .i64 floor, .int .i64 drain, .int .i64 cnow, .bool tight] 24) := by rw [hW1]; exact blk_alloc (heap_new _ _) _
 have n1 : W1.heap[w.heap.size + 1]? = some (.cells #[.bool false, .int .i64 0, .int .i64 0, .slice none 0 0] 39) := by rw [hW1]; exact heap_new2 _ _ _
 have hb1 : Below w.heap.size w W1 := by rw [hW1]; exact ((Below.refl _ _).alloc (Nat.le_refl _) _).alloc (by simp) _
 have N0 := hid n0
 have N1 := hid n1
 have HB1 := hid hb1
 have HW1 := hid hW1
 clear hr hrise h60 hal hin hA hs hC n0 n1 hb1 hW1
 go_enter Tryz.func8, Tryz.ntmps8
 go_upto_region 1 with (fail)
 rw [← HW1.out]
 clear HW1
 go_wp2_with fail
 refine (begin_any now W1).mono ?_
 rintro e V ⟨rfl, hb⟩
 unfold scanV
 obtain ⟨W2, hW2⟩ : ∃ W2, W2 = V.alloc (.cells #[.bool true, .int .i64 now, .int .i64 0, .slice none 0 0] 39) := ⟨_, rfl⟩
 have hb2 : Below w.heap.size w W2 := by rw [hW2]; exact (HB1.out.trans (hb.mono HB1.out.size)).alloc (HB1.out.trans (hb.mono HB1.out.size)).size _
 have M0 := hid (show W2.heap[w.heap.size]? = some (.cells #[.slice a L.length c, .int .i64 floor, .int .i64 drain, .int .i64 cnow, .bool tight] 24) by rw [hW2]; exact blk_alloc (blk_below N0.out hb (blk_lt N0.out)) _)
 have M1 := hid (show W2.heap[w.heap.size + 1]? = some (.cells #[.bool false, .int .i64 0, .int .i64 0, .slice none 0 0] 39) by rw [hW2]; exact blk_alloc (blk_below N1.out hb (blk_lt N1.out)) _)
 have m2 : W2.heap[V.heap.size]? = some (.cells #[.bool true, .int .i64 now, .int .i64 0, .slice none 0 0] 39) := by rw [hW2]; exact heap_new _ _
 have hlt : w.heap.size + 1 < V.heap.size := blk_lt (blk_below N1.out hb (blk_lt N1.out))
 have HB2 := hid hb2
 have HW2 := hid hW2
 clear hb hb2 hW2 N0 N1 HB1
 go_upto_region 2 with (fail)
 rw [← HW2.out]
 clear HW2
 obtain ⟨T6, hT6⟩ : ∃ T, V.heap.size = T := ⟨_, rfl⟩
 rw [hT6] at m2 hlt ⊢
 have M2 := hid m2
 have HLT := hid hlt
 clear hT6 m2 hlt
 go_wp2
 go_loopw [7] (fun iv wr => ∃ (k : Nat) (pre post : List SeenV) (beh : Int) (v : Value), iv = .int .i64 k ∧ PgI A k pre post beh ∧ wr.heap[T6]? = some (.cells #[.bool true, .int .i64 now, .int .i64 beh, v] 39) ∧ OwnS wr w.heap.size v pre ∧ wr.heap[w.heap.size]? = some (.cells #[.slice a L.length c, .int .i64 floor, .int .i64 drain, .int .i64 cnow, .bool tight] 24) ∧ wr.heap[w.heap.size + 1]? = some (.cells #[.bool false, .int .i64 0, .int .i64 0, .slice none 0 0] 39) ∧ Below w.heap.size w wr) (fun iv _ => 61 - (intOf iv).toNat)
 case atStart => exact ⟨0, [], A, 0, _, rfl, PgI.start A HIN.out, M2.out, Owns.nil _ _, M0.out, M1.out, HB2.out⟩
 case round =>
  clear M0 M1 M2 HB2
  obtain ⟨k, pre, post, beh, v, rfl, hpg, k2, ho, k0, k1, hb⟩ := hrel
  obtain ⟨W, hW⟩ : ∃ W : World, W = wr := ⟨_, rfl⟩
  rw [← hW] at k2 ho k0 k1 hb ⊢
  clear hW
  obtain ⟨va, vc, rfl, _⟩ := (Owns.row ho encSn_len (by decide)).open
  have HK0 := hid k0
  have HK1 := hid k1
  have HK2 := hid k2
  have HO := hid ho
  have HB := hid hb
  have HPG := hid hpg
  have hk20 := hpg.bound H60.out
  have hk60 : (k : Int) ≤ 60 := by omega
  clear k0 k1 k2 ho hb hpg
  go_upto_region 5 with (fail)
  obtain ⟨P, hP⟩ : ∃ P, ofL A beh = P := ⟨_, rfl⟩
  obtain ⟨mo, hmo⟩ : ∃ m, moreL A beh = m := ⟨_, rfl⟩
  obtain ⟨nx, hnx⟩ : ∃ m, nextL P beh = m := ⟨_, rfl⟩
  obtain ⟨LT, hLT⟩ : ∃ m, m = pre ++ P := ⟨_, rfl⟩
  have hPl : P.length ≤ 60 := by rw [← hP]; unfold ofL; rw [List.length_take]; omega
  have hpl : pre.length ≤ 60 := by have := congrArg List.length HPG.out.all; rw [List.length_append] at this; have := H60.out; omega
  have A1 := hid (fun X : World => ask21_any true now beh 5 va pre.length vc X)
  have A2 := hid (show ∀ X, Below W.heap.size W X → Calls Tryz.prog 22 #[(.agg #[.slice a L.length c, .int .i64 floor, .int .i64 drain, .int .i64 cnow, .bool tight]), .agg #[.int .u8 7, .int .i64 5, .int .i64 beh, .int .i64 0, .int .i64 0, .int .i64 0]] X fun e w' => ∃ v, e = .returned (tellV 5 7 1 beh v mo) ∧ OwnS w' X.heap.size v P ∧ Below X.heap.size X w' from fun X hb => by
   have := HR.out X (HB.out.trans (hb.mono HB.out.size)) beh
   rw [hP, hmo] at this
   exact this)
  have A3 := hid (show ∀ X tv, Below W.heap.size W X → RowS X tv P → Calls Tryz.prog 17 #[(.agg #[.bool true, .int .i64 now, .int .i64 beh, .slice va pre.length vc]), tellV 5 7 1 beh tv mo] X fun e w' => ∃ v, e = .returned (.tuple #[.agg #[.bool mo, .int .i64 now, .int .i64 nx, v], .bool (!mo)]) ∧ OwnS w' X.heap.size v LT ∧ Below X.heap.size X w' from fun X tv hb hr =>
   page_any true now beh 5 7 1 beh (.slice va pre.length vc) tv mo pre P X ((Owns.row HO.out encSn_len (by decide)).below hb) hr (by omega) (by omega) mo (!mo) nx LT (.inl ⟨⟨rfl, rfl, rfl, rfl⟩, rfl, hnx.symm, hLT, rfl⟩))
  unfold scanV at A1
  obtain ⟨c0, c1, c2, c3, c4, _, _⟩ := blk5 HK0.out
  obtain ⟨s0, s1, s2, s3, _, _⟩ := blk4 HK2.out
  have HJ := hid (show ∀ X, Below W.heap.size W X → X.cell? ⟨w.heap.size, 0, none⟩ = some (.slice a L.length c) ∧ X.cell? ⟨w.heap.size, 1, none⟩ = some (.int .i64 floor) ∧ X.cell? ⟨w.heap.size, 2, none⟩ = some (.int .i64 drain) ∧ X.cell? ⟨w.heap.size, 3, none⟩ = some (.int .i64 cnow) ∧ X.cell? ⟨w.heap.size, 4, none⟩ = some (.bool tight) ∧ X.cell? ⟨T6, 0, none⟩ = some (.bool true) ∧ X.cell? ⟨T6, 1, none⟩ = some (.int .i64 now) ∧ X.cell? ⟨T6, 2, none⟩ = some (.int .i64 beh) ∧ X.cell? ⟨T6, 3, none⟩ = some (.slice va pre.length vc) from fun X hb => ⟨cell_below c0 hb, cell_below c1 hb, cell_below c2 hb, cell_below c3 hb, cell_below c4 hb, cell_below s0 hb, cell_below s1 hb, cell_below s2 hb, cell_below s3 hb⟩)
  have HP := hid hP
  have HMO := hid hmo
  have HNX := hid hnx
  have HLL := hid hLT
  clear c0 c1 c2 c3 c4 s0 s1 s2 s3 hP hmo hnx hLT hPl hpl
  have HBD := hid (below_drewN (Below.refl W.heap.size W) 1)
  have Q0 := hid (HJ.out W.drew HBD.out)
  have Q1 := hid (HJ.out (W.drew.alloc (.cells #[.bool false, .int .i64 0, .int .i64 0, .slice none 0 0] 39)) (HBD.out.alloc (Nat.le_refl _) _))
  have Q6 := hid (HJ.out (W.alloc (.cells #[.bool false, .int .i64 0, .int .i64 0, .slice none 0 0] 39)).drew (below_drewN ((Below.refl W.heap.size W).alloc (Nat.le_refl _) _) 1))
  go_region_held3 (fun w' => w'.cell? ⟨w.heap.size, 0, none⟩ = some (.slice a L.length c) ∧ w'.cell? ⟨w.heap.size, 1, none⟩ = some (.int .i64 floor) ∧ w'.cell? ⟨w.heap.size, 2, none⟩ = some (.int .i64 drain) ∧ w'.cell? ⟨w.heap.size, 3, none⟩ = some (.int .i64 cnow) ∧ w'.cell? ⟨w.heap.size, 4, none⟩ = some (.bool tight) ∧ w'.cell? ⟨T6, 0, none⟩ = some (.bool true) ∧ w'.cell? ⟨T6, 1, none⟩ = some (.int .i64 now) ∧ w'.cell? ⟨T6, 2, none⟩ = some (.int .i64 beh) ∧ w'.cell? ⟨T6, 3, none⟩ = some (.slice va pre.length vc)) (first | (with_reducible exact Q5.out) | (with_reducible exact Q4.out) | (with_reducible exact Q3.out) | (with_reducible exact Q2.out) | (with_reducible exact Q1.out) | (with_reducible exact Q6.out) | (with_reducible exact Q0.out)) (first
   | (go_at_call 19; refine (A1.out _).mono ?_; rintro e y1 ⟨rfl, hby⟩; have HBD1 := hid (show Below W.heap.size W y1 from by first | exact HBD.out.trans hby | exact (HBD.out.alloc (Nat.le_refl _) _).trans (hby.mono (by simp))); have Q2 := hid (HJ.out y1 HBD1.out); have Q3 := hid (HJ.out (y1.alloc (.cells #[.bool false, .int .i64 0, .int .i64 0, .slice none 0 0] 39)) (HBD1.out.alloc HBD1.out.size _)); (try have Z1 := hid (show y1.heap[W.heap.size]? = some (.cells #[.bool false, .int .i64 0, .int .i64 0, .slice none 0 0] 39) from blk_below (heap_new W.drew (.cells #[.bool false, .int .i64 0, .int .i64 0, .slice none 0 0] 39)) hby (by simp))); clear hby)
   | (go_at_call 22; (first | refine (A2.out _ HBD1.out).mono ?_ | refine (A2.out _ (HBD1.out.alloc HBD1.out.size _)).mono ?_); rintro e y2 ⟨tv, rfl, hto, hby⟩; have HTV := hid (Owns.row hto encSn_len (by decide)); have HBD2 := hid (show Below W.heap.size W y2 from by first | exact HBD1.out.trans (hby.mono HBD1.out.size) | exact (HBD1.out.alloc HBD1.out.size _).trans (hby.mono (HBD1.out.alloc HBD1.out.size _).size)); have Q2 := hid (HJ.out y2 HBD2.out); have Q3 := hid (HJ.out (y2.alloc (.cells #[.bool false, .int .i64 0, .int .i64 0, .slice none 0 0] 39)) (HBD2.out.alloc HBD2.out.size _)); (first | (have Z2 := hid (blk_below Z1.out hby (blk_lt Z1.out))) | (have Z2 := hid (blk_below (heap_new y1 (.cells #[.bool false, .int .i64 0, .int .i64 0, .slice none 0 0] 39)) hby (by simp))) | skip); clear hby hto)
   | (go_at_call 17; (first | refine (A3.out _ _ HBD2.out HTV.out).mono ?_ | refine (A3.out _ _ (HBD2.out.alloc HBD2.out.size _) (HTV.out.below ((Below.refl _ _).alloc (Nat.le_refl _) _))).mono ?_); rintro e y3 ⟨pv, rfl, hpo, hby⟩; obtain ⟨pa, pn, pc, rfl⟩ := Owns.shape hpo; have HPO := hid hpo; have HBD3 := hid (show Below W.heap.size W y3 from by first | exact HBD2.out.trans (hby.mono HBD2.out.size) | exact (HBD2.out.alloc HBD2.out.size _).trans (hby.mono (HBD2.out.alloc HBD2.out.size _).size)); have Q2 := hid (HJ.out y3 HBD3.out); have Q3 := hid (HJ.out (y3.alloc (.cells #[.bool false, .int .i64 0, .int .i64 0, .slice none 0 0] 39)) (HBD3.out.alloc HBD3.out.size _)); have Q4 := hid (HJ.out (y3.alloc (.cells #[.bool mo, .int .i64 now, .int .i64 nx, .slice pa pn pc] 39)) (HBD3.out.alloc HBD3.out.size _)); (first | (have Z3 := hid (blk_below Z2.out hby (blk_lt Z2.out))) | (have Z3 := hid (blk_below (heap_new y2 (.cells #[.bool false, .int .i64 0, .int .i64 0, .slice none 0 0] 39)) hby (by simp))) | skip); clear hpo; (try clear hby); (try (have z9 := Z3.out; obtain ⟨z0, z1, z2, z3, zf, zl⟩ := blk4 z9; clear z9)); (first | (have Z8 := (Z1.out); have Q5 := hid (HJ.out _ (set4_below HBD3.out (show W.heap.size ≤ W.heap.size from Nat.le_refl _) (.bool mo) (.int .i64 now) (.int .i64 nx) (.slice pa pn pc))); clear Z8) | (have Z8 := (Z2.out); have Q5 := hid (HJ.out _ (set4_below HBD3.out HBD1.out.size (.bool mo) (.int .i64 now) (.int .i64 nx) (.slice pa pn pc))); clear Z8) | (have Z8 := (Z3.out); have Q5 := hid (HJ.out _ (set4_below HBD3.out HBD2.out.size (.bool mo) (.int .i64 now) (.int .i64 nx) (.slice pa pn pc))); clear Z8) | skip)))
  all_goals
   have HPW := hid (show OwnS y3 W.heap.size (.slice pa pn pc) LT from HPO.out.mono (by have := HBD2.out.size; first | exact this | (simp; omega)))
   first
   | (
     obtain ⟨X, hX⟩ : ∃ X, X = y3.alloc (.cells #[.bool mo, .int .i64 now, .int .i64 nx, .slice pa pn pc] 39) := ⟨_, rfl⟩
     have hx : LsX W X y3.heap.size mo now nx (.slice pa pn pc) LT := by rw [hX]; exact lsA HBD3.out HPW.out
     rw [← hX]
     obtain ⟨T8, hT8⟩ : ∃ T, y3.heap.size = T := ⟨_, rfl⟩
     rw [hT8] at hx ⊢)
   | (
     obtain ⟨X, hX⟩ : ∃ X, X = (((y3.setCell ⟨y2.heap.size, 0, none⟩ (.bool mo)).setCell ⟨y2.heap.size, 1, none⟩ (.int .i64 now)).setCell ⟨y2.heap.size, 2, none⟩ (.int .i64 nx)).setCell ⟨y2.heap.size, 3, none⟩ (.slice pa pn pc) := ⟨_, rfl⟩
     have hx : LsX W X y2.heap.size mo now nx (.slice pa pn pc) LT := by rw [hX]; exact lsB HBD3.out HPW.out Z3.out (HBD2.out.size)
     rw [← hX]
     obtain ⟨T8, hT8⟩ : ∃ T, y2.heap.size = T := ⟨_, rfl⟩
     rw [hT8] at hx ⊢)
   | (
     obtain ⟨X, hX⟩ : ∃ X, X = (((y3.setCell ⟨y1.heap.size, 0, none⟩ (.bool mo)).setCell ⟨y1.heap.size, 1, none⟩ (.int .i64 now)).setCell ⟨y1.heap.size, 2, none⟩ (.int .i64 nx)).setCell ⟨y1.heap.size, 3, none⟩ (.slice pa pn pc) := ⟨_, rfl⟩
     have hx : LsX W X y1.heap.size mo now nx (.slice pa pn pc) LT := by rw [hX]; exact lsB HBD3.out HPW.out Z3.out (HBD1.out.size)
     rw [← hX]
     obtain ⟨T8, hT8⟩ : ∃ T, y1.heap.size = T := ⟨_, rfl⟩
     rw [hT8] at hx ⊢)
   | (
     obtain ⟨X, hX⟩ : ∃ X, X = (((y3.setCell ⟨W.heap.size, 0, none⟩ (.bool mo)).setCell ⟨W.heap.size, 1, none⟩ (.int .i64 now)).setCell ⟨W.heap.size, 2, none⟩ (.int .i64 nx)).setCell ⟨W.heap.size, 3, none⟩ (.slice pa pn pc) := ⟨_, rfl⟩
     have hx : LsX W X W.heap.size mo now nx (.slice pa pn pc) LT := by rw [hX]; exact lsB HBD3.out HPW.out Z3.out (Nat.le_refl _)
     rw [← hX]
     obtain ⟨T8, hT8⟩ : ∃ T, W.heap.size = T := ⟨_, rfl⟩
     rw [hT8] at hx ⊢)
   have HX := hid hx
   have K0 := hid (blk_below HK0.out hx.bel (blk_lt HK0.out))
   have K1 := hid (blk_below HK1.out hx.bel (blk_lt HK1.out))
   have K2 := hid (blk_below HK2.out hx.bel (blk_lt HK2.out))
   clear hx hX hT8
   try clear z0 z1 z2 z3 zf zl
   obtain ⟨x0, x1, x2, x3, xf, xl⟩ := blk4 HX.out.blk
   obtain ⟨s0, s1, s2, s3, sf, sl⟩ := blk4 K2.out
   go_upto_region 7 with (fail)
   obtain ⟨Y, hY⟩ : ∃ Y, Y = (((X.setCell ⟨T6, 0, none⟩ (.bool mo)).setCell ⟨T6, 1, none⟩ (.int .i64 now)).setCell ⟨T6, 2, none⟩ (.int .i64 nx)).setCell ⟨T6, 3, none⟩ (.slice pa pn pc) := ⟨_, rfl⟩
   have HBY := hid (show Below w.heap.size w Y by rw [hY]; exact set4_below (HB.out.trans (HX.out.bel.mono HB.out.size)) (by have := HLT.out; omega) _ _ _ _)
   have Y0 := hid (show Y.heap[w.heap.size]? = some (.cells #[.slice a L.length c, .int .i64 floor, .int .i64 drain, .int .i64 cnow, .bool tight] 24) by rw [hY]; exact set4_other K0.out (by have := HLT.out; omega) _ _ _ _)
   have Y1 := hid (show Y.heap[w.heap.size + 1]? = some (.cells #[.bool false, .int .i64 0, .int .i64 0, .slice none 0 0] 39) by rw [hY]; exact set4_other K1.out (by have := HLT.out; omega) _ _ _ _)
   have Y2 := hid (show Y.heap[T6]? = some (.cells #[.bool mo, .int .i64 now, .int .i64 nx, .slice pa pn pc] 39) by rw [hY]; exact set4 K2.out _ _ _ _)
   have HOY := hid (show OwnS Y w.heap.size (.slice pa pn pc) LT by rw [hY]; exact set4_owns (HX.out.own.mono HB.out.size) K2.out _ _ _ _)
   rw [← hY]
   clear hY x0 x1 x2 x3 xf xl s0 s1 s2 s3 sf sl
   cases mo with
   | true =>
    have hst := HPG.out.step HRI.out HMO.out
    rw [HP.out, HNX.out, ← HLL.out] at hst
    have HST := hid hst
    clear hst
    go_wp2
    go_roundw
    case rel => exact ⟨k + 1, LT, post.drop 3, nx, _, by go_num, HST.out, Y2.out, HOY.out, Y0.out, Y1.out, HBY.out⟩
    case measure => simp [intOf]; omega
   | false =>
    have hla := HPG.out.last HMO.out
    rw [HP.out, ← HLL.out] at hla
    have HLA := hid hla
    clear hla
    obtain ⟨y0, y1, y2, y3, yf, yl⟩ := blk4 Y2.out
    obtain ⟨z0, z1, z2, z3, zf, zl⟩ := blk4 Y1.out
    go_wp2
    exact bodyPost_ret (res_scan2 rfl rfl rfl (set4 Y1.out _ _ _ _)) rfl ⟨_, _, rfl, by rw [← HLA.out]; exact set4_owns HOY.out Y1.out _ _ _ _, set4_below HBY.out (by omega) _ _ _ _⟩
end Go.Proofs.YtgcajfglidflnaaGreatDoor
