import Derived.Test.YthhgpiolcnojfaaGreatDoorGrr
import Derived.Lib.QuietBelow
import Derived.BigQuiet
/- Clouds in memory; herdref08.number, box, Right, Find. Printed by gn_clo.py. -/
namespace Go.Proofs.YthhgpiolcnojfaaGreatDoor
open Go.RowKit Go.Shelf

theorem blk5 {W : World} {b : Nat} {c0 c1 c2 c3 c4 : Value} {t : TypeId} (h : W.heap[b]? = some (.cells #[c0, c1, c2, c3, c4] t)) : W.cell? ⟨b, 0, none⟩ = some c0 ∧ W.cell? ⟨b, 1, none⟩ = some c1 ∧ W.cell? ⟨b, 2, none⟩ = some c2 ∧ W.cell? ⟨b, 3, none⟩ = some c3 ∧ W.cell? ⟨b, 4, none⟩ = some c4 ∧ (∀ j, W.frozen? ⟨b, j, none⟩ = false) ∧ b < W.heap.size :=
 ⟨blk_cell h 0, blk_cell h 1, blk_cell h 2, blk_cell h 3, blk_cell h 4, blk_free h, blk_lt h⟩
theorem blk6 {W : World} {b : Nat} {c0 c1 c2 c3 c4 c5 : Value} {t : TypeId} (h : W.heap[b]? = some (.cells #[c0, c1, c2, c3, c4, c5] t)) : W.cell? ⟨b, 0, none⟩ = some c0 ∧ W.cell? ⟨b, 1, none⟩ = some c1 ∧ W.cell? ⟨b, 2, none⟩ = some c2 ∧ W.cell? ⟨b, 3, none⟩ = some c3 ∧ W.cell? ⟨b, 4, none⟩ = some c4 ∧ W.cell? ⟨b, 5, none⟩ = some c5 ∧ (∀ j, W.frozen? ⟨b, j, none⟩ = false) ∧ b < W.heap.size :=
 ⟨blk_cell h 0, blk_cell h 1, blk_cell h 2, blk_cell h 3, blk_cell h 4, blk_cell h 5, blk_free h, blk_lt h⟩
theorem blk11 {W : World} {b : Nat} {c0 c1 c2 c3 c4 c5 c6 c7 c8 c9 c10 : Value} {t : TypeId} (h : W.heap[b]? = some (.cells #[c0, c1, c2, c3, c4, c5, c6, c7, c8, c9, c10] t)) : W.cell? ⟨b, 0, none⟩ = some c0 ∧ W.cell? ⟨b, 1, none⟩ = some c1 ∧ W.cell? ⟨b, 2, none⟩ = some c2 ∧ W.cell? ⟨b, 3, none⟩ = some c3 ∧ W.cell? ⟨b, 4, none⟩ = some c4 ∧ W.cell? ⟨b, 5, none⟩ = some c5 ∧ W.cell? ⟨b, 6, none⟩ = some c6 ∧ W.cell? ⟨b, 7, none⟩ = some c7 ∧ W.cell? ⟨b, 8, none⟩ = some c8 ∧ W.cell? ⟨b, 9, none⟩ = some c9 ∧ W.cell? ⟨b, 10, none⟩ = some c10 ∧ (∀ j, W.frozen? ⟨b, j, none⟩ = false) ∧ b < W.heap.size :=
 ⟨blk_cell h 0, blk_cell h 1, blk_cell h 2, blk_cell h 3, blk_cell h 4, blk_cell h 5, blk_cell h 6, blk_cell h 7, blk_cell h 8, blk_cell h 9, blk_cell h 10, blk_free h, blk_lt h⟩
structure BoxV where
 id : Int
 token : Int
 version : Int
 zone : Int
 tag : Bool
 on : Bool
 gone : Bool
 well : Bool
 lb : Int
 til : Int
 fence : Int
def encBx (x : BoxV) : List Value := [.int .i64 x.id, .int .i64 x.token, .int .i64 x.version, .int .i64 x.zone, .bool x.tag, .bool x.on, .bool x.gone, .bool x.well, .int .u8 x.lb, .int .i64 x.til, .int .i64 x.fence]
theorem encBx_len (x : BoxV) : (encBx x).length = 11 := rfl
structure CloudV where
 boxes : List BoxV
 floor : Int
 drain : Int
 now : Int
 tight : Bool
def cloudA (C : CloudV) (s : Value) : Array Value := #[s, .int .i64 C.floor, .int .i64 C.drain, .int .i64 C.now, .bool C.tight]
def numP (n : Int) : Bool := decide (0 ≤ n) && decide (n ≤ 1099511627776)
def boxB (x : BoxV) (i : Nat) : Bool := x.id == (i : Int) + 1 && (numP x.token && (numP x.version && (numP x.zone && (!decide (2 < x.lb) && (!(x.gone && (x.on || x.lb != 0)) && (x.on || x.lb == 0))))))
def tokP (x y : BoxV) : Bool := decide (0 < x.token) && y.token == x.token
/-- A cloud that may be. -/
structure CloudR (C : CloudV) : Prop where
 len : C.boxes.length ≤ 60
 floor : numP C.floor = true
 drain : numP C.drain = true
 now : numP C.now = true
 box : ∀ (i : Nat) (x : BoxV), C.boxes[i]? = some x → boxB x i = true
 tok : ∀ (i j : Nat) (x y : BoxV), C.boxes[i]? = some x → C.boxes[j]? = some y → j < i → tokP x y = false
theorem boxB_id {x : BoxV} {i : Nat} (h : boxB x i = true) : x.id = (i : Int) + 1 := by
 unfold boxB at h
 rw [Bool.and_eq_true] at h
 simpa using h.1
theorem rowBx {w : World} {b off : Nat} {l : List BoxV} (h : RowAt 11 encBx w b off l) {i : Nat} {x : BoxV} (hi : l[i]? = some x) :
  w.cell? ⟨b, off + i * 11, none⟩ = some (.int .i64 x.id) ∧ w.cell? ⟨b, off + i * 11 + 1, none⟩ = some (.int .i64 x.token) ∧ w.cell? ⟨b, off + i * 11 + 2, none⟩ = some (.int .i64 x.version) ∧ w.cell? ⟨b, off + i * 11 + 3, none⟩ = some (.int .i64 x.zone) ∧
  w.cell? ⟨b, off + i * 11 + 4, none⟩ = some (.bool x.tag) ∧ w.cell? ⟨b, off + i * 11 + 5, none⟩ = some (.bool x.on) ∧ w.cell? ⟨b, off + i * 11 + 6, none⟩ = some (.bool x.gone) ∧ w.cell? ⟨b, off + i * 11 + 7, none⟩ = some (.bool x.well) ∧ w.cell? ⟨b, off + i * 11 + 8, none⟩ = some (.int .u8 x.lb) ∧ w.cell? ⟨b, off + i * 11 + 9, none⟩ = some (.int .i64 x.til) ∧ w.cell? ⟨b, off + i * 11 + 10, none⟩ = some (.int .i64 x.fence) :=
 ⟨h i x hi 0 _ rfl, h i x hi 1 _ rfl, h i x hi 2 _ rfl, h i x hi 3 _ rfl, h i x hi 4 _ rfl, h i x hi 5 _ rfl, h i x hi 6 _ rfl, h i x hi 7 _ rfl, h i x hi 8 _ rfl, h i x hi 9 _ rfl, h i x hi 10 _ rfl⟩

theorem rnum08_any (n : Int) (q : Bool) (hq : numP n = q) (w : World) : Calls Tryz.prog 54 #[.int .i64 n] w fun e w' => e = .returned (.bool q) ∧ w = w' := by
 rw [← hq]
 by_cases h1 : 0 ≤ n
 ·have d1 : decide (0 ≤ n) = true := by simpa using h1
  have e0 : numP n = decide (n ≤ 1099511627776) := by simp [numP, h1]
  rw [e0]
  go_enter Tryz.func54, Tryz.ntmps54
  go_wp2
  go_ret
  exact ⟨rfl, rfl⟩
 ·have d1 : decide (0 ≤ n) = false := by simpa using h1
  have e0 : numP n = false := by simp [numP]; omega
  rw [e0]
  go_enter Tryz.func54, Tryz.ntmps54
  go_wp2
  go_ret
  exact ⟨rfl, rfl⟩
set_option maxHeartbeats 4000000 in
theorem rbox08_any (x : BoxV) (i : Nat) (q : Bool) (hq : boxB x i = q) (hi : i ≤ 1000) (w : World) : Calls Tryz.prog 55 #[.agg #[.int .i64 x.id, .int .i64 x.token, .int .i64 x.version, .int .i64 x.zone, .bool x.tag, .bool x.on, .bool x.gone, .bool x.well, .int .u8 x.lb, .int .i64 x.til, .int .i64 x.fence], .int .i64 (i : Int)] w fun e w' => e = .returned (.bool q) ∧ Below w.heap.size w w' := by
 obtain ⟨id, token, version, zone, tag, on, gone, well, lb, til, fence⟩ := x
 obtain ⟨bi, hbi⟩ : ∃ b, (id == (i : Int) + 1) = b := ⟨_, rfl⟩
 obtain ⟨bt, hbt⟩ : ∃ b, numP token = b := ⟨_, rfl⟩
 obtain ⟨bv, hbv⟩ : ∃ b, numP version = b := ⟨_, rfl⟩
 obtain ⟨bz, hbz⟩ : ∃ b, numP zone = b := ⟨_, rfl⟩
 obtain ⟨bl, hbl⟩ : ∃ b, decide (2 < lb) = b := ⟨_, rfl⟩
 obtain ⟨b0, hb0⟩ : ∃ b, (lb == 0) = b := ⟨_, rfl⟩
 have hb1 : (lb != 0) = !b0 := by rw [← hb0]; rfl
 have hw : (id != wrap64 ((i : Int) + 1)) = !bi := by rw [show wrap64 ((i : Int) + 1) = (i : Int) + 1 by unfold wrap64; omega, ← hbi]; rfl
 unfold boxB at hq
 dsimp only at hq ⊢
 rw [hbi, hbt, hbv, hbz, hbl, hb0, hb1] at hq
 have HQ := hid hq
 have HT := hid (rnum08_any token bt hbt)
 have HV := hid (rnum08_any version bv hbv)
 have HZ := hid (rnum08_any zone bz hbz)
 clear hq hbi hbt hbv hbz hi
 obtain ⟨W1, hW1⟩ : ∃ W1, W1 = w.alloc (.cells #[.int .i64 id, .int .i64 token, .int .i64 version, .int .i64 zone, .bool tag, .bool on, .bool gone, .bool well, .int .u8 lb, .int .i64 til, .int .i64 fence] 116) := ⟨_, rfl⟩
 have n1 : W1.heap[w.heap.size]? = some (.cells #[.int .i64 id, .int .i64 token, .int .i64 version, .int .i64 zone, .bool tag, .bool on, .bool gone, .bool well, .int .u8 lb, .int .i64 til, .int .i64 fence] 116) := by rw [hW1]; exact heap_new _ _
 have HB := hid (show Below w.heap.size w W1 by rw [hW1]; exact (Below.refl _ _).alloc (Nat.le_refl _) _)
 have c0 : W1.cell? ⟨w.heap.size, 0, none⟩ = some (.int .i64 id) := blk_cell n1 0
 have c1 : W1.cell? ⟨w.heap.size, 1, none⟩ = some (.int .i64 token) := blk_cell n1 1
 have c2 : W1.cell? ⟨w.heap.size, 2, none⟩ = some (.int .i64 version) := blk_cell n1 2
 have c3 : W1.cell? ⟨w.heap.size, 3, none⟩ = some (.int .i64 zone) := blk_cell n1 3
 have c5 : W1.cell? ⟨w.heap.size, 5, none⟩ = some (.bool on) := blk_cell n1 5
 have c6 : W1.cell? ⟨w.heap.size, 6, none⟩ = some (.bool gone) := blk_cell n1 6
 have c8 : W1.cell? ⟨w.heap.size, 8, none⟩ = some (.int .u8 lb) := blk_cell n1 8
 have cl := blk_lt n1
 clear n1
 go_enter Tryz.func55, Tryz.ntmps55
 go_upto_region 1 with (fail)
 rw [← hW1]
 clear hW1
 cases bi with
 | false =>
  obtain rfl : q = false := by rw [← HQ.out]; rfl
  go_wp2
  go_ret
  exact ⟨rfl, HB.out⟩
 | true =>
  go_wp2_with fail
  refine (HT.out W1).mono ?_
  rintro e _ ⟨rfl, rfl⟩
  cases bt with
  | false =>
   obtain rfl : q = false := by rw [← HQ.out]; rfl
   go_wp2
   go_ret
   exact ⟨rfl, HB.out⟩
  | true =>
   go_wp2_with fail
   refine (HV.out W1).mono ?_
   rintro e _ ⟨rfl, rfl⟩
   cases bv with
   | false =>
    obtain rfl : q = false := by rw [← HQ.out]; rfl
    go_wp2
    go_ret
    exact ⟨rfl, HB.out⟩
   | true =>
    go_wp2_with fail
    refine (HZ.out W1).mono ?_
    rintro e _ ⟨rfl, rfl⟩
    cases bz with
    | false =>
     obtain rfl : q = false := by rw [← HQ.out]; rfl
     go_wp2
     go_ret
     exact ⟨rfl, HB.out⟩
    | true =>
     cases bl with
     | true =>
      obtain rfl : q = false := by rw [← HQ.out]; rfl
      go_wp2
      go_ret
      exact ⟨rfl, HB.out⟩
     | false =>
      cases b0 with
      | true =>
       have HE := hid (show q = !(gone && on) by rw [← HQ.out]; cases gone <;> cases on <;> rfl)
       clear HQ
       cases on with
       | true =>
        cases gone with
        | true =>
         obtain rfl : q = false := HE.out
         go_wp2
         go_ret
         exact ⟨rfl, HB.out⟩
        | false =>
         obtain rfl : q = true := HE.out
         go_wp2
         go_ret
         exact ⟨rfl, HB.out⟩
       | false =>
        obtain rfl : q = true := by rw [HE.out]; cases gone <;> rfl
        cases gone with
        | true =>
         go_wp2
         go_ret
         exact ⟨rfl, HB.out⟩
        | false =>
         go_wp2
         go_ret
         exact ⟨rfl, HB.out⟩
      | false =>
       have HE := hid (show q = (!gone && on) by rw [← HQ.out]; cases gone <;> cases on <;> rfl)
       clear HQ
       cases gone with
       | true =>
        obtain rfl : q = false := HE.out
        cases on with
        | true =>
         go_wp2
         go_ret
         exact ⟨rfl, HB.out⟩
        | false =>
         go_wp2
         go_ret
         exact ⟨rfl, HB.out⟩
       | false =>
        obtain rfl : q = on := HE.out
        cases q with
        | true =>
         go_wp2
         go_ret
         exact ⟨rfl, HB.out⟩
        | false =>
         go_wp2
         go_ret
         exact ⟨rfl, HB.out⟩
set_option maxHeartbeats 4000000 in
theorem rright08_any (C : CloudV) (s : Value) (q : Bool) (hq : q = true ↔ CloudR C) (w : World) (hs : RowOf 11 encBx w s C.boxes) : Calls Tryz.prog 28 #[.agg (cloudA C s)] w fun e w' => e = .returned (.bool q) ∧ Below w.heap.size w w' := by
 obtain ⟨L, floor, drain, now, tight⟩ := C
 unfold cloudA
 dsimp only at hs ⊢
 obtain ⟨a, c, rfl, _, _, _, hop⟩ := hs.open
 have HOP := hid hop
 obtain ⟨bf, hbf⟩ : ∃ b, numP floor = b := ⟨_, rfl⟩
 obtain ⟨bd, hbd⟩ : ∃ b, numP drain = b := ⟨_, rfl⟩
 obtain ⟨bn, hbn⟩ : ∃ b, numP now = b := ⟨_, rfl⟩
 have HF := hid (rnum08_any floor bf hbf)
 have HD := hid (rnum08_any drain bd hbd)
 have HN := hid (rnum08_any now bn hbn)
 have HQ := hid hq
 have EF := hid hbf
 have ED := hid hbd
 have EN := hid hbn
 obtain ⟨W1, hW1⟩ : ∃ W1, W1 = w.alloc (.cells #[.slice a L.length c, .int .i64 floor, .int .i64 drain, .int .i64 now, .bool tight] 72) := ⟨_, rfl⟩
 have n1 : W1.heap[w.heap.size]? = some (.cells #[.slice a L.length c, .int .i64 floor, .int .i64 drain, .int .i64 now, .bool tight] 72) := by rw [hW1]; exact heap_new _ _
 have HB := hid (show Below w.heap.size w W1 by rw [hW1]; exact (Below.refl _ _).alloc (Nat.le_refl _) _)
 have c0 : W1.cell? ⟨w.heap.size, 0, none⟩ = some (.slice a L.length c) := blk_cell n1 0
 have c1 : W1.cell? ⟨w.heap.size, 1, none⟩ = some (.int .i64 floor) := blk_cell n1 1
 have c2 : W1.cell? ⟨w.heap.size, 2, none⟩ = some (.int .i64 drain) := blk_cell n1 2
 have c3 : W1.cell? ⟨w.heap.size, 3, none⟩ = some (.int .i64 now) := blk_cell n1 3
 have cl := blk_lt n1
 have N1 := hid n1
 clear n1 hbf hbd hbn hq hop hs
 go_enter Tryz.func28, Tryz.ntmps28
 go_upto_region 1 with (fail)
 rw [← hW1]
 clear hW1
 by_cases h60 : 60 < L.length
 ·have d60 : decide ((60 : Int) < (L.length : Int)) = true := decide_eq_true (by omega)
  have HE := hid (show q = false by
   cases q with
   | false => rfl
   | true => have := (HQ.out.1 rfl).len; dsimp only at this; omega)
  obtain rfl : q = false := HE.out
  clear h60
  go_wp2
  go_ret
  exact ⟨rfl, HB.out⟩
 ·have d60 : decide ((60 : Int) < (L.length : Int)) = false := decide_eq_false (by omega)
  have H60 := hid (show L.length ≤ 60 by omega)
  clear h60
  go_wp2_with fail
  refine (HF.out W1).mono ?_
  rintro e _ ⟨rfl, rfl⟩
  cases bf with
  | false =>
   have HE := hid (show q = false by
    cases q with
    | false => rfl
    | true => have := (HQ.out.1 rfl).floor; dsimp only at this; rw [EF.out] at this; cases this)
   obtain rfl : q = false := HE.out
   go_wp2
   go_ret
   exact ⟨rfl, HB.out⟩
  | true =>
   go_wp2_with fail
   refine (HD.out W1).mono ?_
   rintro e _ ⟨rfl, rfl⟩
   cases bd with
   | false =>
    have HE := hid (show q = false by
     cases q with
     | false => rfl
     | true => have := (HQ.out.1 rfl).drain; dsimp only at this; rw [ED.out] at this; cases this)
    obtain rfl : q = false := HE.out
    go_wp2
    go_ret
    exact ⟨rfl, HB.out⟩
   | true =>
    go_wp2_with fail
    refine (HN.out W1).mono ?_
    rintro e _ ⟨rfl, rfl⟩
    cases bn with
    | false =>
     have HE := hid (show q = false by
      cases q with
      | false => rfl
      | true => have := (HQ.out.1 rfl).now; dsimp only at this; rw [EN.out] at this; cases this)
     obtain rfl : q = false := HE.out
     go_wp2
     go_ret
     exact ⟨rfl, HB.out⟩
    | true =>
     go_wp2
     clear c0 c1 c2 c3 cl d60
     go_loopw [3] (fun iv wr => ∃ n : Nat, n ≤ L.length ∧ iv = .int .i64 n ∧ Below W1.heap.size W1 wr ∧ (∀ i x, i < n → L[i]? = some x → boxB x i = true) ∧ (∀ i j x y, i < n → L[i]? = some x → L[j]? = some y → j < i → tokP x y = false)) (fun iv _ => L.length - (intOf iv).toNat)
     case atStart => exact ⟨0, Nat.zero_le _, rfl, Below.refl _ _, fun i x h => absurd h (by omega), fun i j x y h => absurd h (by omega)⟩
     case round =>
      obtain ⟨n, hn, rfl, hBr, ha, hb⟩ := hrel
      obtain ⟨W2, hW2⟩ : ∃ W : World, W = wr := ⟨_, rfl⟩
      rw [← hW2] at hBr ⊢
      clear hW2
      have HBr := hid hBr
      have N2 := hid (blk_below N1.out hBr (blk_lt N1.out))
      have HA := hid ha
      have HBB := hid hb
      clear hBr ha hb
      have c0 : W2.cell? ⟨w.heap.size, 0, none⟩ = some (.slice a L.length c) := blk_cell N2.out 0
      have cl := blk_lt N2.out
      by_cases hlt : n < L.length
      ·obtain ⟨b1, o1, rfl, hb1, hr1⟩ := HOP.out (by omega)
       obtain ⟨x, hx⟩ := get_lt hlt
       have HBW := hid (HB.out.trans (HBr.out.mono HB.out.size))
       obtain ⟨g0, g1, g2, g3, g4, g5, g6, g7, g8, g9, g10⟩ := rowBx (hr1.below HBW.out hb1) hx
       have hnL : (n : Int) < (L.length : Int) := by omega
       have hl1 : b1 < W2.heap.size := Nat.lt_of_lt_of_le hb1 HBW.out.size
       have HR1 := hid hr1
       have HB1 := hid hb1
       obtain ⟨bq, hbq⟩ : ∃ b, boxB x n = b := ⟨_, rfl⟩
       have HX := hid hx
       have HBQ := hid hbq
       have HBX := hid (rbox08_any x n bq hbq (by have := H60.out; omega) W2)
       clear hx hbq hr1
       go_wp2_with fail
       clear g0 g1 g2 g3 g4 g5 g6 g7 g8 g9 g10 c0 cl hl1
       refine HBX.out.mono ?_
       rintro e W3 ⟨rfl, hb3⟩
       have HB3 := hid (HBr.out.trans (hb3.mono HBr.out.size))
       clear hb3
       cases bq with
       | false =>
        have HE := hid (show q = false by
         cases q with
         | false => rfl
         | true => have := (HQ.out.1 rfl).box n x HX.out; rw [HBQ.out] at this; cases this)
        obtain rfl : q = false := HE.out
        go_wp2
        go_ret
        exact ⟨rfl, HB.out.trans (HB3.out.mono HB.out.size)⟩
       | true =>
        go_wp2
        go_loopw [4] (fun iv wr => ∃ m : Nat, m ≤ n ∧ iv = .int .i64 m ∧ Below W1.heap.size W1 wr ∧ (∀ j y, j < m → L[j]? = some y → tokP x y = false)) (fun iv _ => n - (intOf iv).toNat)
        case atStart => exact ⟨0, Nat.zero_le _, rfl, HB3.out, fun j y h => absurd h (by omega)⟩
        case round =>
         obtain ⟨m, hm, rfl, hBr2, ha2⟩ := hrel
         obtain ⟨W4, hW4⟩ : ∃ W : World, W = wr := ⟨_, rfl⟩
         rw [← hW4] at hBr2 ⊢
         clear hW4
         have HB4 := hid hBr2
         have N4 := hid (blk_below N1.out hBr2 (blk_lt N1.out))
         have HA2 := hid ha2
         clear hBr2 ha2
         by_cases hmn : m < n
         ·have hmn' : (m : Int) < (n : Int) := by omega
          have hmL : (m : Int) < (L.length : Int) := by omega
          obtain ⟨y, hy⟩ := get_lt (l := L) (k := m) (by omega)
          have HBW4 := hid (HB.out.trans (HB4.out.mono HB.out.size))
          have c0 : W4.cell? ⟨w.heap.size, 0, none⟩ = some (.slice (some ⟨b1, o1, none⟩) L.length c) := blk_cell N4.out 0
          have cl := blk_lt N4.out
          have g1 := (rowBx (HR1.out.below HBW4.out HB1.out) HX.out).2.1
          have f1 := (rowBx (HR1.out.below HBW4.out HB1.out) hy).2.1
          have hl1 : b1 < W4.heap.size := Nat.lt_of_lt_of_le HB1.out HBW4.out.size
          have HY := hid hy
          clear hy
          obtain ⟨xt, hxt⟩ : ∃ t, x.token = t := ⟨_, rfl⟩
          obtain ⟨yt, hyt⟩ : ∃ t, y.token = t := ⟨_, rfl⟩
          have HXT := hid hxt
          have HYT := hid hyt
          rw [hxt] at g1
          rw [hyt] at f1
          clear hxt hyt
          have hrel2 : ∀ (v : Bool), tokP x y = v → (decide (0 < xt) && (yt == xt)) = v := by
           intro v hv
           unfold tokP at hv
           rw [HXT.out, HYT.out] at hv
           exact hv
          have HREL := hid hrel2
          clear hrel2
          by_cases h1 : 0 < xt
          ·have d1 : decide (0 < xt) = true := decide_eq_true h1
           clear h1
           by_cases h2 : yt = xt
           ·have d2 : (yt == xt) = true := by simpa using h2
            have HE := hid (show q = false by
             cases q with
             | false => rfl
             | true => have := HREL.out _ ((HQ.out.1 rfl).tok n m x y HX.out HY.out hmn); rw [d1, d2] at this; cases this)
            obtain rfl : q = false := HE.out
            clear h2
            go_wp2
            go_quiet (fail)
            go_wp2
            go_ret
            exact ⟨rfl, below_drewN HBW4.out _⟩
           ·have d2 : (yt == xt) = false := by simpa using h2
            clear h2
            have HT := hid (show tokP x y = false by unfold tokP; rw [HXT.out, HYT.out, d1, d2]; rfl)
            go_wp2
            go_quiet (fail)
            go_wp2
            go_roundw
            case rel => exact ⟨m + 1, by omega, by go_num, below_drewN HB4.out _, fun j z hj hz => by
             rcases Nat.lt_or_ge j m with h | h
             ·exact HA2.out j z h hz
             ·obtain rfl : j = m := by omega
              rw [HY.out] at hz
              cases hz
              exact HT.out⟩
            case measure => simp [intOf]; omega
          ·have d1 : decide (0 < xt) = false := decide_eq_false h1
           clear h1
           have HT := hid (show tokP x y = false by unfold tokP; rw [HXT.out, d1]; rfl)
           go_wp2
           go_quiet (fail)
           go_wp2
           go_roundw
           case rel => exact ⟨m + 1, by omega, by go_num, below_drewN HB4.out _, fun j z hj hz => by
            rcases Nat.lt_or_ge j m with h | h
            ·exact HA2.out j z h hz
            ·obtain rfl : j = m := by omega
             rw [HY.out] at hz
             cases hz
             exact HT.out⟩
           case measure => simp [intOf]; omega
         ·obtain rfl : m = n := by omega
          go_wp2
          go_roundw
          case rel => exact ⟨m + 1, by omega, by go_num, HB4.out, fun i z hi hz => by
            rcases Nat.lt_or_ge i m with h | h
            ·exact HA.out i z h hz
            ·obtain rfl : i = m := by omega
             rw [HX.out] at hz
             cases hz
             exact HBQ.out, fun i j z u hi hz hu hji => by
            rcases Nat.lt_or_ge i m with h | h
            ·exact HBB.out i j z u h hz hu hji
            ·obtain rfl : i = m := by omega
             rw [HX.out] at hz
             cases hz
             exact HA2.out j u hji hu⟩
          case measure => simp [intOf]; omega
      ·obtain rfl : n = L.length := by omega
       have HE := hid (show q = true from HQ.out.2 ⟨H60.out, EF.out, ED.out, EN.out, fun i x hx => HA.out i x (lt_get hx) hx, fun i j x y hx hy hji => HBB.out i j x y (lt_get hx) hx hy hji⟩)
       obtain rfl : q = true := HE.out
       go_wp2
       go_ret
       exact ⟨rfl, HB.out.trans (HBr.out.mono HB.out.size)⟩

def findBx (L : List BoxV) (t : Int) : Int := idxL L (fun x => x.id == t && !x.gone)
set_option maxHeartbeats 2000000 in
theorem rfind08_any (C : CloudV) (s : Value) (t r : Int) (hr : findBx C.boxes t = r) (w : World) (hs : RowOf 11 encBx w s C.boxes) (hl : C.boxes.length ≤ 100000) : Calls Tryz.prog 32 #[.agg (cloudA C s), .int .i64 t] w fun e w' => e = .returned (.int .i64 r) ∧ Below w.heap.size w w' := by
 obtain ⟨L, floor, drain, now, tight⟩ := C
 unfold cloudA
 unfold findBx at hr
 dsimp only at hs hr hl ⊢
 obtain ⟨a, c, rfl, _, _, _, hop⟩ := hs.open
 have HOP := hid hop
 have HR := hid hr
 obtain ⟨W1, hW1⟩ : ∃ W1, W1 = w.alloc (.cells #[.slice a L.length c, .int .i64 floor, .int .i64 drain, .int .i64 now, .bool tight] 72) := ⟨_, rfl⟩
 have n1 : W1.heap[w.heap.size]? = some (.cells #[.slice a L.length c, .int .i64 floor, .int .i64 drain, .int .i64 now, .bool tight] 72) := by rw [hW1]; exact heap_new _ _
 have HB := hid (show Below w.heap.size w W1 by rw [hW1]; exact (Below.refl _ _).alloc (Nat.le_refl _) _)
 have N1 := hid n1
 have HW1 := hid hW1
 clear n1 hr hop hs hW1
 go_enter Tryz.func32, Tryz.ntmps32
 go_wp2
 rw [← HW1.out]
 go_loopw [5] (fun iv wr => ∃ n : Nat, n ≤ L.length ∧ iv = .int .i64 n ∧ Below W1.heap.size W1 wr ∧ (∀ y ∈ L.take n, (y.id == t && !y.gone) = false)) (fun iv _ => L.length - (intOf iv).toNat)
 case atStart => exact ⟨0, Nat.zero_le _, rfl, Below.refl _ _, fun x hx => by simp at hx⟩
 case round =>
  obtain ⟨n, hn, rfl, hBr, hno⟩ := hrel
  have HBr := hid hBr
  have N2 := hid (blk_below N1.out hBr (blk_lt N1.out))
  have HNO := hid hno
  clear hBr hno
  have c0 : wr.cell? ⟨w.heap.size, 0, none⟩ = some (.slice a L.length c) := blk_cell N2.out 0
  have cl := blk_lt N2.out
  by_cases hlt : n < L.length
  ·obtain ⟨b1, o1, rfl, hb1, hr1⟩ := HOP.out (by omega)
   obtain ⟨x, hx⟩ := get_lt hlt
   have HBW := hid (HB.out.trans (HBr.out.mono HB.out.size))
   have hR := rowBx (hr1.below HBW.out hb1) hx
   have g0 := hR.1
   have g6 := hR.2.2.2.2.2.2.1
   have hnL : (n : Int) < (L.length : Int) := by omega
   have hl1 : b1 < wr.heap.size := Nat.lt_of_lt_of_le hb1 HBW.out.size
   have HX := hid hx
   obtain ⟨u, hu⟩ : ∃ u, x.id = u := ⟨_, rfl⟩
   obtain ⟨g, hg⟩ : ∃ g, x.gone = g := ⟨_, rfl⟩
   have HU := hid hu
   have HG := hid hg
   rw [hu] at g0
   rw [hg] at g6
   clear hx hr1 hu hg hR
   by_cases hut : u = t
   ·have d1 : (u == t) = true := by simpa using hut
    clear hut
    cases g with
    | false =>
     have HE := hid (show idxL L (fun x => x.id == t && !x.gone) = (n : Int) from idxL_at HX.out (by rw [HU.out, HG.out, d1]; rfl) HNO.out)
     obtain rfl : r = (n : Int) := by rw [← HR.out]; exact HE.out
     go_wp2
     go_ret
     exact ⟨rfl, HBW.out⟩
    | true =>
     have HN := hid (idxL_next HX.out HNO.out (by rw [HU.out, HG.out, d1]; rfl))
     go_wp2
     go_roundw
     case rel => exact ⟨n + 1, by omega, by go_num, HBr.out, HN.out⟩
     case measure => simp [intOf]; omega
   ·have d1 : (u == t) = false := by simpa using hut
    clear hut
    have HN := hid (idxL_next HX.out HNO.out (by rw [HU.out, d1]; rfl))
    go_wp2
    go_roundw
    case rel => exact ⟨n + 1, by omega, by go_num, HBr.out, HN.out⟩
    case measure => simp [intOf]; omega
  ·obtain rfl : n = L.length := by omega
   have HE := hid (show idxL L (fun x => x.id == t && !x.gone) = -1 from idxL_no (by have := HNO.out; rwa [List.take_length] at this))
   obtain rfl : r = -1 := by rw [← HR.out]; exact HE.out
   go_wp2
   go_ret
   exact ⟨rfl, HB.out.trans (HBr.out.mono HB.out.size)⟩
end Go.Proofs.YthhgpiolcnojfaaGreatDoor

/- herdref08.Counted, H, gone, one: what is asked of one box. Printed by gn_do.py. -/
namespace Go.Proofs.YthhgpiolcnojfaaGreatDoor
open Go.RowKit Go.Shelf

theorem flt_yes {α : Type} (p : α → Bool) {l : List α} {i : Nat} {x : α} (h : l[i]? = some x) (hp : p x = true) : ((l.take (i + 1)).filter p).length = ((l.take i).filter p).length + 1 := by
 rw [take_snoc l i x h]; simp [hp]
theorem flt_no {α : Type} (p : α → Bool) {l : List α} {i : Nat} {x : α} (h : l[i]? = some x) (hp : p x = false) : ((l.take (i + 1)).filter p).length = ((l.take i).filter p).length := by
 rw [take_snoc l i x h]; simp [hp]
def cntB (x : BoxV) : Bool := x.on && (x.well && x.lb == 1)
def hB (L : List BoxV) : Nat := (L.filter cntB).length
set_option maxHeartbeats 1000000 in
theorem rcounted_any (x : BoxV) (q : Bool) (hq : cntB x = q) (w : World) : Calls Tryz.prog 81 #[.agg #[.int .i64 x.id, .int .i64 x.token, .int .i64 x.version, .int .i64 x.zone, .bool x.tag, .bool x.on, .bool x.gone, .bool x.well, .int .u8 x.lb, .int .i64 x.til, .int .i64 x.fence]] w fun e w' => e = .returned (.bool q) ∧ Below w.heap.size w w' := by
 obtain ⟨id, token, version, zone, tag, on, gone, well, lb, til, fence⟩ := x
 unfold cntB at hq
 dsimp only at hq ⊢
 obtain ⟨b, hb⟩ : ∃ b, (lb == 1) = b := ⟨_, rfl⟩
 rw [hb] at hq
 cases on <;> cases well <;> cases b
 all_goals
  subst hq
  go_enter Tryz.func81, Tryz.ntmps81
  go_wp2
  go_ret
  exact ⟨rfl, (Below.refl _ _).alloc (Nat.le_refl _) _⟩
set_option maxHeartbeats 1000000 in
theorem rh08_any (C : CloudV) (s : Value) (n : Nat) (hn : hB C.boxes = n) (w : World) (hs : RowOf 11 encBx w s C.boxes) (hl : C.boxes.length ≤ 100000) : Calls Tryz.prog 82 #[.agg (cloudA C s)] w fun e w' => e = .returned (.int .i64 (n : Int)) ∧ Below w.heap.size w w' := by
 obtain ⟨L, floor, drain, now, tight⟩ := C
 unfold cloudA
 unfold hB at hn
 dsimp only at hs hn hl ⊢
 obtain ⟨a, c, rfl, _, _, _, hop⟩ := hs.open
 have HOP := hid hop
 have HN := hid hn
 obtain ⟨W1, hW1⟩ : ∃ W1, W1 = w.alloc (.cells #[.slice a L.length c, .int .i64 floor, .int .i64 drain, .int .i64 now, .bool tight] 72) := ⟨_, rfl⟩
 have n1 : W1.heap[w.heap.size]? = some (.cells #[.slice a L.length c, .int .i64 floor, .int .i64 drain, .int .i64 now, .bool tight] 72) := by rw [hW1]; exact heap_new _ _
 have HB := hid (show Below w.heap.size w W1 by rw [hW1]; exact (Below.refl _ _).alloc (Nat.le_refl _) _)
 have N1 := hid n1
 have HW1 := hid hW1
 clear n1 hn hop hs hW1
 go_enter Tryz.func82, Tryz.ntmps82
 go_wp2
 rw [← HW1.out]
 go_loopw [4, 3] (fun iv cv wr => ∃ k : Nat, k ≤ L.length ∧ iv = .int .i64 k ∧ cv = .int .i64 (((L.take k).filter cntB).length : Nat) ∧ Below W1.heap.size W1 wr) (fun iv _ _ => L.length - (intOf iv).toNat)
 case atStart => exact ⟨0, Nat.zero_le _, rfl, rfl, Below.refl _ _⟩
 case round =>
  obtain ⟨k, hk, rfl, rfl, hBr⟩ := hrel
  have HBr := hid hBr
  have N2 := hid (blk_below N1.out hBr (blk_lt N1.out))
  clear hBr
  have c0 : wr.cell? ⟨w.heap.size, 0, none⟩ = some (.slice a L.length c) := blk_cell N2.out 0
  have cl := blk_lt N2.out
  by_cases hlt : k < L.length
  ·obtain ⟨b1, o1, rfl, hb1, hr1⟩ := HOP.out (by omega)
   obtain ⟨x, hx⟩ := get_lt hlt
   have HBW := hid (HB.out.trans (HBr.out.mono HB.out.size))
   obtain ⟨g0, g1, g2, g3, g4, g5, g6, g7, g8, g9, g10⟩ := rowBx (hr1.below HBW.out hb1) hx
   have hnL : (k : Int) < (L.length : Int) := by omega
   have hl1 : b1 < wr.heap.size := Nat.lt_of_lt_of_le hb1 HBW.out.size
   have HX := hid hx
   obtain ⟨q, hq⟩ : ∃ q, cntB x = q := ⟨_, rfl⟩
   have HC := hid (rcounted_any x q hq wr)
   have HQ := hid hq
   have hm := List.length_filter_le cntB (L.take k)
   rw [List.length_take] at hm
   obtain ⟨m, hm'⟩ : ∃ m, ((L.take k).filter cntB).length = m := ⟨_, rfl⟩
   have HM := hid hm'
   rw [hm'] at hm ⊢
   have hm2 : m ≤ 100000 := by omega
   clear hx hr1 hq hm hm'
   go_wp2_with fail
   clear g0 g1 g2 g3 g4 g5 g6 g7 g8 g9 g10 c0 cl hl1
   refine HC.out.mono ?_
   rintro e W3 ⟨rfl, hb3⟩
   have HB3 := hid (HBr.out.trans (hb3.mono HBr.out.size))
   clear hb3
   cases q with
   | true =>
    go_wp2
    go_roundw
    case rel => exact ⟨k + 1, by omega, by go_num, by rw [flt_yes cntB HX.out HQ.out, HM.out]; go_num, HB3.out⟩
    case measure => simp [intOf]; omega
   | false =>
    go_wp2
    go_roundw
    case rel => exact ⟨k + 1, by omega, by go_num, by rw [flt_no cntB HX.out HQ.out, HM.out], HB3.out⟩
    case measure => simp [intOf]; omega
  ·obtain rfl : k = L.length := by omega
   have HE := hid (show ((L.take L.length).filter cntB).length = n by rw [List.take_length]; exact HN.out)
   rw [HE.out]
   go_wp2
   go_ret
   exact ⟨rfl, HB.out.trans (HBr.out.mono HB.out.size)⟩
def BEnd (w : World) (e : Ending) (w' : World) : Prop := ∃ q : Bool, e = .returned (.bool q) ∧ Below w.heap.size w w'
set_option maxHeartbeats 1000000 in
theorem rgone08_any (C : CloudV) (s : Value) (id : Int) (w : World) (hs : RowOf 11 encBx w s C.boxes) (hl : C.boxes.length ≤ 100000) : Calls Tryz.prog 80 #[.agg (cloudA C s), .int .i64 id] w (BEnd w) := by
 obtain ⟨L, floor, drain, now, tight⟩ := C
 unfold cloudA
 dsimp only at hs hl ⊢
 obtain ⟨a, c, rfl, _, _, _, hop⟩ := hs.open
 have HOP := hid hop
 obtain ⟨W1, hW1⟩ : ∃ W1, W1 = w.alloc (.cells #[.slice a L.length c, .int .i64 floor, .int .i64 drain, .int .i64 now, .bool tight] 72) := ⟨_, rfl⟩
 have n1 : W1.heap[w.heap.size]? = some (.cells #[.slice a L.length c, .int .i64 floor, .int .i64 drain, .int .i64 now, .bool tight] 72) := by rw [hW1]; exact heap_new _ _
 have HB := hid (show Below w.heap.size w W1 by rw [hW1]; exact (Below.refl _ _).alloc (Nat.le_refl _) _)
 have c0 : W1.cell? ⟨w.heap.size, 0, none⟩ = some (.slice a L.length c) := blk_cell n1 0
 have cl := blk_lt n1
 have HW1 := hid hW1
 clear n1 hop hs hW1
 go_enter Tryz.func80, Tryz.ntmps80
 by_cases h1 : 1 ≤ id
 ·have d1 : decide (1 ≤ id) = true := decide_eq_true h1
  by_cases h2 : id ≤ (L.length : Int)
  ·have d2 : decide (id ≤ (L.length : Int)) = true := decide_eq_true h2
   obtain ⟨k, hk⟩ : ∃ k : Nat, id = (k : Int) + 1 := ⟨(id - 1).toNat, by omega⟩
   have hkL : k < L.length := by omega
   have hkI : (k : Int) < (L.length : Int) := by omega
   have hw : wrap64 (id - 1) = (k : Int) := by unfold wrap64; omega
   obtain ⟨b1, o1, rfl, hb1, hr1⟩ := HOP.out (by omega)
   obtain ⟨x, hx⟩ := get_lt hkL
   have g6 := (rowBx (hr1.below HB.out hb1) hx).2.2.2.2.2.2.1
   have hl1 : b1 < W1.heap.size := Nat.lt_of_lt_of_le hb1 HB.out.size
   obtain ⟨g, hg⟩ : ∃ g, x.gone = g := ⟨_, rfl⟩
   rw [hg] at g6
   clear hx hr1 hg h1 h2 hk
   go_upto_region 1 with (fail)
   rw [← HW1.out]
   cases g with
   | true =>
    go_wp2
    go_ret
    exact ⟨_, rfl, HB.out⟩
   | false =>
    go_wp2
    go_ret
    exact ⟨_, rfl, HB.out⟩
  ·have d2 : decide (id ≤ (L.length : Int)) = false := decide_eq_false h2
   clear h1 h2
   go_upto_region 1 with (fail)
   rw [← HW1.out]
   go_wp2
   go_ret
   exact ⟨_, rfl, HB.out⟩
 ·have d1 : decide (1 ≤ id) = false := decide_eq_false h1
  clear h1
  go_upto_region 1 with (fail)
  rw [← HW1.out]
  go_wp2
  go_ret
  exact ⟨_, rfl, HB.out⟩
/-- A box put in place of one: is it found? -/
theorem find_put {L : List BoxV} (hid : ∀ (i : Nat) (x : BoxV), L[i]? = some x → x.id = (i : Int) + 1) {k : Nat} {x : BoxV} (hx : L[k]? = some x) {id : Int} (hxi : x.id = id) (y : BoxV) (hy : y.id = x.id) :
  (y.gone = false → 0 ≤ findBx (L.take k ++ [y] ++ L.drop (k + 1)) id) ∧ (y.gone = true → findBx (L.take k ++ [y] ++ L.drop (k + 1)) id < 0) := by
 subst hxi
 unfold findBx
 refine ⟨fun hg => ?_, fun hg => ?_⟩
 ·rcases idxL_cases (L.take k ++ [y] ++ L.drop (k + 1)) (fun z => z.id == x.id && !z.gone) with ⟨_, h⟩ | ⟨j, z, h, _⟩
  ·have := h y (by simp)
   rw [hg, hy] at this
   simp at this
  ·omega
 ·rw [idxL_no (fun z hz => ?_)]
  ·omega
  ·simp only [List.append_assoc, List.mem_append, List.mem_singleton] at hz
   have hne : ∀ (j : Nat) (z : BoxV), L[j]? = some z → j ≠ k → (z.id == x.id && !z.gone) = false := by
    intro j z hj hjk
    have h1 := hid j z hj
    have h2 := hid k x hx
    have : (z.id == x.id) = false := by
     rw [beq_eq_false_iff_ne]
     omega
    rw [this]
    rfl
   rcases hz with hz | rfl | hz
   ·obtain ⟨j, hj⟩ := List.getElem?_of_mem hz
    rw [List.getElem?_take] at hj
    split at hj
    ·exact hne j z hj (by omega)
    ·cases hj
   ·rw [hg]
    simp
   ·obtain ⟨j, hj⟩ := List.getElem?_of_mem hz
    rw [List.getElem?_drop] at hj
    exact hne _ z hj (by omega)
/-- What an answer of one box tells. -/
structure OneP (kd id code : Int) (D : List BoxV) : Prop where
 codes : code = 1 ∨ code = 2 ∨ code = 3 ∨ code = 5
 gone : code = 1 → kd = 6 → findBx D id < 0
 there : code = 1 → kd ≠ 6 → 0 ≤ findBx D id
 ref : code = 3 → (kd = 5 ∨ kd = 6) ∧ 0 ≤ findBx D id
 len : D.length ≤ 60
theorem res_cloud_tmp {fn : Func} {tmps : Array Value} {r q : Tmp} {b : Nat} {c0 c1 c2 c3 c4 u : Value} {W : World} (hres : fn.results = #[.cell r 72, .tmp q]) (h : tmps.getD r undef = .pointer (some ⟨b, 0, none⟩)) (hq : tmps.getD q undef = u) (hb : W.heap[b]? = some (.cells #[c0, c1, c2, c3, c4] 72)) :
  (results fn tmps).run Tryz.prog W = .ok (.tuple #[.agg #[c0, c1, c2, c3, c4], u]) W := by
 have k0 := blk_cell hb 0
 have k1 := blk_cell hb 1
 have k2 := blk_cell hb 2
 have k3 := blk_cell hb 3
 have k4 := blk_cell hb 4
 simp only [List.getElem?_toArray, List.getElem?_cons_succ, List.getElem?_cons_zero] at k0 k1 k2 k3 k4
 rw [Array.getD_eq_getD_getElem?] at h hq
 simp [results, hres, go_sem, h, hq, k0, k1, k2, k3, k4]
theorem set5 {W : World} {b : Nat} {a0 a1 a2 a3 a4 : Value} {t : TypeId} (h : W.heap[b]? = some (.cells #[a0, a1, a2, a3, a4] t)) (x0 x1 x2 x3 x4 : Value) :
  (((((W.setCell ⟨b, 0, none⟩ x0).setCell ⟨b, 1, none⟩ x1).setCell ⟨b, 2, none⟩ x2).setCell ⟨b, 3, none⟩ x3).setCell ⟨b, 4, none⟩ x4).heap[b]? = some (.cells #[x0, x1, x2, x3, x4] t) := blk_set (blk_set (blk_set (blk_set (blk_set h 0 _) 1 _) 2 _) 3 _) 4 _
theorem below5 {W w : World} {B b : Nat} (h : Below B w W) (hb : B ≤ b) (x0 x1 x2 x3 x4 : Value) :
  Below B w (((((W.setCell ⟨b, 0, none⟩ x0).setCell ⟨b, 1, none⟩ x1).setCell ⟨b, 2, none⟩ x2).setCell ⟨b, 3, none⟩ x3).setCell ⟨b, 4, none⟩ x4) :=
 ((((h.setCell (p := ⟨b, 0, none⟩) hb _).setCell (p := ⟨b, 1, none⟩) hb _).setCell (p := ⟨b, 2, none⟩) hb _).setCell (p := ⟨b, 3, none⟩) hb _).setCell (p := ⟨b, 4, none⟩) hb _
theorem owns_ne {α : Type} {k : Nat} {e : TypeId} {enc : α → List Value} {W : World} {base T : Nat} {v : Value} {l : List α} (h : Owns k e enc W base v l) (hne : ∀ g, v.ownBlock = some g → g ≠ T) (j : Nat) (u : Value) : Owns k e enc (W.setCell ⟨T, j, none⟩ u) base v l :=
 ownsRow_setCell_other h (fun e' => hne _ e' rfl) u
theorem owns5 {W : World} {base b : Nat} {v : Value} {L : List BoxV} {a0 a1 a2 a3 a4 : Value} (h : Owns 11 116 encBx W base v L) (hT : W.heap[b]? = some (.cells #[a0, a1, a2, a3, a4] 72)) (x0 x1 x2 x3 x4 : Value) :
  Owns 11 116 encBx (((((W.setCell ⟨b, 0, none⟩ x0).setCell ⟨b, 1, none⟩ x1).setCell ⟨b, 2, none⟩ x2).setCell ⟨b, 3, none⟩ x3).setCell ⟨b, 4, none⟩ x4) base v L :=
 owns_at (owns_at (owns_at (owns_at (owns_at h hT (by decide) 0 _) (blk_set hT 0 _) (by decide) 1 _) (blk_set (blk_set hT 0 _) 1 _) (by decide) 2 _) (blk_set (blk_set (blk_set hT 0 _) 1 _) 2 _) (by decide) 3 _) (blk_set (blk_set (blk_set (blk_set hT 0 _) 1 _) 2 _) 3 _) (by decide) 4 _
def OneEnd (C : CloudV) (s : Value) (kd id : Int) (base : Nat) (w : World) (e : Ending) (w' : World) : Prop :=
 ∃ (code : Int) (D : List BoxV), e = .returned (.tuple #[.agg (cloudA { C with boxes := D } s), .int .u8 code]) ∧ Owns 11 116 encBx w' base s D ∧ Below base w w' ∧ (∀ T, T < w.heap.size → s.ownBlock ≠ some T → w'.heap[T]? = w.heap[T]?) ∧ OneP kd id code D
theorem one_out {C : CloudV} {s : Value} {kd id code : Int} {base b : Nat} {w W : World} {D : List BoxV} {a0 a1 a2 a3 a4 : Value} (hT : W.heap[b]? = some (.cells #[a0, a1, a2, a3, a4] 72)) (hb : w.heap.size ≤ b) (hbase : base ≤ w.heap.size) (ho : Owns 11 116 encBx W base s D) (hB : Below base w W) (hK : ∀ T, T < w.heap.size → s.ownBlock ≠ some T → W.heap[T]? = w.heap[T]?) (hP : OneP kd id code D) :
  OneEnd C s kd id base w (.returned (.tuple #[.agg #[s, .int .i64 C.floor, .int .i64 C.drain, .int .i64 C.now, .bool C.tight], .int .u8 code])) (((((W.setCell ⟨b, 0, none⟩ s).setCell ⟨b, 1, none⟩ (.int .i64 C.floor)).setCell ⟨b, 2, none⟩ (.int .i64 C.drain)).setCell ⟨b, 3, none⟩ (.int .i64 C.now)).setCell ⟨b, 4, none⟩ (.bool C.tight)) :=
 ⟨code, D, rfl, owns5 ho hT _ _ _ _ _, below5 hB (Nat.le_trans hbase hb) _ _ _ _ _, fun T hlt hne => (Below.block (below5 (Below.refl w.heap.size W |>.mono (Nat.le_refl _)) hb _ _ _ _ _) T hlt).trans (hK T hlt hne), hP⟩
theorem set_rowBx {W : World} {g o : Nat} (x : BoxV) : W.setCells g o (encBx x) = (((((((((((W.setCell ⟨g, o, none⟩ (.int .i64 x.id)).setCell ⟨g, o + 1, none⟩ (.int .i64 x.token)).setCell ⟨g, o + 1 + 1, none⟩ (.int .i64 x.version)).setCell ⟨g, o + 1 + 1 + 1, none⟩ (.int .i64 x.zone)).setCell ⟨g, o + 1 + 1 + 1 + 1, none⟩ (.bool x.tag)).setCell ⟨g, o + 1 + 1 + 1 + 1 + 1, none⟩ (.bool x.on)).setCell ⟨g, o + 1 + 1 + 1 + 1 + 1 + 1, none⟩ (.bool x.gone)).setCell ⟨g, o + 1 + 1 + 1 + 1 + 1 + 1 + 1, none⟩ (.bool x.well)).setCell ⟨g, o + 1 + 1 + 1 + 1 + 1 + 1 + 1 + 1, none⟩ (.int .u8 x.lb)).setCell ⟨g, o + 1 + 1 + 1 + 1 + 1 + 1 + 1 + 1 + 1, none⟩ (.int .i64 x.til)).setCell ⟨g, o + 1 + 1 + 1 + 1 + 1 + 1 + 1 + 1 + 1 + 1, none⟩ (.int .i64 x.fence)) := rfl
set_option maxRecDepth 100000 in
set_option maxHeartbeats 4000000 in
theorem rone08_2 (C : CloudV) (s : Value) (call id : Int) (base : Nat) (w : World) (hown : Owns 11 116 encBx w base s C.boxes) (hidx : ∀ (i : Nat) (x : BoxV), C.boxes[i]? = some x → x.id = (i : Int) + 1) (hl : C.boxes.length ≤ 60) (hbase : base ≤ w.heap.size) :
  Calls Tryz.prog 61 #[.agg (cloudA C s), .agg #[.int .u8 2, .int .i64 call, .int .i64 id, .int .i64 0, .int .i64 0, .int .i64 0]] w (OneEnd C s 2 id base w) := by
 obtain ⟨L, floor, drain, now, tight⟩ := C
 unfold cloudA
 dsimp only at hown hidx hl ⊢
 have hrow := hown.row encBx_len (by decide)
 obtain ⟨a, c, rfl, _, _, _, hop⟩ := hrow.open
 obtain ⟨W1, hW1⟩ : ∃ W1, W1 = ((w.alloc (.cells #[.slice a L.length c, .int .i64 floor, .int .i64 drain, .int .i64 now, .bool tight] 72)).alloc (.cells #[.int .u8 2, .int .i64 call, .int .i64 id, .int .i64 0, .int .i64 0, .int .i64 0] 80)).alloc (.cells #[.slice none 0 0, .int .i64 0, .int .i64 0, .int .i64 0, .bool false] 72) := ⟨_, rfl⟩
 have hb1 : Below w.heap.size w W1 := by rw [hW1]; exact (((Below.refl _ _).alloc (Nat.le_refl _) _).alloc (by simp) _).alloc (by simp; omega) _
 have N21 := hid (show W1.heap[w.heap.size]? = some (.cells #[.slice a L.length c, .int .i64 floor, .int .i64 drain, .int .i64 now, .bool tight] 72) by rw [hW1]; exact blk_alloc (blk_alloc (heap_new _ _) _) _)
 have N31 := hid (show W1.heap[w.heap.size + 1]? = some (.cells #[.int .u8 2, .int .i64 call, .int .i64 id, .int .i64 0, .int .i64 0, .int .i64 0] 80) by rw [hW1]; exact blk_alloc (heap_new2 _ _ _) _)
 have N41 := hid (show W1.heap[w.heap.size + 1 + 1]? = some (.cells #[.slice none 0 0, .int .i64 0, .int .i64 0, .int .i64 0, .bool false] 72) by rw [hW1]; simpa using heap_new2 (w.alloc _) _ _)
 have HOW0 := hid hown
 have OWN1 := hid (Owns.below hown hb1)
 have HBB1 := hid hb1
 have HP4 := hid (show w.heap.size ≤ w.heap.size + 1 + 1 by omega)
 have HBASE := hid hbase
 have HID := hid hidx
 have HL := hid hl
 obtain ⟨r, hr⟩ : ∃ r, findBx L id = r := ⟨_, rfl⟩
 have HR := hid hr
 have HF := hid (rfind08_any ⟨L, floor, drain, now, tight⟩ (.slice a L.length c) id r hr W1 (hrow.below hb1) (by dsimp only; omega))
 unfold cloudA at HF
 dsimp only at HF
 clear hown hrow hidx hl hb1 hr hop hbase
 go_enter Tryz.func61, Tryz.ntmps61
 go_upto_region 1 with (fail)
 rw [← hW1]
 clear hW1
 obtain ⟨q0, q1, q2, q3, q4, qf, ql⟩ := blk5 N21.out
 obtain ⟨a0, a1, a2, _, _, _, af, al⟩ := blk6 N31.out
 go_wp2_with fail
 clear q0 q1 q2 q3 q4 qf ql a0 a1 a2 af al 
 refine HF.out.mono ?_
 rintro e W2 ⟨rfl, hb⟩
 have N22 := hid (blk_below N21.out hb (blk_lt N21.out))
 have N32 := hid (blk_below N31.out hb (blk_lt N31.out))
 have N42 := hid (blk_below N41.out hb (blk_lt N41.out))
 have OWN2 := hid (Owns.below OWN1.out hb)
 have HBB2 := hid (HBB1.out.trans (hb.mono HBB1.out.size))
 clear hb HF
 rcases idxL_cases L (fun x => x.id == id && !x.gone) with ⟨h1, _⟩ | ⟨k, x, h1, hx, hp, _⟩
 ·obtain rfl : r = -1 := by rw [← HR.out]; exact h1
  have HFL := hid (show findBx L id < 0 by rw [HR.out]; decide)
  clear h1
  obtain ⟨q0, q1, q2, q3, q4, qf, ql⟩ := blk5 N22.out
  obtain ⟨a0, a1, a2, _, _, _, af, al⟩ := blk6 N32.out
  obtain ⟨e0, e1, e2, e3, e4, ef, el⟩ := blk5 N42.out
  go_wp2
  refine bodyPost_ret (res_cloud_tmp rfl rfl rfl (set5 N42.out _ _ _ _ _)) rfl ?_
  exact one_out (C := ⟨L, floor, drain, now, tight⟩) N42.out HP4.out HBASE.out OWN2.out (HBB2.out.mono HBASE.out) (fun T hT _ => HBB2.out.block T hT) ⟨.inr (.inl rfl), (fun h => absurd h (by decide)), (fun h => absurd h (by decide)), (fun h => absurd h (by decide)), HL.out⟩
 ·obtain rfl : r = (k : Int) := by rw [← HR.out]; exact h1
  have HFT := hid (show 0 ≤ findBx L id by rw [HR.out]; omega)
  rw [Bool.and_eq_true] at hp
  have hxi : x.id = id := by simpa using hp.1
  have HXI := hid hxi
  have HXG := hid (show x.gone = false by simpa using hp.2)
  have HX := hid hx
  have hkL := lt_get hx
  obtain ⟨g, c', he, hg1, hg2⟩ : ∃ g c', (.slice a L.length c : Value) = .slice (some ⟨g, 0, none⟩) L.length c' ∧ base ≤ g ∧ g < w.heap.size := by
   rcases HOW0.out.form with ⟨_, h0⟩ | ⟨g, c', h⟩
   ·rw [h0] at hkL
    exact absurd hkL (by simp)
   ·exact ⟨g, c', h⟩
  cases he
  have HGW := hid hg2
  have hg2 : g < W2.heap.size := Nat.lt_trans hg2 (blk_lt N22.out)
  have HKL := hid hkL
  have HG1 := hid hg1
  obtain ⟨_, _, he, _, _, _, hop⟩ := (OWN2.out.row encBx_len (by decide)).open
  cases he
  obtain ⟨_, _, he, hb2, hr2⟩ := hop (by omega)
  cases he
  have hR := rowBx hr2 hx
  simp only [Nat.zero_add] at hR
  obtain ⟨g0, g1, g2, g3, g4, g5, g6, g7, g8, g9, g10⟩ := hR
  have hkI : (k : Int) < (L.length : Int) := by omega
  clear h1 hp hxi hx hr2 hop hg1
  obtain ⟨q0, q1, q2, q3, q4, qf, ql⟩ := blk5 N22.out
  go_upto_region 7 with (fail)
  clear q0 q1 q2 q3 q4 qf ql g0 g1 g2 g3 g4 g5 g6 g7 g8 g9 g10
  obtain ⟨W3, hW3⟩ : ∃ W, W = W2.alloc (.cells #[.int .i64 x.id, .int .i64 x.token, .int .i64 x.version, .int .i64 x.zone, .bool x.tag, .bool x.on, .bool x.gone, .bool x.well, .int .u8 x.lb, .int .i64 x.til, .int .i64 x.fence] 116) := ⟨_, rfl⟩
  have hb : Below W2.heap.size W2 W3 := by rw [hW3]; exact (Below.refl _ _).alloc (Nat.le_refl _) _
  have N23 := hid (blk_below N22.out hb (blk_lt N22.out))
  have N33 := hid (blk_below N32.out hb (blk_lt N32.out))
  have N43 := hid (blk_below N42.out hb (blk_lt N42.out))
  have OWN3 := hid (Owns.below OWN2.out hb)
  have HBB3 := hid (HBB2.out.trans (hb.mono HBB2.out.size))
  have X3 := hid (show W3.heap[W2.heap.size]? = some (.cells #[.int .i64 x.id, .int .i64 x.token, .int .i64 x.version, .int .i64 x.zone, .bool x.tag, .bool x.on, .bool x.gone, .bool x.well, .int .u8 x.lb, .int .i64 x.til, .int .i64 x.fence] 116) by rw [hW3]; exact heap_new _ _)
  rw [← hW3]
  have HT7 := hid (show g < W2.heap.size ∧ w.heap.size ≤ W2.heap.size ∧ w.heap.size + 1 + 1 < W2.heap.size from ⟨hg2, HBB2.out.size, blk_lt N42.out⟩)
  obtain ⟨T7, hT⟩ : ∃ T, W2.heap.size = T := ⟨_, rfl⟩
  rw [hT] at X3 HT7 ⊢
  clear hb hW3 hT hg2 hb2
  obtain ⟨x0, x1, x2, x3, x4, x5, x6, x7, x8, x9, x10, xf, xl⟩ := blk11 X3.out
  obtain ⟨q0, q1, q2, q3, q4, qf, ql⟩ := blk5 N23.out
  obtain ⟨a0, a1, a2, _, _, _, af, al⟩ := blk6 N33.out
  obtain ⟨e0, e1, e2, e3, e4, ef, el⟩ := blk5 N43.out
  by_cases h5 : call < x.fence
  ·have d5 : decide (call < x.fence) = true := decide_eq_true h5
   clear h5
   go_wp2
   refine bodyPost_ret (res_cloud_tmp rfl rfl rfl (set5 N43.out _ _ _ _ _)) rfl ?_
   exact one_out (C := ⟨L, floor, drain, now, tight⟩) N43.out HP4.out HBASE.out OWN3.out (HBB3.out.mono HBASE.out) (fun T hT _ => HBB3.out.block T hT) ⟨.inr (.inr (.inr rfl)), (fun h => absurd h (by decide)), (fun h => absurd h (by decide)), (fun h => absurd h (by decide)), HL.out⟩
  ·have d5 : decide (call < x.fence) = false := decide_eq_false h5
   clear h5
   go_upto_region 10 with (fail)
   clear x0 x1 x2 x3 x4 x5 x6 x7 x8 x9 x10 xf xl q0 q1 q2 q3 q4 qf ql a0 a1 a2 af al e0 e1 e2 e3 e4 ef el d5
   refine wp_region_quiet_below (by kernel_rfl) (by kernel_rfl) ?_
   repeat (go_big_quiet_step (fail))
   refine wpQuiet_nil ?_
   intro _ hw'
   obtain ⟨⟨dq, osq⟩, hw''⟩ := hw'
   subst hw''
   have hb := below_regrown W3 dq osq
   obtain ⟨X, hX⟩ : ∃ X, X = Sort.grow (redrawn W3 dq) osq := ⟨_, rfl⟩
   rw [← hX] at hb ⊢
   clear hX
   have N24 := hid (blk_below N23.out hb (blk_lt N23.out))
   have N34 := hid (blk_below N33.out hb (blk_lt N33.out))
   have N44 := hid (blk_below N43.out hb (blk_lt N43.out))
   have OWN4 := hid (Owns.below OWN3.out hb)
   have HBB4 := hid (HBB3.out.trans (hb.mono HBB3.out.size))
   have X4 := hid (blk_below X3.out hb (blk_lt X3.out))
   clear hb
   obtain ⟨x0, x1, x2, x3, x4, x5, x6, x7, x8, x9, x10, xf, xl⟩ := blk11 X4.out
   obtain ⟨q0, q1, q2, q3, q4, qf, ql⟩ := blk5 N24.out
   obtain ⟨a0, a1, a2, _, _, _, af, al⟩ := blk6 N34.out
   obtain ⟨e0, e1, e2, e3, e4, ef, el⟩ := blk5 N44.out
   go_upto_region 31 with (fail)
   clear x0 x1 x2 x3 x4 x5 x6 x7 x8 x9 x10 xf xl q0 q1 q2 q3 q4 qf ql a0 a1 a2 af al e0 e1 e2 e3 e4 ef el
   obtain ⟨Y, hY⟩ : ∃ Y, Y = ((X.setCell ⟨T7, 5, none⟩ (.bool true)).setCell ⟨T7, 10, none⟩ (.int .i64 call)) := ⟨_, rfl⟩
   have Y7 := hid (show Y.heap[T7]? = some (.cells #[.int .i64 x.id, .int .i64 x.token, .int .i64 x.version, .int .i64 x.zone, .bool x.tag, .bool true, .bool x.gone, .bool x.well, .int .u8 x.lb, .int .i64 x.til, .int .i64 call] 116) by rw [hY]; exact (blk_set (blk_set X4.out 5 (.bool true)) 10 (.int .i64 call)))
   have HBY := hid (show Below w.heap.size w Y by rw [hY]; exact ((HBB4.out.setCell (p := ⟨T7, 5, none⟩) HT7.out.2.1 (.bool true)).setCell (p := ⟨T7, 10, none⟩) HT7.out.2.1 (.int .i64 call)))
   have OY := hid (show Owns 11 116 encBx Y base (.slice (some ⟨g, 0, none⟩) L.length c) L by rw [hY]; exact (owns_ne (owns_ne OWN4.out (T := T7) (fun h e => by cases e; exact Nat.ne_of_lt HT7.out.1) 5 (.bool true)) (T := T7) (fun h e => by cases e; exact Nat.ne_of_lt HT7.out.1) 10 (.int .i64 call)))
   have N2Y := hid (show Y.heap[w.heap.size]? = some (.cells #[.slice (some ⟨g, 0, none⟩) L.length c, .int .i64 floor, .int .i64 drain, .int .i64 now, .bool tight] 72) by rw [hY]; exact (blk_other (blk_other N24.out (p := ⟨T7, 5, none⟩) (by have := HT7.out.2.2; simp; omega) (.bool true)) (p := ⟨T7, 10, none⟩) (by have := HT7.out.2.2; simp; omega) (.int .i64 call)))
   have N4Y := hid (show Y.heap[w.heap.size + 1 + 1]? = some (.cells #[.slice none 0 0, .int .i64 0, .int .i64 0, .int .i64 0, .bool false] 72) by rw [hY]; exact (blk_other (blk_other N44.out (p := ⟨T7, 5, none⟩) (by have := HT7.out.2.2; simp; omega) (.bool true)) (p := ⟨T7, 10, none⟩) (by have := HT7.out.2.2; simp; omega) (.int .i64 call)))
   rw [← hY]
   clear hY
   obtain ⟨_, _, he, _, _, _, hop⟩ := (OY.out.row encBx_len (by decide)).open
   cases he
   obtain ⟨_, _, he, hb2, hr2⟩ := hop (by have := HKL.out; omega)
   cases he
   have hR := rowBx hr2 HX.out
   simp only [Nat.zero_add] at hR
   obtain ⟨g0, g1, g2, g3, g4, g5, g6, g7, g8, g9, g10⟩ := hR
   have gf := OY.out.cells.2.1
   have hkI : (k : Int) < (L.length : Int) := by have := HKL.out; omega
   obtain ⟨y0, y1, y2, y3, y4, y5, y6, y7, y8, y9, y10, yf, yl⟩ := blk11 Y7.out
   obtain ⟨q0, q1, q2, q3, q4, qf, ql⟩ := blk5 N2Y.out
   clear hop hr2
   go_upto_region 32 with (fail)
   clear g0 g1 g2 g3 g4 g5 g6 g7 g8 g9 g10 gf y0 y1 y2 y3 y4 y5 y6 y7 y8 y9 y10 yf yl q0 q1 q2 q3 q4 qf ql
   obtain ⟨Z, hZ⟩ : ∃ Z, Z = Y.setCells g (k * 11) (encBx ⟨x.id, x.token, x.version, x.zone, x.tag, true, x.gone, x.well, x.lb, x.til, call⟩) := ⟨_, rfl⟩
   have hset := set_rowBx (W := Y) (g := g) (o := k * 11) ⟨x.id, x.token, x.version, x.zone, x.tag, true, x.gone, x.well, x.lb, x.til, call⟩
   dsimp only at hset
   rw [hset] at hZ
   have hZ2 : Z = Y.setCells g (k * 11) (encBx ⟨x.id, x.token, x.version, x.zone, x.tag, true, x.gone, x.well, x.lb, x.til, call⟩) := hZ.trans hset.symm
   have hgr := setCells_grown g (k * 11) (encBx ⟨x.id, x.token, x.version, x.zone, x.tag, true, x.gone, x.well, x.lb, x.til, call⟩) Y
   rw [← hZ2] at hgr
   have OZ := hid (show Owns 11 116 encBx Z base (.slice (some ⟨g, 0, none⟩) L.length c) (L.take k ++ [⟨x.id, x.token, x.version, x.zone, x.tag, true, x.gone, x.well, x.lb, x.til, call⟩] ++ L.drop (k + 1)) by
    rw [hZ2]
    have := Owns.write encBx_len OY.out k [⟨x.id, x.token, x.version, x.zone, x.tag, true, x.gone, x.well, x.lb, x.til, call⟩] (by have := HKL.out; simp; omega)
    simpa using this)
   have HBZ := hid (show Below base w Z from (HBY.out.mono HBASE.out).grown hgr (Nat.le_trans HG1.out (Nat.le_of_lt hb2)) (fun r e => by cases e; exact HG1.out))
   have HKZ := hid (show ∀ T, T < w.heap.size → (Value.slice (some ⟨g, 0, none⟩) L.length c).ownBlock ≠ some T → Z.heap[T]? = w.heap[T]? from fun T hT hne => (hgr.block T (Nat.lt_of_lt_of_le hT HBY.out.size) (fun e => hne e.symm)).trans (HBY.out.block T hT))
   have N2Z := hid (blk_grown N2Y.out hgr (by have := HGW.out; simp; omega))
   have N4Z := hid (blk_grown N4Y.out hgr (by have := HGW.out; simp; omega))
   rw [← hZ]
   have HPT := find_put HID.out HX.out HXI.out ⟨x.id, x.token, x.version, x.zone, x.tag, true, x.gone, x.well, x.lb, x.til, call⟩ rfl
   have HPU := hid HPT
   clear hZ hZ2 hset hgr HPT hb2
   obtain ⟨q0, q1, q2, q3, q4, qf, ql⟩ := blk5 N2Z.out
   obtain ⟨e0, e1, e2, e3, e4, ef, el⟩ := blk5 N4Z.out
   go_wp2
   refine bodyPost_ret (res_cloud_tmp rfl rfl rfl (set5 N4Z.out _ _ _ _ _)) rfl ?_
   exact one_out (C := ⟨L, floor, drain, now, tight⟩) N4Z.out HP4.out HBASE.out OZ.out HBZ.out HKZ.out ⟨.inl rfl, (fun _ h => absurd h (by decide)), fun _ _ => HPU.out.1 HXG.out, (fun h => absurd h (by decide)), by have := HKL.out; have := HL.out; simp; omega⟩
set_option maxRecDepth 100000 in
set_option maxHeartbeats 4000000 in
theorem rone08_4 (C : CloudV) (s : Value) (call id : Int) (base : Nat) (w : World) (hown : Owns 11 116 encBx w base s C.boxes) (hidx : ∀ (i : Nat) (x : BoxV), C.boxes[i]? = some x → x.id = (i : Int) + 1) (hl : C.boxes.length ≤ 60) (hbase : base ≤ w.heap.size) :
  Calls Tryz.prog 61 #[.agg (cloudA C s), .agg #[.int .u8 4, .int .i64 call, .int .i64 id, .int .i64 0, .int .i64 0, .int .i64 0]] w (OneEnd C s 4 id base w) := by
 obtain ⟨L, floor, drain, now, tight⟩ := C
 unfold cloudA
 dsimp only at hown hidx hl ⊢
 have hrow := hown.row encBx_len (by decide)
 obtain ⟨a, c, rfl, _, _, _, hop⟩ := hrow.open
 obtain ⟨W1, hW1⟩ : ∃ W1, W1 = ((w.alloc (.cells #[.slice a L.length c, .int .i64 floor, .int .i64 drain, .int .i64 now, .bool tight] 72)).alloc (.cells #[.int .u8 4, .int .i64 call, .int .i64 id, .int .i64 0, .int .i64 0, .int .i64 0] 80)).alloc (.cells #[.slice none 0 0, .int .i64 0, .int .i64 0, .int .i64 0, .bool false] 72) := ⟨_, rfl⟩
 have hb1 : Below w.heap.size w W1 := by rw [hW1]; exact (((Below.refl _ _).alloc (Nat.le_refl _) _).alloc (by simp) _).alloc (by simp; omega) _
 have N21 := hid (show W1.heap[w.heap.size]? = some (.cells #[.slice a L.length c, .int .i64 floor, .int .i64 drain, .int .i64 now, .bool tight] 72) by rw [hW1]; exact blk_alloc (blk_alloc (heap_new _ _) _) _)
 have N31 := hid (show W1.heap[w.heap.size + 1]? = some (.cells #[.int .u8 4, .int .i64 call, .int .i64 id, .int .i64 0, .int .i64 0, .int .i64 0] 80) by rw [hW1]; exact blk_alloc (heap_new2 _ _ _) _)
 have N41 := hid (show W1.heap[w.heap.size + 1 + 1]? = some (.cells #[.slice none 0 0, .int .i64 0, .int .i64 0, .int .i64 0, .bool false] 72) by rw [hW1]; simpa using heap_new2 (w.alloc _) _ _)
 have HOW0 := hid hown
 have OWN1 := hid (Owns.below hown hb1)
 have HBB1 := hid hb1
 have HP4 := hid (show w.heap.size ≤ w.heap.size + 1 + 1 by omega)
 have HBASE := hid hbase
 have HID := hid hidx
 have HL := hid hl
 obtain ⟨r, hr⟩ : ∃ r, findBx L id = r := ⟨_, rfl⟩
 have HR := hid hr
 have HF := hid (rfind08_any ⟨L, floor, drain, now, tight⟩ (.slice a L.length c) id r hr W1 (hrow.below hb1) (by dsimp only; omega))
 unfold cloudA at HF
 dsimp only at HF
 clear hown hrow hidx hl hb1 hr hop hbase
 go_enter Tryz.func61, Tryz.ntmps61
 go_upto_region 1 with (fail)
 rw [← hW1]
 clear hW1
 obtain ⟨q0, q1, q2, q3, q4, qf, ql⟩ := blk5 N21.out
 obtain ⟨a0, a1, a2, _, _, _, af, al⟩ := blk6 N31.out
 go_wp2_with fail
 clear q0 q1 q2 q3 q4 qf ql a0 a1 a2 af al 
 refine HF.out.mono ?_
 rintro e W2 ⟨rfl, hb⟩
 have N22 := hid (blk_below N21.out hb (blk_lt N21.out))
 have N32 := hid (blk_below N31.out hb (blk_lt N31.out))
 have N42 := hid (blk_below N41.out hb (blk_lt N41.out))
 have OWN2 := hid (Owns.below OWN1.out hb)
 have HBB2 := hid (HBB1.out.trans (hb.mono HBB1.out.size))
 clear hb HF
 rcases idxL_cases L (fun x => x.id == id && !x.gone) with ⟨h1, _⟩ | ⟨k, x, h1, hx, hp, _⟩
 ·obtain rfl : r = -1 := by rw [← HR.out]; exact h1
  have HFL := hid (show findBx L id < 0 by rw [HR.out]; decide)
  clear h1
  obtain ⟨q0, q1, q2, q3, q4, qf, ql⟩ := blk5 N22.out
  obtain ⟨a0, a1, a2, _, _, _, af, al⟩ := blk6 N32.out
  obtain ⟨e0, e1, e2, e3, e4, ef, el⟩ := blk5 N42.out
  go_wp2
  refine bodyPost_ret (res_cloud_tmp rfl rfl rfl (set5 N42.out _ _ _ _ _)) rfl ?_
  exact one_out (C := ⟨L, floor, drain, now, tight⟩) N42.out HP4.out HBASE.out OWN2.out (HBB2.out.mono HBASE.out) (fun T hT _ => HBB2.out.block T hT) ⟨.inr (.inl rfl), (fun h => absurd h (by decide)), (fun h => absurd h (by decide)), (fun h => absurd h (by decide)), HL.out⟩
 ·obtain rfl : r = (k : Int) := by rw [← HR.out]; exact h1
  have HFT := hid (show 0 ≤ findBx L id by rw [HR.out]; omega)
  rw [Bool.and_eq_true] at hp
  have hxi : x.id = id := by simpa using hp.1
  have HXI := hid hxi
  have HXG := hid (show x.gone = false by simpa using hp.2)
  have HX := hid hx
  have hkL := lt_get hx
  obtain ⟨g, c', he, hg1, hg2⟩ : ∃ g c', (.slice a L.length c : Value) = .slice (some ⟨g, 0, none⟩) L.length c' ∧ base ≤ g ∧ g < w.heap.size := by
   rcases HOW0.out.form with ⟨_, h0⟩ | ⟨g, c', h⟩
   ·rw [h0] at hkL
    exact absurd hkL (by simp)
   ·exact ⟨g, c', h⟩
  cases he
  have HGW := hid hg2
  have hg2 : g < W2.heap.size := Nat.lt_trans hg2 (blk_lt N22.out)
  have HKL := hid hkL
  have HG1 := hid hg1
  obtain ⟨_, _, he, _, _, _, hop⟩ := (OWN2.out.row encBx_len (by decide)).open
  cases he
  obtain ⟨_, _, he, hb2, hr2⟩ := hop (by omega)
  cases he
  have hR := rowBx hr2 hx
  simp only [Nat.zero_add] at hR
  obtain ⟨g0, g1, g2, g3, g4, g5, g6, g7, g8, g9, g10⟩ := hR
  have hkI : (k : Int) < (L.length : Int) := by omega
  clear h1 hp hxi hx hr2 hop hg1
  obtain ⟨q0, q1, q2, q3, q4, qf, ql⟩ := blk5 N22.out
  go_upto_region 7 with (fail)
  clear q0 q1 q2 q3 q4 qf ql g0 g1 g2 g3 g4 g5 g6 g7 g8 g9 g10
  obtain ⟨W3, hW3⟩ : ∃ W, W = W2.alloc (.cells #[.int .i64 x.id, .int .i64 x.token, .int .i64 x.version, .int .i64 x.zone, .bool x.tag, .bool x.on, .bool x.gone, .bool x.well, .int .u8 x.lb, .int .i64 x.til, .int .i64 x.fence] 116) := ⟨_, rfl⟩
  have hb : Below W2.heap.size W2 W3 := by rw [hW3]; exact (Below.refl _ _).alloc (Nat.le_refl _) _
  have N23 := hid (blk_below N22.out hb (blk_lt N22.out))
  have N33 := hid (blk_below N32.out hb (blk_lt N32.out))
  have N43 := hid (blk_below N42.out hb (blk_lt N42.out))
  have OWN3 := hid (Owns.below OWN2.out hb)
  have HBB3 := hid (HBB2.out.trans (hb.mono HBB2.out.size))
  have X3 := hid (show W3.heap[W2.heap.size]? = some (.cells #[.int .i64 x.id, .int .i64 x.token, .int .i64 x.version, .int .i64 x.zone, .bool x.tag, .bool x.on, .bool x.gone, .bool x.well, .int .u8 x.lb, .int .i64 x.til, .int .i64 x.fence] 116) by rw [hW3]; exact heap_new _ _)
  rw [← hW3]
  have HT7 := hid (show g < W2.heap.size ∧ w.heap.size ≤ W2.heap.size ∧ w.heap.size + 1 + 1 < W2.heap.size from ⟨hg2, HBB2.out.size, blk_lt N42.out⟩)
  obtain ⟨T7, hT⟩ : ∃ T, W2.heap.size = T := ⟨_, rfl⟩
  rw [hT] at X3 HT7 ⊢
  clear hb hW3 hT hg2 hb2
  obtain ⟨x0, x1, x2, x3, x4, x5, x6, x7, x8, x9, x10, xf, xl⟩ := blk11 X3.out
  obtain ⟨q0, q1, q2, q3, q4, qf, ql⟩ := blk5 N23.out
  obtain ⟨a0, a1, a2, _, _, _, af, al⟩ := blk6 N33.out
  obtain ⟨e0, e1, e2, e3, e4, ef, el⟩ := blk5 N43.out
  by_cases h5 : call < x.fence
  ·have d5 : decide (call < x.fence) = true := decide_eq_true h5
   clear h5
   go_wp2
   refine bodyPost_ret (res_cloud_tmp rfl rfl rfl (set5 N43.out _ _ _ _ _)) rfl ?_
   exact one_out (C := ⟨L, floor, drain, now, tight⟩) N43.out HP4.out HBASE.out OWN3.out (HBB3.out.mono HBASE.out) (fun T hT _ => HBB3.out.block T hT) ⟨.inr (.inr (.inr rfl)), (fun h => absurd h (by decide)), (fun h => absurd h (by decide)), (fun h => absurd h (by decide)), HL.out⟩
  ·have d5 : decide (call < x.fence) = false := decide_eq_false h5
   clear h5
   go_upto_region 10 with (fail)
   clear x0 x1 x2 x3 x4 x5 x6 x7 x8 x9 x10 xf xl q0 q1 q2 q3 q4 qf ql a0 a1 a2 af al e0 e1 e2 e3 e4 ef el d5
   refine wp_region_quiet_below (by kernel_rfl) (by kernel_rfl) ?_
   repeat (go_big_quiet_step (fail))
   refine wpQuiet_nil ?_
   intro _ hw'
   obtain ⟨⟨dq, osq⟩, hw''⟩ := hw'
   subst hw''
   have hb := below_regrown W3 dq osq
   obtain ⟨X, hX⟩ : ∃ X, X = Sort.grow (redrawn W3 dq) osq := ⟨_, rfl⟩
   rw [← hX] at hb ⊢
   clear hX
   have N24 := hid (blk_below N23.out hb (blk_lt N23.out))
   have N34 := hid (blk_below N33.out hb (blk_lt N33.out))
   have N44 := hid (blk_below N43.out hb (blk_lt N43.out))
   have OWN4 := hid (Owns.below OWN3.out hb)
   have HBB4 := hid (HBB3.out.trans (hb.mono HBB3.out.size))
   have X4 := hid (blk_below X3.out hb (blk_lt X3.out))
   clear hb
   obtain ⟨x0, x1, x2, x3, x4, x5, x6, x7, x8, x9, x10, xf, xl⟩ := blk11 X4.out
   obtain ⟨q0, q1, q2, q3, q4, qf, ql⟩ := blk5 N24.out
   obtain ⟨a0, a1, a2, _, _, _, af, al⟩ := blk6 N34.out
   obtain ⟨e0, e1, e2, e3, e4, ef, el⟩ := blk5 N44.out
   obtain ⟨on, hon⟩ : ∃ b, x.on = b := ⟨_, rfl⟩
   have HON := hid hon
   rw [hon] at x5
   clear hon
   cases on with
   | false =>
    go_wp2
    refine bodyPost_ret (res_cloud_tmp rfl rfl rfl (set5 N44.out _ _ _ _ _)) rfl ?_
    exact one_out (C := ⟨L, floor, drain, now, tight⟩) N44.out HP4.out HBASE.out OWN4.out (HBB4.out.mono HBASE.out) (fun T hT _ => HBB4.out.block T hT) ⟨.inr (.inl rfl), (fun h => absurd h (by decide)), (fun h => absurd h (by decide)), (fun h => absurd h (by decide)), HL.out⟩
   | true =>
    rw [← HON.out] at x5
    have hon := HON.out
    go_upto_region 31 with (fail)
    clear x0 x1 x2 x3 x4 x5 x6 x7 x8 x9 x10 xf xl q0 q1 q2 q3 q4 qf ql a0 a1 a2 af al e0 e1 e2 e3 e4 ef el
    clear hon
    obtain ⟨Y, hY⟩ : ∃ Y, Y = ((X.setCell ⟨T7, 8, none⟩ (.int .u8 1)).setCell ⟨T7, 10, none⟩ (.int .i64 call)) := ⟨_, rfl⟩
    have Y7 := hid (show Y.heap[T7]? = some (.cells #[.int .i64 x.id, .int .i64 x.token, .int .i64 x.version, .int .i64 x.zone, .bool x.tag, .bool x.on, .bool x.gone, .bool x.well, .int .u8 1, .int .i64 x.til, .int .i64 call] 116) by rw [hY]; exact (blk_set (blk_set X4.out 8 (.int .u8 1)) 10 (.int .i64 call)))
    have HBY := hid (show Below w.heap.size w Y by rw [hY]; exact ((HBB4.out.setCell (p := ⟨T7, 8, none⟩) HT7.out.2.1 (.int .u8 1)).setCell (p := ⟨T7, 10, none⟩) HT7.out.2.1 (.int .i64 call)))
    have OY := hid (show Owns 11 116 encBx Y base (.slice (some ⟨g, 0, none⟩) L.length c) L by rw [hY]; exact (owns_ne (owns_ne OWN4.out (T := T7) (fun h e => by cases e; exact Nat.ne_of_lt HT7.out.1) 8 (.int .u8 1)) (T := T7) (fun h e => by cases e; exact Nat.ne_of_lt HT7.out.1) 10 (.int .i64 call)))
    have N2Y := hid (show Y.heap[w.heap.size]? = some (.cells #[.slice (some ⟨g, 0, none⟩) L.length c, .int .i64 floor, .int .i64 drain, .int .i64 now, .bool tight] 72) by rw [hY]; exact (blk_other (blk_other N24.out (p := ⟨T7, 8, none⟩) (by have := HT7.out.2.2; simp; omega) (.int .u8 1)) (p := ⟨T7, 10, none⟩) (by have := HT7.out.2.2; simp; omega) (.int .i64 call)))
    have N4Y := hid (show Y.heap[w.heap.size + 1 + 1]? = some (.cells #[.slice none 0 0, .int .i64 0, .int .i64 0, .int .i64 0, .bool false] 72) by rw [hY]; exact (blk_other (blk_other N44.out (p := ⟨T7, 8, none⟩) (by have := HT7.out.2.2; simp; omega) (.int .u8 1)) (p := ⟨T7, 10, none⟩) (by have := HT7.out.2.2; simp; omega) (.int .i64 call)))
    rw [← hY]
    clear hY
    obtain ⟨_, _, he, _, _, _, hop⟩ := (OY.out.row encBx_len (by decide)).open
    cases he
    obtain ⟨_, _, he, hb2, hr2⟩ := hop (by have := HKL.out; omega)
    cases he
    have hR := rowBx hr2 HX.out
    simp only [Nat.zero_add] at hR
    obtain ⟨g0, g1, g2, g3, g4, g5, g6, g7, g8, g9, g10⟩ := hR
    have gf := OY.out.cells.2.1
    have hkI : (k : Int) < (L.length : Int) := by have := HKL.out; omega
    obtain ⟨y0, y1, y2, y3, y4, y5, y6, y7, y8, y9, y10, yf, yl⟩ := blk11 Y7.out
    obtain ⟨q0, q1, q2, q3, q4, qf, ql⟩ := blk5 N2Y.out
    clear hop hr2
    go_upto_region 32 with (fail)
    clear g0 g1 g2 g3 g4 g5 g6 g7 g8 g9 g10 gf y0 y1 y2 y3 y4 y5 y6 y7 y8 y9 y10 yf yl q0 q1 q2 q3 q4 qf ql
    obtain ⟨Z, hZ⟩ : ∃ Z, Z = Y.setCells g (k * 11) (encBx ⟨x.id, x.token, x.version, x.zone, x.tag, x.on, x.gone, x.well, 1, x.til, call⟩) := ⟨_, rfl⟩
    have hset := set_rowBx (W := Y) (g := g) (o := k * 11) ⟨x.id, x.token, x.version, x.zone, x.tag, x.on, x.gone, x.well, 1, x.til, call⟩
    dsimp only at hset
    rw [hset] at hZ
    have hZ2 : Z = Y.setCells g (k * 11) (encBx ⟨x.id, x.token, x.version, x.zone, x.tag, x.on, x.gone, x.well, 1, x.til, call⟩) := hZ.trans hset.symm
    have hgr := setCells_grown g (k * 11) (encBx ⟨x.id, x.token, x.version, x.zone, x.tag, x.on, x.gone, x.well, 1, x.til, call⟩) Y
    rw [← hZ2] at hgr
    have OZ := hid (show Owns 11 116 encBx Z base (.slice (some ⟨g, 0, none⟩) L.length c) (L.take k ++ [⟨x.id, x.token, x.version, x.zone, x.tag, x.on, x.gone, x.well, 1, x.til, call⟩] ++ L.drop (k + 1)) by
     rw [hZ2]
     have := Owns.write encBx_len OY.out k [⟨x.id, x.token, x.version, x.zone, x.tag, x.on, x.gone, x.well, 1, x.til, call⟩] (by have := HKL.out; simp; omega)
     simpa using this)
    have HBZ := hid (show Below base w Z from (HBY.out.mono HBASE.out).grown hgr (Nat.le_trans HG1.out (Nat.le_of_lt hb2)) (fun r e => by cases e; exact HG1.out))
    have HKZ := hid (show ∀ T, T < w.heap.size → (Value.slice (some ⟨g, 0, none⟩) L.length c).ownBlock ≠ some T → Z.heap[T]? = w.heap[T]? from fun T hT hne => (hgr.block T (Nat.lt_of_lt_of_le hT HBY.out.size) (fun e => hne e.symm)).trans (HBY.out.block T hT))
    have N2Z := hid (blk_grown N2Y.out hgr (by have := HGW.out; simp; omega))
    have N4Z := hid (blk_grown N4Y.out hgr (by have := HGW.out; simp; omega))
    rw [← hZ]
    have HPT := find_put HID.out HX.out HXI.out ⟨x.id, x.token, x.version, x.zone, x.tag, x.on, x.gone, x.well, 1, x.til, call⟩ rfl
    have HPU := hid HPT
    clear hZ hZ2 hset hgr HPT hb2
    obtain ⟨q0, q1, q2, q3, q4, qf, ql⟩ := blk5 N2Z.out
    obtain ⟨e0, e1, e2, e3, e4, ef, el⟩ := blk5 N4Z.out
    go_wp2
    refine bodyPost_ret (res_cloud_tmp rfl rfl rfl (set5 N4Z.out _ _ _ _ _)) rfl ?_
    exact one_out (C := ⟨L, floor, drain, now, tight⟩) N4Z.out HP4.out HBASE.out OZ.out HBZ.out HKZ.out ⟨.inl rfl, (fun _ h => absurd h (by decide)), fun _ _ => HPU.out.1 HXG.out, (fun h => absurd h (by decide)), by have := HKL.out; have := HL.out; simp; omega⟩
set_option maxRecDepth 100000 in
set_option maxHeartbeats 4000000 in
theorem rone08_5 (C : CloudV) (s : Value) (call id : Int) (base : Nat) (w : World) (hown : Owns 11 116 encBx w base s C.boxes) (hidx : ∀ (i : Nat) (x : BoxV), C.boxes[i]? = some x → x.id = (i : Int) + 1) (hl : C.boxes.length ≤ 60) (hbase : base ≤ w.heap.size) :
  Calls Tryz.prog 61 #[.agg (cloudA C s), .agg #[.int .u8 5, .int .i64 call, .int .i64 id, .int .i64 0, .int .i64 0, .int .i64 0]] w (OneEnd C s 5 id base w) := by
 obtain ⟨L, floor, drain, now, tight⟩ := C
 unfold cloudA
 dsimp only at hown hidx hl ⊢
 have hrow := hown.row encBx_len (by decide)
 obtain ⟨a, c, rfl, _, _, _, hop⟩ := hrow.open
 obtain ⟨W1, hW1⟩ : ∃ W1, W1 = ((w.alloc (.cells #[.slice a L.length c, .int .i64 floor, .int .i64 drain, .int .i64 now, .bool tight] 72)).alloc (.cells #[.int .u8 5, .int .i64 call, .int .i64 id, .int .i64 0, .int .i64 0, .int .i64 0] 80)).alloc (.cells #[.slice none 0 0, .int .i64 0, .int .i64 0, .int .i64 0, .bool false] 72) := ⟨_, rfl⟩
 have hb1 : Below w.heap.size w W1 := by rw [hW1]; exact (((Below.refl _ _).alloc (Nat.le_refl _) _).alloc (by simp) _).alloc (by simp; omega) _
 have N21 := hid (show W1.heap[w.heap.size]? = some (.cells #[.slice a L.length c, .int .i64 floor, .int .i64 drain, .int .i64 now, .bool tight] 72) by rw [hW1]; exact blk_alloc (blk_alloc (heap_new _ _) _) _)
 have N31 := hid (show W1.heap[w.heap.size + 1]? = some (.cells #[.int .u8 5, .int .i64 call, .int .i64 id, .int .i64 0, .int .i64 0, .int .i64 0] 80) by rw [hW1]; exact blk_alloc (heap_new2 _ _ _) _)
 have N41 := hid (show W1.heap[w.heap.size + 1 + 1]? = some (.cells #[.slice none 0 0, .int .i64 0, .int .i64 0, .int .i64 0, .bool false] 72) by rw [hW1]; simpa using heap_new2 (w.alloc _) _ _)
 have HOW0 := hid hown
 have OWN1 := hid (Owns.below hown hb1)
 have HBB1 := hid hb1
 have HP4 := hid (show w.heap.size ≤ w.heap.size + 1 + 1 by omega)
 have HBASE := hid hbase
 have HID := hid hidx
 have HL := hid hl
 obtain ⟨r, hr⟩ : ∃ r, findBx L id = r := ⟨_, rfl⟩
 have HR := hid hr
 have HF := hid (rfind08_any ⟨L, floor, drain, now, tight⟩ (.slice a L.length c) id r hr W1 (hrow.below hb1) (by dsimp only; omega))
 unfold cloudA at HF
 dsimp only at HF
 clear hown hrow hidx hl hb1 hr hop hbase
 go_enter Tryz.func61, Tryz.ntmps61
 go_upto_region 1 with (fail)
 rw [← hW1]
 clear hW1
 obtain ⟨q0, q1, q2, q3, q4, qf, ql⟩ := blk5 N21.out
 obtain ⟨a0, a1, a2, _, _, _, af, al⟩ := blk6 N31.out
 go_wp2_with fail
 clear q0 q1 q2 q3 q4 qf ql a0 a1 a2 af al 
 refine HF.out.mono ?_
 rintro e W2 ⟨rfl, hb⟩
 have N22 := hid (blk_below N21.out hb (blk_lt N21.out))
 have N32 := hid (blk_below N31.out hb (blk_lt N31.out))
 have N42 := hid (blk_below N41.out hb (blk_lt N41.out))
 have OWN2 := hid (Owns.below OWN1.out hb)
 have HBB2 := hid (HBB1.out.trans (hb.mono HBB1.out.size))
 clear hb HF
 rcases idxL_cases L (fun x => x.id == id && !x.gone) with ⟨h1, _⟩ | ⟨k, x, h1, hx, hp, _⟩
 ·obtain rfl : r = -1 := by rw [← HR.out]; exact h1
  have HFL := hid (show findBx L id < 0 by rw [HR.out]; decide)
  clear h1
  obtain ⟨q0, q1, q2, q3, q4, qf, ql⟩ := blk5 N22.out
  obtain ⟨a0, a1, a2, _, _, _, af, al⟩ := blk6 N32.out
  obtain ⟨e0, e1, e2, e3, e4, ef, el⟩ := blk5 N42.out
  go_wp2
  refine bodyPost_ret (res_cloud_tmp rfl rfl rfl (set5 N42.out _ _ _ _ _)) rfl ?_
  exact one_out (C := ⟨L, floor, drain, now, tight⟩) N42.out HP4.out HBASE.out OWN2.out (HBB2.out.mono HBASE.out) (fun T hT _ => HBB2.out.block T hT) ⟨.inr (.inl rfl), (fun h => absurd h (by decide)), (fun h => absurd h (by decide)), (fun h => absurd h (by decide)), HL.out⟩
 ·obtain rfl : r = (k : Int) := by rw [← HR.out]; exact h1
  have HFT := hid (show 0 ≤ findBx L id by rw [HR.out]; omega)
  rw [Bool.and_eq_true] at hp
  have hxi : x.id = id := by simpa using hp.1
  have HXI := hid hxi
  have HXG := hid (show x.gone = false by simpa using hp.2)
  have HX := hid hx
  have hkL := lt_get hx
  obtain ⟨g, c', he, hg1, hg2⟩ : ∃ g c', (.slice a L.length c : Value) = .slice (some ⟨g, 0, none⟩) L.length c' ∧ base ≤ g ∧ g < w.heap.size := by
   rcases HOW0.out.form with ⟨_, h0⟩ | ⟨g, c', h⟩
   ·rw [h0] at hkL
    exact absurd hkL (by simp)
   ·exact ⟨g, c', h⟩
  cases he
  have HGW := hid hg2
  have hg2 : g < W2.heap.size := Nat.lt_trans hg2 (blk_lt N22.out)
  have HKL := hid hkL
  have HG1 := hid hg1
  obtain ⟨_, _, he, _, _, _, hop⟩ := (OWN2.out.row encBx_len (by decide)).open
  cases he
  obtain ⟨_, _, he, hb2, hr2⟩ := hop (by omega)
  cases he
  have hR := rowBx hr2 hx
  simp only [Nat.zero_add] at hR
  obtain ⟨g0, g1, g2, g3, g4, g5, g6, g7, g8, g9, g10⟩ := hR
  have hkI : (k : Int) < (L.length : Int) := by omega
  clear h1 hp hxi hx hr2 hop hg1
  obtain ⟨q0, q1, q2, q3, q4, qf, ql⟩ := blk5 N22.out
  go_upto_region 7 with (fail)
  clear q0 q1 q2 q3 q4 qf ql g0 g1 g2 g3 g4 g5 g6 g7 g8 g9 g10
  obtain ⟨W3, hW3⟩ : ∃ W, W = W2.alloc (.cells #[.int .i64 x.id, .int .i64 x.token, .int .i64 x.version, .int .i64 x.zone, .bool x.tag, .bool x.on, .bool x.gone, .bool x.well, .int .u8 x.lb, .int .i64 x.til, .int .i64 x.fence] 116) := ⟨_, rfl⟩
  have hb : Below W2.heap.size W2 W3 := by rw [hW3]; exact (Below.refl _ _).alloc (Nat.le_refl _) _
  have N23 := hid (blk_below N22.out hb (blk_lt N22.out))
  have N33 := hid (blk_below N32.out hb (blk_lt N32.out))
  have N43 := hid (blk_below N42.out hb (blk_lt N42.out))
  have OWN3 := hid (Owns.below OWN2.out hb)
  have HBB3 := hid (HBB2.out.trans (hb.mono HBB2.out.size))
  have X3 := hid (show W3.heap[W2.heap.size]? = some (.cells #[.int .i64 x.id, .int .i64 x.token, .int .i64 x.version, .int .i64 x.zone, .bool x.tag, .bool x.on, .bool x.gone, .bool x.well, .int .u8 x.lb, .int .i64 x.til, .int .i64 x.fence] 116) by rw [hW3]; exact heap_new _ _)
  rw [← hW3]
  have HT7 := hid (show g < W2.heap.size ∧ w.heap.size ≤ W2.heap.size ∧ w.heap.size + 1 + 1 < W2.heap.size from ⟨hg2, HBB2.out.size, blk_lt N42.out⟩)
  obtain ⟨T7, hT⟩ : ∃ T, W2.heap.size = T := ⟨_, rfl⟩
  rw [hT] at X3 HT7 ⊢
  clear hb hW3 hT hg2 hb2
  obtain ⟨x0, x1, x2, x3, x4, x5, x6, x7, x8, x9, x10, xf, xl⟩ := blk11 X3.out
  obtain ⟨q0, q1, q2, q3, q4, qf, ql⟩ := blk5 N23.out
  obtain ⟨a0, a1, a2, _, _, _, af, al⟩ := blk6 N33.out
  obtain ⟨e0, e1, e2, e3, e4, ef, el⟩ := blk5 N43.out
  by_cases h5 : call < x.fence
  ·have d5 : decide (call < x.fence) = true := decide_eq_true h5
   clear h5
   go_wp2
   refine bodyPost_ret (res_cloud_tmp rfl rfl rfl (set5 N43.out _ _ _ _ _)) rfl ?_
   exact one_out (C := ⟨L, floor, drain, now, tight⟩) N43.out HP4.out HBASE.out OWN3.out (HBB3.out.mono HBASE.out) (fun T hT _ => HBB3.out.block T hT) ⟨.inr (.inr (.inr rfl)), (fun h => absurd h (by decide)), (fun h => absurd h (by decide)), (fun h => absurd h (by decide)), HL.out⟩
  ·have d5 : decide (call < x.fence) = false := decide_eq_false h5
   clear h5
   go_upto_region 10 with (fail)
   obtain ⟨cq, hcq⟩ : ∃ q, cntB x = q := ⟨_, rfl⟩
   have HCQ := hid hcq
   clear hcq
   cases cq with
   | false =>
    have kx0 := fun d os => cell_regrown x0 d os
    have kx1 := fun d os => cell_regrown x1 d os
    have kx2 := fun d os => cell_regrown x2 d os
    have kx3 := fun d os => cell_regrown x3 d os
    have kx4 := fun d os => cell_regrown x4 d os
    have kx5 := fun d os => cell_regrown x5 d os
    have kx6 := fun d os => cell_regrown x6 d os
    have kx7 := fun d os => cell_regrown x7 d os
    have kx8 := fun d os => cell_regrown x8 d os
    have kx9 := fun d os => cell_regrown x9 d os
    have kx10 := fun d os => cell_regrown x10 d os
    have HCC := hid (fun d os => Calls.regrown_of (d := d) (os := os) (w := W3) (rcounted_any x false HCQ.out _))
    clear x0 x1 x2 x3 x4 x5 x6 x7 x8 x9 x10 xf xl q0 q1 q2 q3 q4 qf ql a0 a1 a2 af al e0 e1 e2 e3 e4 ef el d5
    refine wp_region_quiet_below (by kernel_rfl) (by kernel_rfl) ?_
    repeat (go_big_quiet_step (exact HCC.out _ _))
    refine wpQuiet_nil ?_
    intro _ hw'
    obtain ⟨⟨dq, osq⟩, hw''⟩ := hw'
    subst hw''
    have hb := below_regrown W3 dq osq
    obtain ⟨X, hX⟩ : ∃ X, X = Sort.grow (redrawn W3 dq) osq := ⟨_, rfl⟩
    rw [← hX] at hb ⊢
    clear hX kx0 kx1 kx2 kx3 kx4 kx5 kx6 kx7 kx8 kx9 kx10 HCC
    have N24 := hid (blk_below N23.out hb (blk_lt N23.out))
    have N34 := hid (blk_below N33.out hb (blk_lt N33.out))
    have N44 := hid (blk_below N43.out hb (blk_lt N43.out))
    have OWN4 := hid (Owns.below OWN3.out hb)
    have HBB4 := hid (HBB3.out.trans (hb.mono HBB3.out.size))
    have X4 := hid (blk_below X3.out hb (blk_lt X3.out))
    clear hb
    obtain ⟨x0, x1, x2, x3, x4, x5, x6, x7, x8, x9, x10, xf, xl⟩ := blk11 X4.out
    obtain ⟨q0, q1, q2, q3, q4, qf, ql⟩ := blk5 N24.out
    obtain ⟨a0, a1, a2, _, _, _, af, al⟩ := blk6 N34.out
    obtain ⟨e0, e1, e2, e3, e4, ef, el⟩ := blk5 N44.out
    obtain ⟨bl, hbl⟩ : ∃ b, (x.lb == 1) = b := ⟨_, rfl⟩
    cases bl with
    | true =>
     go_upto_region 31 with (fail)
     clear x0 x1 x2 x3 x4 x5 x6 x7 x8 x9 x10 xf xl q0 q1 q2 q3 q4 qf ql a0 a1 a2 af al e0 e1 e2 e3 e4 ef el
     clear hbl
     obtain ⟨Y, hY⟩ : ∃ Y, Y = (((X.setCell ⟨T7, 8, none⟩ (.int .u8 2)).setCell ⟨T7, 9, none⟩ (.int .i64 (wrap64 (now + drain)))).setCell ⟨T7, 10, none⟩ (.int .i64 call)) := ⟨_, rfl⟩
     have Y7 := hid (show Y.heap[T7]? = some (.cells #[.int .i64 x.id, .int .i64 x.token, .int .i64 x.version, .int .i64 x.zone, .bool x.tag, .bool x.on, .bool x.gone, .bool x.well, .int .u8 2, .int .i64 (wrap64 (now + drain)), .int .i64 call] 116) by rw [hY]; exact (blk_set (blk_set (blk_set X4.out 8 (.int .u8 2)) 9 (.int .i64 (wrap64 (now + drain)))) 10 (.int .i64 call)))
     have HBY := hid (show Below w.heap.size w Y by rw [hY]; exact (((HBB4.out.setCell (p := ⟨T7, 8, none⟩) HT7.out.2.1 (.int .u8 2)).setCell (p := ⟨T7, 9, none⟩) HT7.out.2.1 (.int .i64 (wrap64 (now + drain)))).setCell (p := ⟨T7, 10, none⟩) HT7.out.2.1 (.int .i64 call)))
     have OY := hid (show Owns 11 116 encBx Y base (.slice (some ⟨g, 0, none⟩) L.length c) L by rw [hY]; exact (owns_ne (owns_ne (owns_ne OWN4.out (T := T7) (fun h e => by cases e; exact Nat.ne_of_lt HT7.out.1) 8 (.int .u8 2)) (T := T7) (fun h e => by cases e; exact Nat.ne_of_lt HT7.out.1) 9 (.int .i64 (wrap64 (now + drain)))) (T := T7) (fun h e => by cases e; exact Nat.ne_of_lt HT7.out.1) 10 (.int .i64 call)))
     have N2Y := hid (show Y.heap[w.heap.size]? = some (.cells #[.slice (some ⟨g, 0, none⟩) L.length c, .int .i64 floor, .int .i64 drain, .int .i64 now, .bool tight] 72) by rw [hY]; exact (blk_other (blk_other (blk_other N24.out (p := ⟨T7, 8, none⟩) (by have := HT7.out.2.2; simp; omega) (.int .u8 2)) (p := ⟨T7, 9, none⟩) (by have := HT7.out.2.2; simp; omega) (.int .i64 (wrap64 (now + drain)))) (p := ⟨T7, 10, none⟩) (by have := HT7.out.2.2; simp; omega) (.int .i64 call)))
     have N4Y := hid (show Y.heap[w.heap.size + 1 + 1]? = some (.cells #[.slice none 0 0, .int .i64 0, .int .i64 0, .int .i64 0, .bool false] 72) by rw [hY]; exact (blk_other (blk_other (blk_other N44.out (p := ⟨T7, 8, none⟩) (by have := HT7.out.2.2; simp; omega) (.int .u8 2)) (p := ⟨T7, 9, none⟩) (by have := HT7.out.2.2; simp; omega) (.int .i64 (wrap64 (now + drain)))) (p := ⟨T7, 10, none⟩) (by have := HT7.out.2.2; simp; omega) (.int .i64 call)))
     rw [← hY]
     clear hY
     obtain ⟨_, _, he, _, _, _, hop⟩ := (OY.out.row encBx_len (by decide)).open
     cases he
     obtain ⟨_, _, he, hb2, hr2⟩ := hop (by have := HKL.out; omega)
     cases he
     have hR := rowBx hr2 HX.out
     simp only [Nat.zero_add] at hR
     obtain ⟨g0, g1, g2, g3, g4, g5, g6, g7, g8, g9, g10⟩ := hR
     have gf := OY.out.cells.2.1
     have hkI : (k : Int) < (L.length : Int) := by have := HKL.out; omega
     obtain ⟨y0, y1, y2, y3, y4, y5, y6, y7, y8, y9, y10, yf, yl⟩ := blk11 Y7.out
     obtain ⟨q0, q1, q2, q3, q4, qf, ql⟩ := blk5 N2Y.out
     clear hop hr2
     go_upto_region 32 with (fail)
     clear g0 g1 g2 g3 g4 g5 g6 g7 g8 g9 g10 gf y0 y1 y2 y3 y4 y5 y6 y7 y8 y9 y10 yf yl q0 q1 q2 q3 q4 qf ql
     obtain ⟨Z, hZ⟩ : ∃ Z, Z = Y.setCells g (k * 11) (encBx ⟨x.id, x.token, x.version, x.zone, x.tag, x.on, x.gone, x.well, 2, (wrap64 (now + drain)), call⟩) := ⟨_, rfl⟩
     have hset := set_rowBx (W := Y) (g := g) (o := k * 11) ⟨x.id, x.token, x.version, x.zone, x.tag, x.on, x.gone, x.well, 2, (wrap64 (now + drain)), call⟩
     dsimp only at hset
     rw [hset] at hZ
     have hZ2 : Z = Y.setCells g (k * 11) (encBx ⟨x.id, x.token, x.version, x.zone, x.tag, x.on, x.gone, x.well, 2, (wrap64 (now + drain)), call⟩) := hZ.trans hset.symm
     have hgr := setCells_grown g (k * 11) (encBx ⟨x.id, x.token, x.version, x.zone, x.tag, x.on, x.gone, x.well, 2, (wrap64 (now + drain)), call⟩) Y
     rw [← hZ2] at hgr
     have OZ := hid (show Owns 11 116 encBx Z base (.slice (some ⟨g, 0, none⟩) L.length c) (L.take k ++ [⟨x.id, x.token, x.version, x.zone, x.tag, x.on, x.gone, x.well, 2, (wrap64 (now + drain)), call⟩] ++ L.drop (k + 1)) by
      rw [hZ2]
      have := Owns.write encBx_len OY.out k [⟨x.id, x.token, x.version, x.zone, x.tag, x.on, x.gone, x.well, 2, (wrap64 (now + drain)), call⟩] (by have := HKL.out; simp; omega)
      simpa using this)
     have HBZ := hid (show Below base w Z from (HBY.out.mono HBASE.out).grown hgr (Nat.le_trans HG1.out (Nat.le_of_lt hb2)) (fun r e => by cases e; exact HG1.out))
     have HKZ := hid (show ∀ T, T < w.heap.size → (Value.slice (some ⟨g, 0, none⟩) L.length c).ownBlock ≠ some T → Z.heap[T]? = w.heap[T]? from fun T hT hne => (hgr.block T (Nat.lt_of_lt_of_le hT HBY.out.size) (fun e => hne e.symm)).trans (HBY.out.block T hT))
     have N2Z := hid (blk_grown N2Y.out hgr (by have := HGW.out; simp; omega))
     have N4Z := hid (blk_grown N4Y.out hgr (by have := HGW.out; simp; omega))
     rw [← hZ]
     have HPT := find_put HID.out HX.out HXI.out ⟨x.id, x.token, x.version, x.zone, x.tag, x.on, x.gone, x.well, 2, (wrap64 (now + drain)), call⟩ rfl
     have HPU := hid HPT
     clear hZ hZ2 hset hgr HPT hb2
     obtain ⟨q0, q1, q2, q3, q4, qf, ql⟩ := blk5 N2Z.out
     obtain ⟨e0, e1, e2, e3, e4, ef, el⟩ := blk5 N4Z.out
     go_wp2
     refine bodyPost_ret (res_cloud_tmp rfl rfl rfl (set5 N4Z.out _ _ _ _ _)) rfl ?_
     exact one_out (C := ⟨L, floor, drain, now, tight⟩) N4Z.out HP4.out HBASE.out OZ.out HBZ.out HKZ.out ⟨.inl rfl, (fun _ h => absurd h (by decide)), fun _ _ => HPU.out.1 HXG.out, (fun h => absurd h (by decide)), by have := HKL.out; have := HL.out; simp; omega⟩
    | false =>
     go_upto_region 31 with (fail)
     clear x0 x1 x2 x3 x4 x5 x6 x7 x8 x9 x10 xf xl q0 q1 q2 q3 q4 qf ql a0 a1 a2 af al e0 e1 e2 e3 e4 ef el
     clear hbl
     obtain ⟨Y, hY⟩ : ∃ Y, Y = (X.setCell ⟨T7, 10, none⟩ (.int .i64 call)) := ⟨_, rfl⟩
     have Y7 := hid (show Y.heap[T7]? = some (.cells #[.int .i64 x.id, .int .i64 x.token, .int .i64 x.version, .int .i64 x.zone, .bool x.tag, .bool x.on, .bool x.gone, .bool x.well, .int .u8 x.lb, .int .i64 x.til, .int .i64 call] 116) by rw [hY]; exact (blk_set X4.out 10 (.int .i64 call)))
     have HBY := hid (show Below w.heap.size w Y by rw [hY]; exact (HBB4.out.setCell (p := ⟨T7, 10, none⟩) HT7.out.2.1 (.int .i64 call)))
     have OY := hid (show Owns 11 116 encBx Y base (.slice (some ⟨g, 0, none⟩) L.length c) L by rw [hY]; exact (owns_ne OWN4.out (T := T7) (fun h e => by cases e; exact Nat.ne_of_lt HT7.out.1) 10 (.int .i64 call)))
     have N2Y := hid (show Y.heap[w.heap.size]? = some (.cells #[.slice (some ⟨g, 0, none⟩) L.length c, .int .i64 floor, .int .i64 drain, .int .i64 now, .bool tight] 72) by rw [hY]; exact (blk_other N24.out (p := ⟨T7, 10, none⟩) (by have := HT7.out.2.2; simp; omega) (.int .i64 call)))
     have N4Y := hid (show Y.heap[w.heap.size + 1 + 1]? = some (.cells #[.slice none 0 0, .int .i64 0, .int .i64 0, .int .i64 0, .bool false] 72) by rw [hY]; exact (blk_other N44.out (p := ⟨T7, 10, none⟩) (by have := HT7.out.2.2; simp; omega) (.int .i64 call)))
     rw [← hY]
     clear hY
     obtain ⟨_, _, he, _, _, _, hop⟩ := (OY.out.row encBx_len (by decide)).open
     cases he
     obtain ⟨_, _, he, hb2, hr2⟩ := hop (by have := HKL.out; omega)
     cases he
     have hR := rowBx hr2 HX.out
     simp only [Nat.zero_add] at hR
     obtain ⟨g0, g1, g2, g3, g4, g5, g6, g7, g8, g9, g10⟩ := hR
     have gf := OY.out.cells.2.1
     have hkI : (k : Int) < (L.length : Int) := by have := HKL.out; omega
     obtain ⟨y0, y1, y2, y3, y4, y5, y6, y7, y8, y9, y10, yf, yl⟩ := blk11 Y7.out
     obtain ⟨q0, q1, q2, q3, q4, qf, ql⟩ := blk5 N2Y.out
     clear hop hr2
     go_upto_region 32 with (fail)
     clear g0 g1 g2 g3 g4 g5 g6 g7 g8 g9 g10 gf y0 y1 y2 y3 y4 y5 y6 y7 y8 y9 y10 yf yl q0 q1 q2 q3 q4 qf ql
     obtain ⟨Z, hZ⟩ : ∃ Z, Z = Y.setCells g (k * 11) (encBx ⟨x.id, x.token, x.version, x.zone, x.tag, x.on, x.gone, x.well, x.lb, x.til, call⟩) := ⟨_, rfl⟩
     have hset := set_rowBx (W := Y) (g := g) (o := k * 11) ⟨x.id, x.token, x.version, x.zone, x.tag, x.on, x.gone, x.well, x.lb, x.til, call⟩
     dsimp only at hset
     rw [hset] at hZ
     have hZ2 : Z = Y.setCells g (k * 11) (encBx ⟨x.id, x.token, x.version, x.zone, x.tag, x.on, x.gone, x.well, x.lb, x.til, call⟩) := hZ.trans hset.symm
     have hgr := setCells_grown g (k * 11) (encBx ⟨x.id, x.token, x.version, x.zone, x.tag, x.on, x.gone, x.well, x.lb, x.til, call⟩) Y
     rw [← hZ2] at hgr
     have OZ := hid (show Owns 11 116 encBx Z base (.slice (some ⟨g, 0, none⟩) L.length c) (L.take k ++ [⟨x.id, x.token, x.version, x.zone, x.tag, x.on, x.gone, x.well, x.lb, x.til, call⟩] ++ L.drop (k + 1)) by
      rw [hZ2]
      have := Owns.write encBx_len OY.out k [⟨x.id, x.token, x.version, x.zone, x.tag, x.on, x.gone, x.well, x.lb, x.til, call⟩] (by have := HKL.out; simp; omega)
      simpa using this)
     have HBZ := hid (show Below base w Z from (HBY.out.mono HBASE.out).grown hgr (Nat.le_trans HG1.out (Nat.le_of_lt hb2)) (fun r e => by cases e; exact HG1.out))
     have HKZ := hid (show ∀ T, T < w.heap.size → (Value.slice (some ⟨g, 0, none⟩) L.length c).ownBlock ≠ some T → Z.heap[T]? = w.heap[T]? from fun T hT hne => (hgr.block T (Nat.lt_of_lt_of_le hT HBY.out.size) (fun e => hne e.symm)).trans (HBY.out.block T hT))
     have N2Z := hid (blk_grown N2Y.out hgr (by have := HGW.out; simp; omega))
     have N4Z := hid (blk_grown N4Y.out hgr (by have := HGW.out; simp; omega))
     rw [← hZ]
     have HPT := find_put HID.out HX.out HXI.out ⟨x.id, x.token, x.version, x.zone, x.tag, x.on, x.gone, x.well, x.lb, x.til, call⟩ rfl
     have HPU := hid HPT
     clear hZ hZ2 hset hgr HPT hb2
     obtain ⟨q0, q1, q2, q3, q4, qf, ql⟩ := blk5 N2Z.out
     obtain ⟨e0, e1, e2, e3, e4, ef, el⟩ := blk5 N4Z.out
     go_wp2
     refine bodyPost_ret (res_cloud_tmp rfl rfl rfl (set5 N4Z.out _ _ _ _ _)) rfl ?_
     exact one_out (C := ⟨L, floor, drain, now, tight⟩) N4Z.out HP4.out HBASE.out OZ.out HBZ.out HKZ.out ⟨.inl rfl, (fun _ h => absurd h (by decide)), fun _ _ => HPU.out.1 HXG.out, (fun h => absurd h (by decide)), by have := HKL.out; have := HL.out; simp; omega⟩
   | true =>
    obtain ⟨hn, hhn⟩ : ∃ n, hB L = n := ⟨_, rfl⟩
    have HHN := hid hhn
    obtain ⟨qb, hqb⟩ : ∃ b, decide (wrap64 ((hn : Int) - 1) < floor) = b := ⟨_, rfl⟩
    clear hhn
    have kx0 := fun d os => cell_regrown x0 d os
    have kx1 := fun d os => cell_regrown x1 d os
    have kx2 := fun d os => cell_regrown x2 d os
    have kx3 := fun d os => cell_regrown x3 d os
    have kx4 := fun d os => cell_regrown x4 d os
    have kx5 := fun d os => cell_regrown x5 d os
    have kx6 := fun d os => cell_regrown x6 d os
    have kx7 := fun d os => cell_regrown x7 d os
    have kx8 := fun d os => cell_regrown x8 d os
    have kx9 := fun d os => cell_regrown x9 d os
    have kx10 := fun d os => cell_regrown x10 d os
    have HCC := hid (fun d os => Calls.regrown_of (d := d) (os := os) (w := W3) (rcounted_any x true HCQ.out _))
    have kq0 := fun d os => cell_regrown q0 d os
    have kq1 := fun d os => cell_regrown q1 d os
    have kq2 := fun d os => cell_regrown q2 d os
    have kq3 := fun d os => cell_regrown q3 d os
    have kq4 := fun d os => cell_regrown q4 d os
    have HCH := hid (fun d os => Calls.regrown_of (d := d) (os := os) (w := W3) (rh08_any ⟨L, floor, drain, now, tight⟩ (.slice (some ⟨g, 0, none⟩) L.length c) hn HHN.out _ ((Owns.below OWN3.out (below_regrown W3 d os)).row encBx_len (by decide)) (by have := HL.out; dsimp only; omega)))
    unfold cloudA at HCH
    dsimp only at HCH
    clear x0 x1 x2 x3 x4 x5 x6 x7 x8 x9 x10 xf xl q0 q1 q2 q3 q4 qf ql a0 a1 a2 af al e0 e1 e2 e3 e4 ef el d5
    refine wp_region_quiet_below (by kernel_rfl) (by kernel_rfl) ?_
    repeat (go_big_quiet_step (first | exact HCC.out _ _ | exact HCH.out _ _))
    refine wpQuiet_nil ?_
    intro _ hw'
    obtain ⟨⟨dq, osq⟩, hw''⟩ := hw'
    subst hw''
    have hb := below_regrown W3 dq osq
    obtain ⟨X, hX⟩ : ∃ X, X = Sort.grow (redrawn W3 dq) osq := ⟨_, rfl⟩
    rw [← hX] at hb ⊢
    clear hX kx0 kx1 kx2 kx3 kx4 kx5 kx6 kx7 kx8 kx9 kx10 HCC kq0 kq1 kq2 kq3 kq4 HCH
    have N24 := hid (blk_below N23.out hb (blk_lt N23.out))
    have N34 := hid (blk_below N33.out hb (blk_lt N33.out))
    have N44 := hid (blk_below N43.out hb (blk_lt N43.out))
    have OWN4 := hid (Owns.below OWN3.out hb)
    have HBB4 := hid (HBB3.out.trans (hb.mono HBB3.out.size))
    have X4 := hid (blk_below X3.out hb (blk_lt X3.out))
    clear hb
    clear hqb
    cases qb with
    | true =>
     obtain ⟨q0, q1, q2, q3, q4, qf, ql⟩ := blk5 N24.out
     obtain ⟨e0, e1, e2, e3, e4, ef, el⟩ := blk5 N44.out
     go_wp2
     refine bodyPost_ret (res_cloud_tmp rfl rfl rfl (set5 N44.out _ _ _ _ _)) rfl ?_
     exact one_out (C := ⟨L, floor, drain, now, tight⟩) N44.out HP4.out HBASE.out OWN4.out (HBB4.out.mono HBASE.out) (fun T hT _ => HBB4.out.block T hT) ⟨.inr (.inr (.inl rfl)), (fun h => absurd h (by decide)), (fun h => absurd h (by decide)), fun _ => ⟨.inl rfl, HFT.out⟩, HL.out⟩
    | false =>
     obtain ⟨x0, x1, x2, x3, x4, x5, x6, x7, x8, x9, x10, xf, xl⟩ := blk11 X4.out
     obtain ⟨q0, q1, q2, q3, q4, qf, ql⟩ := blk5 N24.out
     obtain ⟨a0, a1, a2, _, _, _, af, al⟩ := blk6 N34.out
     obtain ⟨e0, e1, e2, e3, e4, ef, el⟩ := blk5 N44.out
     obtain ⟨bl, hbl⟩ : ∃ b, (x.lb == 1) = b := ⟨_, rfl⟩
     cases bl with
     | true =>
      go_upto_region 31 with (fail)
      clear x0 x1 x2 x3 x4 x5 x6 x7 x8 x9 x10 xf xl q0 q1 q2 q3 q4 qf ql a0 a1 a2 af al e0 e1 e2 e3 e4 ef el
      clear hbl
      obtain ⟨Y, hY⟩ : ∃ Y, Y = (((X.setCell ⟨T7, 8, none⟩ (.int .u8 2)).setCell ⟨T7, 9, none⟩ (.int .i64 (wrap64 (now + drain)))).setCell ⟨T7, 10, none⟩ (.int .i64 call)) := ⟨_, rfl⟩
      have Y7 := hid (show Y.heap[T7]? = some (.cells #[.int .i64 x.id, .int .i64 x.token, .int .i64 x.version, .int .i64 x.zone, .bool x.tag, .bool x.on, .bool x.gone, .bool x.well, .int .u8 2, .int .i64 (wrap64 (now + drain)), .int .i64 call] 116) by rw [hY]; exact (blk_set (blk_set (blk_set X4.out 8 (.int .u8 2)) 9 (.int .i64 (wrap64 (now + drain)))) 10 (.int .i64 call)))
      have HBY := hid (show Below w.heap.size w Y by rw [hY]; exact (((HBB4.out.setCell (p := ⟨T7, 8, none⟩) HT7.out.2.1 (.int .u8 2)).setCell (p := ⟨T7, 9, none⟩) HT7.out.2.1 (.int .i64 (wrap64 (now + drain)))).setCell (p := ⟨T7, 10, none⟩) HT7.out.2.1 (.int .i64 call)))
      have OY := hid (show Owns 11 116 encBx Y base (.slice (some ⟨g, 0, none⟩) L.length c) L by rw [hY]; exact (owns_ne (owns_ne (owns_ne OWN4.out (T := T7) (fun h e => by cases e; exact Nat.ne_of_lt HT7.out.1) 8 (.int .u8 2)) (T := T7) (fun h e => by cases e; exact Nat.ne_of_lt HT7.out.1) 9 (.int .i64 (wrap64 (now + drain)))) (T := T7) (fun h e => by cases e; exact Nat.ne_of_lt HT7.out.1) 10 (.int .i64 call)))
      have N2Y := hid (show Y.heap[w.heap.size]? = some (.cells #[.slice (some ⟨g, 0, none⟩) L.length c, .int .i64 floor, .int .i64 drain, .int .i64 now, .bool tight] 72) by rw [hY]; exact (blk_other (blk_other (blk_other N24.out (p := ⟨T7, 8, none⟩) (by have := HT7.out.2.2; simp; omega) (.int .u8 2)) (p := ⟨T7, 9, none⟩) (by have := HT7.out.2.2; simp; omega) (.int .i64 (wrap64 (now + drain)))) (p := ⟨T7, 10, none⟩) (by have := HT7.out.2.2; simp; omega) (.int .i64 call)))
      have N4Y := hid (show Y.heap[w.heap.size + 1 + 1]? = some (.cells #[.slice none 0 0, .int .i64 0, .int .i64 0, .int .i64 0, .bool false] 72) by rw [hY]; exact (blk_other (blk_other (blk_other N44.out (p := ⟨T7, 8, none⟩) (by have := HT7.out.2.2; simp; omega) (.int .u8 2)) (p := ⟨T7, 9, none⟩) (by have := HT7.out.2.2; simp; omega) (.int .i64 (wrap64 (now + drain)))) (p := ⟨T7, 10, none⟩) (by have := HT7.out.2.2; simp; omega) (.int .i64 call)))
      rw [← hY]
      clear hY
      obtain ⟨_, _, he, _, _, _, hop⟩ := (OY.out.row encBx_len (by decide)).open
      cases he
      obtain ⟨_, _, he, hb2, hr2⟩ := hop (by have := HKL.out; omega)
      cases he
      have hR := rowBx hr2 HX.out
      simp only [Nat.zero_add] at hR
      obtain ⟨g0, g1, g2, g3, g4, g5, g6, g7, g8, g9, g10⟩ := hR
      have gf := OY.out.cells.2.1
      have hkI : (k : Int) < (L.length : Int) := by have := HKL.out; omega
      obtain ⟨y0, y1, y2, y3, y4, y5, y6, y7, y8, y9, y10, yf, yl⟩ := blk11 Y7.out
      obtain ⟨q0, q1, q2, q3, q4, qf, ql⟩ := blk5 N2Y.out
      clear hop hr2
      go_upto_region 32 with (fail)
      clear g0 g1 g2 g3 g4 g5 g6 g7 g8 g9 g10 gf y0 y1 y2 y3 y4 y5 y6 y7 y8 y9 y10 yf yl q0 q1 q2 q3 q4 qf ql
      obtain ⟨Z, hZ⟩ : ∃ Z, Z = Y.setCells g (k * 11) (encBx ⟨x.id, x.token, x.version, x.zone, x.tag, x.on, x.gone, x.well, 2, (wrap64 (now + drain)), call⟩) := ⟨_, rfl⟩
      have hset := set_rowBx (W := Y) (g := g) (o := k * 11) ⟨x.id, x.token, x.version, x.zone, x.tag, x.on, x.gone, x.well, 2, (wrap64 (now + drain)), call⟩
      dsimp only at hset
      rw [hset] at hZ
      have hZ2 : Z = Y.setCells g (k * 11) (encBx ⟨x.id, x.token, x.version, x.zone, x.tag, x.on, x.gone, x.well, 2, (wrap64 (now + drain)), call⟩) := hZ.trans hset.symm
      have hgr := setCells_grown g (k * 11) (encBx ⟨x.id, x.token, x.version, x.zone, x.tag, x.on, x.gone, x.well, 2, (wrap64 (now + drain)), call⟩) Y
      rw [← hZ2] at hgr
      have OZ := hid (show Owns 11 116 encBx Z base (.slice (some ⟨g, 0, none⟩) L.length c) (L.take k ++ [⟨x.id, x.token, x.version, x.zone, x.tag, x.on, x.gone, x.well, 2, (wrap64 (now + drain)), call⟩] ++ L.drop (k + 1)) by
       rw [hZ2]
       have := Owns.write encBx_len OY.out k [⟨x.id, x.token, x.version, x.zone, x.tag, x.on, x.gone, x.well, 2, (wrap64 (now + drain)), call⟩] (by have := HKL.out; simp; omega)
       simpa using this)
      have HBZ := hid (show Below base w Z from (HBY.out.mono HBASE.out).grown hgr (Nat.le_trans HG1.out (Nat.le_of_lt hb2)) (fun r e => by cases e; exact HG1.out))
      have HKZ := hid (show ∀ T, T < w.heap.size → (Value.slice (some ⟨g, 0, none⟩) L.length c).ownBlock ≠ some T → Z.heap[T]? = w.heap[T]? from fun T hT hne => (hgr.block T (Nat.lt_of_lt_of_le hT HBY.out.size) (fun e => hne e.symm)).trans (HBY.out.block T hT))
      have N2Z := hid (blk_grown N2Y.out hgr (by have := HGW.out; simp; omega))
      have N4Z := hid (blk_grown N4Y.out hgr (by have := HGW.out; simp; omega))
      rw [← hZ]
      have HPT := find_put HID.out HX.out HXI.out ⟨x.id, x.token, x.version, x.zone, x.tag, x.on, x.gone, x.well, 2, (wrap64 (now + drain)), call⟩ rfl
      have HPU := hid HPT
      clear hZ hZ2 hset hgr HPT hb2
      obtain ⟨q0, q1, q2, q3, q4, qf, ql⟩ := blk5 N2Z.out
      obtain ⟨e0, e1, e2, e3, e4, ef, el⟩ := blk5 N4Z.out
      go_wp2
      refine bodyPost_ret (res_cloud_tmp rfl rfl rfl (set5 N4Z.out _ _ _ _ _)) rfl ?_
      exact one_out (C := ⟨L, floor, drain, now, tight⟩) N4Z.out HP4.out HBASE.out OZ.out HBZ.out HKZ.out ⟨.inl rfl, (fun _ h => absurd h (by decide)), fun _ _ => HPU.out.1 HXG.out, (fun h => absurd h (by decide)), by have := HKL.out; have := HL.out; simp; omega⟩
     | false =>
      go_upto_region 31 with (fail)
      clear x0 x1 x2 x3 x4 x5 x6 x7 x8 x9 x10 xf xl q0 q1 q2 q3 q4 qf ql a0 a1 a2 af al e0 e1 e2 e3 e4 ef el
      clear hbl
      obtain ⟨Y, hY⟩ : ∃ Y, Y = (X.setCell ⟨T7, 10, none⟩ (.int .i64 call)) := ⟨_, rfl⟩
      have Y7 := hid (show Y.heap[T7]? = some (.cells #[.int .i64 x.id, .int .i64 x.token, .int .i64 x.version, .int .i64 x.zone, .bool x.tag, .bool x.on, .bool x.gone, .bool x.well, .int .u8 x.lb, .int .i64 x.til, .int .i64 call] 116) by rw [hY]; exact (blk_set X4.out 10 (.int .i64 call)))
      have HBY := hid (show Below w.heap.size w Y by rw [hY]; exact (HBB4.out.setCell (p := ⟨T7, 10, none⟩) HT7.out.2.1 (.int .i64 call)))
      have OY := hid (show Owns 11 116 encBx Y base (.slice (some ⟨g, 0, none⟩) L.length c) L by rw [hY]; exact (owns_ne OWN4.out (T := T7) (fun h e => by cases e; exact Nat.ne_of_lt HT7.out.1) 10 (.int .i64 call)))
      have N2Y := hid (show Y.heap[w.heap.size]? = some (.cells #[.slice (some ⟨g, 0, none⟩) L.length c, .int .i64 floor, .int .i64 drain, .int .i64 now, .bool tight] 72) by rw [hY]; exact (blk_other N24.out (p := ⟨T7, 10, none⟩) (by have := HT7.out.2.2; simp; omega) (.int .i64 call)))
      have N4Y := hid (show Y.heap[w.heap.size + 1 + 1]? = some (.cells #[.slice none 0 0, .int .i64 0, .int .i64 0, .int .i64 0, .bool false] 72) by rw [hY]; exact (blk_other N44.out (p := ⟨T7, 10, none⟩) (by have := HT7.out.2.2; simp; omega) (.int .i64 call)))
      rw [← hY]
      clear hY
      obtain ⟨_, _, he, _, _, _, hop⟩ := (OY.out.row encBx_len (by decide)).open
      cases he
      obtain ⟨_, _, he, hb2, hr2⟩ := hop (by have := HKL.out; omega)
      cases he
      have hR := rowBx hr2 HX.out
      simp only [Nat.zero_add] at hR
      obtain ⟨g0, g1, g2, g3, g4, g5, g6, g7, g8, g9, g10⟩ := hR
      have gf := OY.out.cells.2.1
      have hkI : (k : Int) < (L.length : Int) := by have := HKL.out; omega
      obtain ⟨y0, y1, y2, y3, y4, y5, y6, y7, y8, y9, y10, yf, yl⟩ := blk11 Y7.out
      obtain ⟨q0, q1, q2, q3, q4, qf, ql⟩ := blk5 N2Y.out
      clear hop hr2
      go_upto_region 32 with (fail)
      clear g0 g1 g2 g3 g4 g5 g6 g7 g8 g9 g10 gf y0 y1 y2 y3 y4 y5 y6 y7 y8 y9 y10 yf yl q0 q1 q2 q3 q4 qf ql
      obtain ⟨Z, hZ⟩ : ∃ Z, Z = Y.setCells g (k * 11) (encBx ⟨x.id, x.token, x.version, x.zone, x.tag, x.on, x.gone, x.well, x.lb, x.til, call⟩) := ⟨_, rfl⟩
      have hset := set_rowBx (W := Y) (g := g) (o := k * 11) ⟨x.id, x.token, x.version, x.zone, x.tag, x.on, x.gone, x.well, x.lb, x.til, call⟩
      dsimp only at hset
      rw [hset] at hZ
      have hZ2 : Z = Y.setCells g (k * 11) (encBx ⟨x.id, x.token, x.version, x.zone, x.tag, x.on, x.gone, x.well, x.lb, x.til, call⟩) := hZ.trans hset.symm
      have hgr := setCells_grown g (k * 11) (encBx ⟨x.id, x.token, x.version, x.zone, x.tag, x.on, x.gone, x.well, x.lb, x.til, call⟩) Y
      rw [← hZ2] at hgr
      have OZ := hid (show Owns 11 116 encBx Z base (.slice (some ⟨g, 0, none⟩) L.length c) (L.take k ++ [⟨x.id, x.token, x.version, x.zone, x.tag, x.on, x.gone, x.well, x.lb, x.til, call⟩] ++ L.drop (k + 1)) by
       rw [hZ2]
       have := Owns.write encBx_len OY.out k [⟨x.id, x.token, x.version, x.zone, x.tag, x.on, x.gone, x.well, x.lb, x.til, call⟩] (by have := HKL.out; simp; omega)
       simpa using this)
      have HBZ := hid (show Below base w Z from (HBY.out.mono HBASE.out).grown hgr (Nat.le_trans HG1.out (Nat.le_of_lt hb2)) (fun r e => by cases e; exact HG1.out))
      have HKZ := hid (show ∀ T, T < w.heap.size → (Value.slice (some ⟨g, 0, none⟩) L.length c).ownBlock ≠ some T → Z.heap[T]? = w.heap[T]? from fun T hT hne => (hgr.block T (Nat.lt_of_lt_of_le hT HBY.out.size) (fun e => hne e.symm)).trans (HBY.out.block T hT))
      have N2Z := hid (blk_grown N2Y.out hgr (by have := HGW.out; simp; omega))
      have N4Z := hid (blk_grown N4Y.out hgr (by have := HGW.out; simp; omega))
      rw [← hZ]
      have HPT := find_put HID.out HX.out HXI.out ⟨x.id, x.token, x.version, x.zone, x.tag, x.on, x.gone, x.well, x.lb, x.til, call⟩ rfl
      have HPU := hid HPT
      clear hZ hZ2 hset hgr HPT hb2
      obtain ⟨q0, q1, q2, q3, q4, qf, ql⟩ := blk5 N2Z.out
      obtain ⟨e0, e1, e2, e3, e4, ef, el⟩ := blk5 N4Z.out
      go_wp2
      refine bodyPost_ret (res_cloud_tmp rfl rfl rfl (set5 N4Z.out _ _ _ _ _)) rfl ?_
      exact one_out (C := ⟨L, floor, drain, now, tight⟩) N4Z.out HP4.out HBASE.out OZ.out HBZ.out HKZ.out ⟨.inl rfl, (fun _ h => absurd h (by decide)), fun _ _ => HPU.out.1 HXG.out, (fun h => absurd h (by decide)), by have := HKL.out; have := HL.out; simp; omega⟩
set_option maxRecDepth 100000 in
set_option maxHeartbeats 4000000 in
theorem rone08_6 (C : CloudV) (s : Value) (call id : Int) (base : Nat) (w : World) (hown : Owns 11 116 encBx w base s C.boxes) (hidx : ∀ (i : Nat) (x : BoxV), C.boxes[i]? = some x → x.id = (i : Int) + 1) (hl : C.boxes.length ≤ 60) (hbase : base ≤ w.heap.size) :
  Calls Tryz.prog 61 #[.agg (cloudA C s), .agg #[.int .u8 6, .int .i64 call, .int .i64 id, .int .i64 0, .int .i64 0, .int .i64 0]] w (OneEnd C s 6 id base w) := by
 obtain ⟨L, floor, drain, now, tight⟩ := C
 unfold cloudA
 dsimp only at hown hidx hl ⊢
 have hrow := hown.row encBx_len (by decide)
 obtain ⟨a, c, rfl, _, _, _, hop⟩ := hrow.open
 obtain ⟨W1, hW1⟩ : ∃ W1, W1 = ((w.alloc (.cells #[.slice a L.length c, .int .i64 floor, .int .i64 drain, .int .i64 now, .bool tight] 72)).alloc (.cells #[.int .u8 6, .int .i64 call, .int .i64 id, .int .i64 0, .int .i64 0, .int .i64 0] 80)).alloc (.cells #[.slice none 0 0, .int .i64 0, .int .i64 0, .int .i64 0, .bool false] 72) := ⟨_, rfl⟩
 have hb1 : Below w.heap.size w W1 := by rw [hW1]; exact (((Below.refl _ _).alloc (Nat.le_refl _) _).alloc (by simp) _).alloc (by simp; omega) _
 have N21 := hid (show W1.heap[w.heap.size]? = some (.cells #[.slice a L.length c, .int .i64 floor, .int .i64 drain, .int .i64 now, .bool tight] 72) by rw [hW1]; exact blk_alloc (blk_alloc (heap_new _ _) _) _)
 have N31 := hid (show W1.heap[w.heap.size + 1]? = some (.cells #[.int .u8 6, .int .i64 call, .int .i64 id, .int .i64 0, .int .i64 0, .int .i64 0] 80) by rw [hW1]; exact blk_alloc (heap_new2 _ _ _) _)
 have N41 := hid (show W1.heap[w.heap.size + 1 + 1]? = some (.cells #[.slice none 0 0, .int .i64 0, .int .i64 0, .int .i64 0, .bool false] 72) by rw [hW1]; simpa using heap_new2 (w.alloc _) _ _)
 have HOW0 := hid hown
 have OWN1 := hid (Owns.below hown hb1)
 have HBB1 := hid hb1
 have HP4 := hid (show w.heap.size ≤ w.heap.size + 1 + 1 by omega)
 have HBASE := hid hbase
 have HID := hid hidx
 have HL := hid hl
 obtain ⟨r, hr⟩ : ∃ r, findBx L id = r := ⟨_, rfl⟩
 have HR := hid hr
 have HF := hid (rfind08_any ⟨L, floor, drain, now, tight⟩ (.slice a L.length c) id r hr W1 (hrow.below hb1) (by dsimp only; omega))
 unfold cloudA at HF
 dsimp only at HF
 clear hown hrow hidx hl hb1 hr hop hbase
 go_enter Tryz.func61, Tryz.ntmps61
 go_upto_region 1 with (fail)
 rw [← hW1]
 clear hW1
 obtain ⟨q0, q1, q2, q3, q4, qf, ql⟩ := blk5 N21.out
 obtain ⟨a0, a1, a2, _, _, _, af, al⟩ := blk6 N31.out
 go_wp2_with fail
 clear q0 q1 q2 q3 q4 qf ql a0 a1 a2 af al 
 refine HF.out.mono ?_
 rintro e W2 ⟨rfl, hb⟩
 have N22 := hid (blk_below N21.out hb (blk_lt N21.out))
 have N32 := hid (blk_below N31.out hb (blk_lt N31.out))
 have N42 := hid (blk_below N41.out hb (blk_lt N41.out))
 have OWN2 := hid (Owns.below OWN1.out hb)
 have HBB2 := hid (HBB1.out.trans (hb.mono HBB1.out.size))
 clear hb HF
 rcases idxL_cases L (fun x => x.id == id && !x.gone) with ⟨h1, _⟩ | ⟨k, x, h1, hx, hp, _⟩
 ·obtain rfl : r = -1 := by rw [← HR.out]; exact h1
  have HFL := hid (show findBx L id < 0 by rw [HR.out]; decide)
  clear h1
  obtain ⟨q0, q1, q2, q3, q4, qf, ql⟩ := blk5 N22.out
  obtain ⟨a0, a1, a2, _, _, _, af, al⟩ := blk6 N32.out
  obtain ⟨e0, e1, e2, e3, e4, ef, el⟩ := blk5 N42.out
  have hrow := OWN2.out.row encBx_len (by decide)
  have HG := hid (rgone08_any ⟨L, floor, drain, now, tight⟩ (.slice a L.length c) id W2 hrow (by have := HL.out; dsimp only; omega))
  unfold cloudA at HG
  dsimp only at HG
  clear hrow
  go_wp2_with fail
  refine HG.out.mono ?_
  clear q0 q1 q2 q3 q4 qf ql a0 a1 a2 af al e0 e1 e2 e3 e4 ef el
  rintro e W3 ⟨q, rfl, hb⟩
  have N23 := hid (blk_below N22.out hb (blk_lt N22.out))
  have N33 := hid (blk_below N32.out hb (blk_lt N32.out))
  have N43 := hid (blk_below N42.out hb (blk_lt N42.out))
  have OWN3 := hid (Owns.below OWN2.out hb)
  have HBB3 := hid (HBB2.out.trans (hb.mono HBB2.out.size))
  clear hb
  obtain ⟨q0, q1, q2, q3, q4, qf, ql⟩ := blk5 N23.out
  obtain ⟨e0, e1, e2, e3, e4, ef, el⟩ := blk5 N43.out
  cases q with
  | true =>
   go_wp2
   refine bodyPost_ret (res_cloud_tmp rfl rfl rfl (set5 N43.out _ _ _ _ _)) rfl ?_
   exact one_out (C := ⟨L, floor, drain, now, tight⟩) N43.out HP4.out HBASE.out OWN3.out (HBB3.out.mono HBASE.out) (fun T hT _ => HBB3.out.block T hT) ⟨.inl rfl, fun _ _ => HFL.out, fun _ h => absurd rfl h, (fun h => absurd h (by decide)), HL.out⟩
  | false =>
   go_wp2
   refine bodyPost_ret (res_cloud_tmp rfl rfl rfl (set5 N43.out _ _ _ _ _)) rfl ?_
   exact one_out (C := ⟨L, floor, drain, now, tight⟩) N43.out HP4.out HBASE.out OWN3.out (HBB3.out.mono HBASE.out) (fun T hT _ => HBB3.out.block T hT) ⟨.inr (.inl rfl), (fun h => absurd h (by decide)), (fun h => absurd h (by decide)), (fun h => absurd h (by decide)), HL.out⟩
 ·obtain rfl : r = (k : Int) := by rw [← HR.out]; exact h1
  have HFT := hid (show 0 ≤ findBx L id by rw [HR.out]; omega)
  rw [Bool.and_eq_true] at hp
  have hxi : x.id = id := by simpa using hp.1
  have HXI := hid hxi
  have HXG := hid (show x.gone = false by simpa using hp.2)
  have HX := hid hx
  have hkL := lt_get hx
  obtain ⟨g, c', he, hg1, hg2⟩ : ∃ g c', (.slice a L.length c : Value) = .slice (some ⟨g, 0, none⟩) L.length c' ∧ base ≤ g ∧ g < w.heap.size := by
   rcases HOW0.out.form with ⟨_, h0⟩ | ⟨g, c', h⟩
   ·rw [h0] at hkL
    exact absurd hkL (by simp)
   ·exact ⟨g, c', h⟩
  cases he
  have HGW := hid hg2
  have hg2 : g < W2.heap.size := Nat.lt_trans hg2 (blk_lt N22.out)
  have HKL := hid hkL
  have HG1 := hid hg1
  obtain ⟨_, _, he, _, _, _, hop⟩ := (OWN2.out.row encBx_len (by decide)).open
  cases he
  obtain ⟨_, _, he, hb2, hr2⟩ := hop (by omega)
  cases he
  have hR := rowBx hr2 hx
  simp only [Nat.zero_add] at hR
  obtain ⟨g0, g1, g2, g3, g4, g5, g6, g7, g8, g9, g10⟩ := hR
  have hkI : (k : Int) < (L.length : Int) := by omega
  clear h1 hp hxi hx hr2 hop hg1
  obtain ⟨q0, q1, q2, q3, q4, qf, ql⟩ := blk5 N22.out
  go_upto_region 7 with (fail)
  clear q0 q1 q2 q3 q4 qf ql g0 g1 g2 g3 g4 g5 g6 g7 g8 g9 g10
  obtain ⟨W3, hW3⟩ : ∃ W, W = W2.alloc (.cells #[.int .i64 x.id, .int .i64 x.token, .int .i64 x.version, .int .i64 x.zone, .bool x.tag, .bool x.on, .bool x.gone, .bool x.well, .int .u8 x.lb, .int .i64 x.til, .int .i64 x.fence] 116) := ⟨_, rfl⟩
  have hb : Below W2.heap.size W2 W3 := by rw [hW3]; exact (Below.refl _ _).alloc (Nat.le_refl _) _
  have N23 := hid (blk_below N22.out hb (blk_lt N22.out))
  have N33 := hid (blk_below N32.out hb (blk_lt N32.out))
  have N43 := hid (blk_below N42.out hb (blk_lt N42.out))
  have OWN3 := hid (Owns.below OWN2.out hb)
  have HBB3 := hid (HBB2.out.trans (hb.mono HBB2.out.size))
  have X3 := hid (show W3.heap[W2.heap.size]? = some (.cells #[.int .i64 x.id, .int .i64 x.token, .int .i64 x.version, .int .i64 x.zone, .bool x.tag, .bool x.on, .bool x.gone, .bool x.well, .int .u8 x.lb, .int .i64 x.til, .int .i64 x.fence] 116) by rw [hW3]; exact heap_new _ _)
  rw [← hW3]
  have HT7 := hid (show g < W2.heap.size ∧ w.heap.size ≤ W2.heap.size ∧ w.heap.size + 1 + 1 < W2.heap.size from ⟨hg2, HBB2.out.size, blk_lt N42.out⟩)
  obtain ⟨T7, hT⟩ : ∃ T, W2.heap.size = T := ⟨_, rfl⟩
  rw [hT] at X3 HT7 ⊢
  clear hb hW3 hT hg2 hb2
  obtain ⟨x0, x1, x2, x3, x4, x5, x6, x7, x8, x9, x10, xf, xl⟩ := blk11 X3.out
  obtain ⟨q0, q1, q2, q3, q4, qf, ql⟩ := blk5 N23.out
  obtain ⟨a0, a1, a2, _, _, _, af, al⟩ := blk6 N33.out
  obtain ⟨e0, e1, e2, e3, e4, ef, el⟩ := blk5 N43.out
  by_cases h5 : call < x.fence
  ·have d5 : decide (call < x.fence) = true := decide_eq_true h5
   clear h5
   go_wp2
   refine bodyPost_ret (res_cloud_tmp rfl rfl rfl (set5 N43.out _ _ _ _ _)) rfl ?_
   exact one_out (C := ⟨L, floor, drain, now, tight⟩) N43.out HP4.out HBASE.out OWN3.out (HBB3.out.mono HBASE.out) (fun T hT _ => HBB3.out.block T hT) ⟨.inr (.inr (.inr rfl)), (fun h => absurd h (by decide)), (fun h => absurd h (by decide)), (fun h => absurd h (by decide)), HL.out⟩
  ·have d5 : decide (call < x.fence) = false := decide_eq_false h5
   clear h5
   go_upto_region 10 with (fail)
   obtain ⟨cq, hcq⟩ : ∃ q, cntB x = q := ⟨_, rfl⟩
   have HCQ := hid hcq
   clear hcq
   cases cq with
   | false =>
    have kx0 := fun d os => cell_regrown x0 d os
    have kx1 := fun d os => cell_regrown x1 d os
    have kx2 := fun d os => cell_regrown x2 d os
    have kx3 := fun d os => cell_regrown x3 d os
    have kx4 := fun d os => cell_regrown x4 d os
    have kx5 := fun d os => cell_regrown x5 d os
    have kx6 := fun d os => cell_regrown x6 d os
    have kx7 := fun d os => cell_regrown x7 d os
    have kx8 := fun d os => cell_regrown x8 d os
    have kx9 := fun d os => cell_regrown x9 d os
    have kx10 := fun d os => cell_regrown x10 d os
    have HCC := hid (fun d os => Calls.regrown_of (d := d) (os := os) (w := W3) (rcounted_any x false HCQ.out _))
    clear x0 x1 x2 x3 x4 x5 x6 x7 x8 x9 x10 xf xl q0 q1 q2 q3 q4 qf ql a0 a1 a2 af al e0 e1 e2 e3 e4 ef el d5
    refine wp_region_quiet_below (by kernel_rfl) (by kernel_rfl) ?_
    repeat (go_big_quiet_step (exact HCC.out _ _))
    refine wpQuiet_nil ?_
    intro _ hw'
    obtain ⟨⟨dq, osq⟩, hw''⟩ := hw'
    subst hw''
    have hb := below_regrown W3 dq osq
    obtain ⟨X, hX⟩ : ∃ X, X = Sort.grow (redrawn W3 dq) osq := ⟨_, rfl⟩
    rw [← hX] at hb ⊢
    clear hX kx0 kx1 kx2 kx3 kx4 kx5 kx6 kx7 kx8 kx9 kx10 HCC
    have N24 := hid (blk_below N23.out hb (blk_lt N23.out))
    have N34 := hid (blk_below N33.out hb (blk_lt N33.out))
    have N44 := hid (blk_below N43.out hb (blk_lt N43.out))
    have OWN4 := hid (Owns.below OWN3.out hb)
    have HBB4 := hid (HBB3.out.trans (hb.mono HBB3.out.size))
    have X4 := hid (blk_below X3.out hb (blk_lt X3.out))
    clear hb
    obtain ⟨x0, x1, x2, x3, x4, x5, x6, x7, x8, x9, x10, xf, xl⟩ := blk11 X4.out
    obtain ⟨q0, q1, q2, q3, q4, qf, ql⟩ := blk5 N24.out
    obtain ⟨a0, a1, a2, _, _, _, af, al⟩ := blk6 N34.out
    obtain ⟨e0, e1, e2, e3, e4, ef, el⟩ := blk5 N44.out
    go_upto_region 31 with (fail)
    clear x0 x1 x2 x3 x4 x5 x6 x7 x8 x9 x10 xf xl q0 q1 q2 q3 q4 qf ql a0 a1 a2 af al e0 e1 e2 e3 e4 ef el
    obtain ⟨Y, hY⟩ : ∃ Y, Y = ((((X.setCell ⟨T7, 6, none⟩ (.bool true)).setCell ⟨T7, 5, none⟩ (.bool false)).setCell ⟨T7, 8, none⟩ (.int .u8 0)).setCell ⟨T7, 10, none⟩ (.int .i64 call)) := ⟨_, rfl⟩
    have Y7 := hid (show Y.heap[T7]? = some (.cells #[.int .i64 x.id, .int .i64 x.token, .int .i64 x.version, .int .i64 x.zone, .bool x.tag, .bool false, .bool true, .bool x.well, .int .u8 0, .int .i64 x.til, .int .i64 call] 116) by rw [hY]; exact (blk_set (blk_set (blk_set (blk_set X4.out 6 (.bool true)) 5 (.bool false)) 8 (.int .u8 0)) 10 (.int .i64 call)))
    have HBY := hid (show Below w.heap.size w Y by rw [hY]; exact ((((HBB4.out.setCell (p := ⟨T7, 6, none⟩) HT7.out.2.1 (.bool true)).setCell (p := ⟨T7, 5, none⟩) HT7.out.2.1 (.bool false)).setCell (p := ⟨T7, 8, none⟩) HT7.out.2.1 (.int .u8 0)).setCell (p := ⟨T7, 10, none⟩) HT7.out.2.1 (.int .i64 call)))
    have OY := hid (show Owns 11 116 encBx Y base (.slice (some ⟨g, 0, none⟩) L.length c) L by rw [hY]; exact (owns_ne (owns_ne (owns_ne (owns_ne OWN4.out (T := T7) (fun h e => by cases e; exact Nat.ne_of_lt HT7.out.1) 6 (.bool true)) (T := T7) (fun h e => by cases e; exact Nat.ne_of_lt HT7.out.1) 5 (.bool false)) (T := T7) (fun h e => by cases e; exact Nat.ne_of_lt HT7.out.1) 8 (.int .u8 0)) (T := T7) (fun h e => by cases e; exact Nat.ne_of_lt HT7.out.1) 10 (.int .i64 call)))
    have N2Y := hid (show Y.heap[w.heap.size]? = some (.cells #[.slice (some ⟨g, 0, none⟩) L.length c, .int .i64 floor, .int .i64 drain, .int .i64 now, .bool tight] 72) by rw [hY]; exact (blk_other (blk_other (blk_other (blk_other N24.out (p := ⟨T7, 6, none⟩) (by have := HT7.out.2.2; simp; omega) (.bool true)) (p := ⟨T7, 5, none⟩) (by have := HT7.out.2.2; simp; omega) (.bool false)) (p := ⟨T7, 8, none⟩) (by have := HT7.out.2.2; simp; omega) (.int .u8 0)) (p := ⟨T7, 10, none⟩) (by have := HT7.out.2.2; simp; omega) (.int .i64 call)))
    have N4Y := hid (show Y.heap[w.heap.size + 1 + 1]? = some (.cells #[.slice none 0 0, .int .i64 0, .int .i64 0, .int .i64 0, .bool false] 72) by rw [hY]; exact (blk_other (blk_other (blk_other (blk_other N44.out (p := ⟨T7, 6, none⟩) (by have := HT7.out.2.2; simp; omega) (.bool true)) (p := ⟨T7, 5, none⟩) (by have := HT7.out.2.2; simp; omega) (.bool false)) (p := ⟨T7, 8, none⟩) (by have := HT7.out.2.2; simp; omega) (.int .u8 0)) (p := ⟨T7, 10, none⟩) (by have := HT7.out.2.2; simp; omega) (.int .i64 call)))
    rw [← hY]
    clear hY
    obtain ⟨_, _, he, _, _, _, hop⟩ := (OY.out.row encBx_len (by decide)).open
    cases he
    obtain ⟨_, _, he, hb2, hr2⟩ := hop (by have := HKL.out; omega)
    cases he
    have hR := rowBx hr2 HX.out
    simp only [Nat.zero_add] at hR
    obtain ⟨g0, g1, g2, g3, g4, g5, g6, g7, g8, g9, g10⟩ := hR
    have gf := OY.out.cells.2.1
    have hkI : (k : Int) < (L.length : Int) := by have := HKL.out; omega
    obtain ⟨y0, y1, y2, y3, y4, y5, y6, y7, y8, y9, y10, yf, yl⟩ := blk11 Y7.out
    obtain ⟨q0, q1, q2, q3, q4, qf, ql⟩ := blk5 N2Y.out
    clear hop hr2
    go_upto_region 32 with (fail)
    clear g0 g1 g2 g3 g4 g5 g6 g7 g8 g9 g10 gf y0 y1 y2 y3 y4 y5 y6 y7 y8 y9 y10 yf yl q0 q1 q2 q3 q4 qf ql
    obtain ⟨Z, hZ⟩ : ∃ Z, Z = Y.setCells g (k * 11) (encBx ⟨x.id, x.token, x.version, x.zone, x.tag, false, true, x.well, 0, x.til, call⟩) := ⟨_, rfl⟩
    have hset := set_rowBx (W := Y) (g := g) (o := k * 11) ⟨x.id, x.token, x.version, x.zone, x.tag, false, true, x.well, 0, x.til, call⟩
    dsimp only at hset
    rw [hset] at hZ
    have hZ2 : Z = Y.setCells g (k * 11) (encBx ⟨x.id, x.token, x.version, x.zone, x.tag, false, true, x.well, 0, x.til, call⟩) := hZ.trans hset.symm
    have hgr := setCells_grown g (k * 11) (encBx ⟨x.id, x.token, x.version, x.zone, x.tag, false, true, x.well, 0, x.til, call⟩) Y
    rw [← hZ2] at hgr
    have OZ := hid (show Owns 11 116 encBx Z base (.slice (some ⟨g, 0, none⟩) L.length c) (L.take k ++ [⟨x.id, x.token, x.version, x.zone, x.tag, false, true, x.well, 0, x.til, call⟩] ++ L.drop (k + 1)) by
     rw [hZ2]
     have := Owns.write encBx_len OY.out k [⟨x.id, x.token, x.version, x.zone, x.tag, false, true, x.well, 0, x.til, call⟩] (by have := HKL.out; simp; omega)
     simpa using this)
    have HBZ := hid (show Below base w Z from (HBY.out.mono HBASE.out).grown hgr (Nat.le_trans HG1.out (Nat.le_of_lt hb2)) (fun r e => by cases e; exact HG1.out))
    have HKZ := hid (show ∀ T, T < w.heap.size → (Value.slice (some ⟨g, 0, none⟩) L.length c).ownBlock ≠ some T → Z.heap[T]? = w.heap[T]? from fun T hT hne => (hgr.block T (Nat.lt_of_lt_of_le hT HBY.out.size) (fun e => hne e.symm)).trans (HBY.out.block T hT))
    have N2Z := hid (blk_grown N2Y.out hgr (by have := HGW.out; simp; omega))
    have N4Z := hid (blk_grown N4Y.out hgr (by have := HGW.out; simp; omega))
    rw [← hZ]
    have HPT := find_put HID.out HX.out HXI.out ⟨x.id, x.token, x.version, x.zone, x.tag, false, true, x.well, 0, x.til, call⟩ rfl
    have HPU := hid HPT
    clear hZ hZ2 hset hgr HPT hb2
    obtain ⟨q0, q1, q2, q3, q4, qf, ql⟩ := blk5 N2Z.out
    obtain ⟨e0, e1, e2, e3, e4, ef, el⟩ := blk5 N4Z.out
    go_wp2
    refine bodyPost_ret (res_cloud_tmp rfl rfl rfl (set5 N4Z.out _ _ _ _ _)) rfl ?_
    exact one_out (C := ⟨L, floor, drain, now, tight⟩) N4Z.out HP4.out HBASE.out OZ.out HBZ.out HKZ.out ⟨.inl rfl, fun _ _ => HPU.out.2 (by first | rfl | trivial), fun _ h => absurd rfl h, (fun h => absurd h (by decide)), by have := HKL.out; have := HL.out; simp; omega⟩
   | true =>
    obtain ⟨hn, hhn⟩ : ∃ n, hB L = n := ⟨_, rfl⟩
    have HHN := hid hhn
    obtain ⟨qb, hqb⟩ : ∃ b, decide (wrap64 ((hn : Int) - 1) < floor) = b := ⟨_, rfl⟩
    clear hhn
    have kx0 := fun d os => cell_regrown x0 d os
    have kx1 := fun d os => cell_regrown x1 d os
    have kx2 := fun d os => cell_regrown x2 d os
    have kx3 := fun d os => cell_regrown x3 d os
    have kx4 := fun d os => cell_regrown x4 d os
    have kx5 := fun d os => cell_regrown x5 d os
    have kx6 := fun d os => cell_regrown x6 d os
    have kx7 := fun d os => cell_regrown x7 d os
    have kx8 := fun d os => cell_regrown x8 d os
    have kx9 := fun d os => cell_regrown x9 d os
    have kx10 := fun d os => cell_regrown x10 d os
    have HCC := hid (fun d os => Calls.regrown_of (d := d) (os := os) (w := W3) (rcounted_any x true HCQ.out _))
    have kq0 := fun d os => cell_regrown q0 d os
    have kq1 := fun d os => cell_regrown q1 d os
    have kq2 := fun d os => cell_regrown q2 d os
    have kq3 := fun d os => cell_regrown q3 d os
    have kq4 := fun d os => cell_regrown q4 d os
    have HCH := hid (fun d os => Calls.regrown_of (d := d) (os := os) (w := W3) (rh08_any ⟨L, floor, drain, now, tight⟩ (.slice (some ⟨g, 0, none⟩) L.length c) hn HHN.out _ ((Owns.below OWN3.out (below_regrown W3 d os)).row encBx_len (by decide)) (by have := HL.out; dsimp only; omega)))
    unfold cloudA at HCH
    dsimp only at HCH
    clear x0 x1 x2 x3 x4 x5 x6 x7 x8 x9 x10 xf xl q0 q1 q2 q3 q4 qf ql a0 a1 a2 af al e0 e1 e2 e3 e4 ef el d5
    refine wp_region_quiet_below (by kernel_rfl) (by kernel_rfl) ?_
    repeat (go_big_quiet_step (first | exact HCC.out _ _ | exact HCH.out _ _))
    refine wpQuiet_nil ?_
    intro _ hw'
    obtain ⟨⟨dq, osq⟩, hw''⟩ := hw'
    subst hw''
    have hb := below_regrown W3 dq osq
    obtain ⟨X, hX⟩ : ∃ X, X = Sort.grow (redrawn W3 dq) osq := ⟨_, rfl⟩
    rw [← hX] at hb ⊢
    clear hX kx0 kx1 kx2 kx3 kx4 kx5 kx6 kx7 kx8 kx9 kx10 HCC kq0 kq1 kq2 kq3 kq4 HCH
    have N24 := hid (blk_below N23.out hb (blk_lt N23.out))
    have N34 := hid (blk_below N33.out hb (blk_lt N33.out))
    have N44 := hid (blk_below N43.out hb (blk_lt N43.out))
    have OWN4 := hid (Owns.below OWN3.out hb)
    have HBB4 := hid (HBB3.out.trans (hb.mono HBB3.out.size))
    have X4 := hid (blk_below X3.out hb (blk_lt X3.out))
    clear hb
    clear hqb
    cases qb with
    | true =>
     obtain ⟨q0, q1, q2, q3, q4, qf, ql⟩ := blk5 N24.out
     obtain ⟨e0, e1, e2, e3, e4, ef, el⟩ := blk5 N44.out
     go_wp2
     refine bodyPost_ret (res_cloud_tmp rfl rfl rfl (set5 N44.out _ _ _ _ _)) rfl ?_
     exact one_out (C := ⟨L, floor, drain, now, tight⟩) N44.out HP4.out HBASE.out OWN4.out (HBB4.out.mono HBASE.out) (fun T hT _ => HBB4.out.block T hT) ⟨.inr (.inr (.inl rfl)), (fun h => absurd h (by decide)), (fun h => absurd h (by decide)), fun _ => ⟨.inr rfl, HFT.out⟩, HL.out⟩
    | false =>
     obtain ⟨x0, x1, x2, x3, x4, x5, x6, x7, x8, x9, x10, xf, xl⟩ := blk11 X4.out
     obtain ⟨q0, q1, q2, q3, q4, qf, ql⟩ := blk5 N24.out
     obtain ⟨a0, a1, a2, _, _, _, af, al⟩ := blk6 N34.out
     obtain ⟨e0, e1, e2, e3, e4, ef, el⟩ := blk5 N44.out
     go_upto_region 31 with (fail)
     clear x0 x1 x2 x3 x4 x5 x6 x7 x8 x9 x10 xf xl q0 q1 q2 q3 q4 qf ql a0 a1 a2 af al e0 e1 e2 e3 e4 ef el
     obtain ⟨Y, hY⟩ : ∃ Y, Y = ((((X.setCell ⟨T7, 6, none⟩ (.bool true)).setCell ⟨T7, 5, none⟩ (.bool false)).setCell ⟨T7, 8, none⟩ (.int .u8 0)).setCell ⟨T7, 10, none⟩ (.int .i64 call)) := ⟨_, rfl⟩
     have Y7 := hid (show Y.heap[T7]? = some (.cells #[.int .i64 x.id, .int .i64 x.token, .int .i64 x.version, .int .i64 x.zone, .bool x.tag, .bool false, .bool true, .bool x.well, .int .u8 0, .int .i64 x.til, .int .i64 call] 116) by rw [hY]; exact (blk_set (blk_set (blk_set (blk_set X4.out 6 (.bool true)) 5 (.bool false)) 8 (.int .u8 0)) 10 (.int .i64 call)))
     have HBY := hid (show Below w.heap.size w Y by rw [hY]; exact ((((HBB4.out.setCell (p := ⟨T7, 6, none⟩) HT7.out.2.1 (.bool true)).setCell (p := ⟨T7, 5, none⟩) HT7.out.2.1 (.bool false)).setCell (p := ⟨T7, 8, none⟩) HT7.out.2.1 (.int .u8 0)).setCell (p := ⟨T7, 10, none⟩) HT7.out.2.1 (.int .i64 call)))
     have OY := hid (show Owns 11 116 encBx Y base (.slice (some ⟨g, 0, none⟩) L.length c) L by rw [hY]; exact (owns_ne (owns_ne (owns_ne (owns_ne OWN4.out (T := T7) (fun h e => by cases e; exact Nat.ne_of_lt HT7.out.1) 6 (.bool true)) (T := T7) (fun h e => by cases e; exact Nat.ne_of_lt HT7.out.1) 5 (.bool false)) (T := T7) (fun h e => by cases e; exact Nat.ne_of_lt HT7.out.1) 8 (.int .u8 0)) (T := T7) (fun h e => by cases e; exact Nat.ne_of_lt HT7.out.1) 10 (.int .i64 call)))
     have N2Y := hid (show Y.heap[w.heap.size]? = some (.cells #[.slice (some ⟨g, 0, none⟩) L.length c, .int .i64 floor, .int .i64 drain, .int .i64 now, .bool tight] 72) by rw [hY]; exact (blk_other (blk_other (blk_other (blk_other N24.out (p := ⟨T7, 6, none⟩) (by have := HT7.out.2.2; simp; omega) (.bool true)) (p := ⟨T7, 5, none⟩) (by have := HT7.out.2.2; simp; omega) (.bool false)) (p := ⟨T7, 8, none⟩) (by have := HT7.out.2.2; simp; omega) (.int .u8 0)) (p := ⟨T7, 10, none⟩) (by have := HT7.out.2.2; simp; omega) (.int .i64 call)))
     have N4Y := hid (show Y.heap[w.heap.size + 1 + 1]? = some (.cells #[.slice none 0 0, .int .i64 0, .int .i64 0, .int .i64 0, .bool false] 72) by rw [hY]; exact (blk_other (blk_other (blk_other (blk_other N44.out (p := ⟨T7, 6, none⟩) (by have := HT7.out.2.2; simp; omega) (.bool true)) (p := ⟨T7, 5, none⟩) (by have := HT7.out.2.2; simp; omega) (.bool false)) (p := ⟨T7, 8, none⟩) (by have := HT7.out.2.2; simp; omega) (.int .u8 0)) (p := ⟨T7, 10, none⟩) (by have := HT7.out.2.2; simp; omega) (.int .i64 call)))
     rw [← hY]
     clear hY
     obtain ⟨_, _, he, _, _, _, hop⟩ := (OY.out.row encBx_len (by decide)).open
     cases he
     obtain ⟨_, _, he, hb2, hr2⟩ := hop (by have := HKL.out; omega)
     cases he
     have hR := rowBx hr2 HX.out
     simp only [Nat.zero_add] at hR
     obtain ⟨g0, g1, g2, g3, g4, g5, g6, g7, g8, g9, g10⟩ := hR
     have gf := OY.out.cells.2.1
     have hkI : (k : Int) < (L.length : Int) := by have := HKL.out; omega
     obtain ⟨y0, y1, y2, y3, y4, y5, y6, y7, y8, y9, y10, yf, yl⟩ := blk11 Y7.out
     obtain ⟨q0, q1, q2, q3, q4, qf, ql⟩ := blk5 N2Y.out
     clear hop hr2
     go_upto_region 32 with (fail)
     clear g0 g1 g2 g3 g4 g5 g6 g7 g8 g9 g10 gf y0 y1 y2 y3 y4 y5 y6 y7 y8 y9 y10 yf yl q0 q1 q2 q3 q4 qf ql
     obtain ⟨Z, hZ⟩ : ∃ Z, Z = Y.setCells g (k * 11) (encBx ⟨x.id, x.token, x.version, x.zone, x.tag, false, true, x.well, 0, x.til, call⟩) := ⟨_, rfl⟩
     have hset := set_rowBx (W := Y) (g := g) (o := k * 11) ⟨x.id, x.token, x.version, x.zone, x.tag, false, true, x.well, 0, x.til, call⟩
     dsimp only at hset
     rw [hset] at hZ
     have hZ2 : Z = Y.setCells g (k * 11) (encBx ⟨x.id, x.token, x.version, x.zone, x.tag, false, true, x.well, 0, x.til, call⟩) := hZ.trans hset.symm
     have hgr := setCells_grown g (k * 11) (encBx ⟨x.id, x.token, x.version, x.zone, x.tag, false, true, x.well, 0, x.til, call⟩) Y
     rw [← hZ2] at hgr
     have OZ := hid (show Owns 11 116 encBx Z base (.slice (some ⟨g, 0, none⟩) L.length c) (L.take k ++ [⟨x.id, x.token, x.version, x.zone, x.tag, false, true, x.well, 0, x.til, call⟩] ++ L.drop (k + 1)) by
      rw [hZ2]
      have := Owns.write encBx_len OY.out k [⟨x.id, x.token, x.version, x.zone, x.tag, false, true, x.well, 0, x.til, call⟩] (by have := HKL.out; simp; omega)
      simpa using this)
     have HBZ := hid (show Below base w Z from (HBY.out.mono HBASE.out).grown hgr (Nat.le_trans HG1.out (Nat.le_of_lt hb2)) (fun r e => by cases e; exact HG1.out))
     have HKZ := hid (show ∀ T, T < w.heap.size → (Value.slice (some ⟨g, 0, none⟩) L.length c).ownBlock ≠ some T → Z.heap[T]? = w.heap[T]? from fun T hT hne => (hgr.block T (Nat.lt_of_lt_of_le hT HBY.out.size) (fun e => hne e.symm)).trans (HBY.out.block T hT))
     have N2Z := hid (blk_grown N2Y.out hgr (by have := HGW.out; simp; omega))
     have N4Z := hid (blk_grown N4Y.out hgr (by have := HGW.out; simp; omega))
     rw [← hZ]
     have HPT := find_put HID.out HX.out HXI.out ⟨x.id, x.token, x.version, x.zone, x.tag, false, true, x.well, 0, x.til, call⟩ rfl
     have HPU := hid HPT
     clear hZ hZ2 hset hgr HPT hb2
     obtain ⟨q0, q1, q2, q3, q4, qf, ql⟩ := blk5 N2Z.out
     obtain ⟨e0, e1, e2, e3, e4, ef, el⟩ := blk5 N4Z.out
     go_wp2
     refine bodyPost_ret (res_cloud_tmp rfl rfl rfl (set5 N4Z.out _ _ _ _ _)) rfl ?_
     exact one_out (C := ⟨L, floor, drain, now, tight⟩) N4Z.out HP4.out HBASE.out OZ.out HBZ.out HKZ.out ⟨.inl rfl, fun _ _ => HPU.out.2 (by first | rfl | trivial), fun _ h => absurd rfl h, (fun h => absurd h (by decide)), by have := HKL.out; have := HL.out; simp; omega⟩
end Go.Proofs.YthhgpiolcnojfaaGreatDoor

/- herdref08.Own, Do, of what is asked of one box. Printed by gn_dow.py. -/
namespace Go.Proofs.YthhgpiolcnojfaaGreatDoor
open Go.RowKit Go.Shelf

theorem infoBx : (Tryz.prog.info? 116).map (fun i => (i.zero, i.size, i.bytes)) = some (some (.agg #[.int .i64 0, .int .i64 0, .int .i64 0, .int .i64 0, .bool false, .bool false, .bool false, .bool false, .int .u8 0, .int .i64 0, .int .i64 0]), 11, 56) := by kernel_rfl
theorem encBx_one (x : BoxV) : ∀ u ∈ encBx x, u.oneCell' = true := by
 intro u hu
 simp only [encBx, List.mem_cons, List.mem_nil_iff, or_false] at hu
 rcases hu with rfl | rfl | rfl | rfl | rfl | rfl | rfl | rfl | rfl | rfl | rfl <;> rfl
theorem res_cloud {fn : Func} {tmps : Array Value} {r : Tmp} {b : Nat} {c0 c1 c2 c3 c4 : Value} {W : World} (hres : fn.results = #[.cell r 72]) (h : tmps.getD r undef = .pointer (some ⟨b, 0, none⟩)) (hb : W.heap[b]? = some (.cells #[c0, c1, c2, c3, c4] 72)) :
  (results fn tmps).run Tryz.prog W = .ok (.agg #[c0, c1, c2, c3, c4]) W := by
 have k0 := blk_cell hb 0
 have k1 := blk_cell hb 1
 have k2 := blk_cell hb 2
 have k3 := blk_cell hb 3
 have k4 := blk_cell hb 4
 simp only [List.getElem?_toArray, List.getElem?_cons_succ, List.getElem?_cons_zero] at k0 k1 k2 k3 k4
 rw [Array.getD_eq_getD_getElem?] at h
 simp [results, hres, go_sem, h, k0, k1, k2, k3, k4]
theorem res_do {fn : Func} {tmps : Array Value} {r q : Tmp} {b d : Nat} {c0 c1 c2 c3 c4 e0 e1 e2 e3 e4 e5 : Value} {W : World} (hres : fn.results = #[.cell r 72, .cell q 36]) (h : tmps.getD r undef = .pointer (some ⟨b, 0, none⟩)) (hq : tmps.getD q undef = .pointer (some ⟨d, 0, none⟩)) (hb : W.heap[b]? = some (.cells #[c0, c1, c2, c3, c4] 72)) (hd : W.heap[d]? = some (.cells #[e0, e1, e2, e3, e4, e5] 36)) :
  (results fn tmps).run Tryz.prog W = .ok (.tuple #[.agg #[c0, c1, c2, c3, c4], .agg #[e0, e1, e2, e3, e4, e5]]) W := by
 have k0 := blk_cell hb 0
 have k1 := blk_cell hb 1
 have k2 := blk_cell hb 2
 have k3 := blk_cell hb 3
 have k4 := blk_cell hb 4
 have l0 := blk_cell hd 0
 have l1 := blk_cell hd 1
 have l2 := blk_cell hd 2
 have l3 := blk_cell hd 3
 have l4 := blk_cell hd 4
 have l5 := blk_cell hd 5
 simp only [List.getElem?_toArray, List.getElem?_cons_succ, List.getElem?_cons_zero] at k0 k1 k2 k3 k4 l0 l1 l2 l3 l4 l5
 rw [Array.getD_eq_getD_getElem?] at h hq
 simp [results, hres, go_sem, h, hq, k0, k1, k2, k3, k4, l0, l1, l2, l3, l4, l5]
set_option maxRecDepth 100000 in
set_option maxRecDepth 100000 in
set_option maxHeartbeats 2000000 in
theorem rown08_any (C : CloudV) (s : Value) (w : World) (hs : RowOf 11 encBx w s C.boxes) (hn : C.boxes.length ≤ 1000000) :
  Calls Tryz.prog 59 #[.agg (cloudA C s)] w fun e w' => ∃ v, e = .returned (.agg (cloudA C v)) ∧ Owns 11 116 encBx w' w.heap.size v C.boxes ∧ Below w.heap.size w w' := by
 obtain ⟨L, floor, drain, now, tight⟩ := C
 unfold cloudA
 dsimp only at hs hn ⊢
 obtain ⟨i0, hi, hz0, hz1, hz2⟩ := info_parts infoBx
 obtain ⟨a, c, rfl, _, _, _, _⟩ := hs.open
 obtain ⟨W, hW⟩ : ∃ W, W = ((w.alloc (.cells #[.slice a L.length c, .int .i64 floor, .int .i64 drain, .int .i64 now, .bool tight] 72)).alloc (.cells #[.slice none 0 0, .int .i64 0, .int .i64 0, .int .i64 0, .bool false] 72)).alloc (.cells #[] 116) := ⟨_, rfl⟩
 have hB : Below w.heap.size w W := by rw [hW]; exact (((Below.refl _ _).alloc (Nat.le_refl _) _).alloc (by simp) _).alloc (by simp; omega) _
 have hq0 : W.heap[w.heap.size]? = some (.cells #[.slice a L.length c, .int .i64 floor, .int .i64 drain, .int .i64 now, .bool tight] 72) := by rw [hW]; exact blk_alloc (blk_alloc (heap_new _ _) _) _
 have hq1 : W.heap[w.heap.size + 1]? = some (.cells #[.slice none 0 0, .int .i64 0, .int .i64 0, .int .i64 0, .bool false] 72) := by rw [hW]; exact blk_alloc (heap_new2 _ _ _) _
 have hown : Owns 11 116 encBx W (w.heap.size + 2) (.slice (some ⟨w.heap.size + 2, 0, none⟩) 0 0) ([] : List BoxV) := by
  rw [hW]
  have := World.ownsRow_made (e := 116) (size := 11) (base := w.heap.size + 2) ((w.alloc (.cells #[.slice a L.length c, .int .i64 floor, .int .i64 drain, .int .i64 now, .bool tight] 72)).alloc (.cells #[.slice none 0 0, .int .i64 0, .int .i64 0, .int .i64 0, .bool false] 72)) #[] 0 (by simp) (by decide) rfl
  simpa [Owns] using this
 have HS := hid (hs.below hB)
 have HB := hid hB
 have Q0 := hid hq0
 have Q1 := hid hq1
 have HOWN := hid hown
 have hsz : W.heap.size = w.heap.size + 3 := by rw [hW]; simp
 have HSZ := hid hsz
 have c1 : ([] : List BoxV).length + L.length ≤ maxLen := by unfold maxLen; simp; omega
 have c2 : (([] : List BoxV).length + L.length) * 56 ≤ 140737488355328 := by simp; omega
 have c3 : w.heap.size + 2 ≤ W.heap.size := by omega
 have c4 : ∀ o, w.heap.size + 2 ≤ (W.alloc o).heap.size := fun o => by simp; omega
 have C4 := hid c4
 clear hs hB hq0 hq1 hown hsz c4
 go_enter Tryz.func59, Tryz.ntmps59
 subst hW
 go_wp2_with (at_builtin; go_loud (refine append_rows rfl _ _ 70 rfl (w.heap.size + 2) 116 i0 _ 56 Tryz.underlying70 hi hz0 hz1 hz2 rfl (by decide) encBx_len encBx_one _ [] rfl HOWN.out _ L rfl HS.out c1 c2 c3 ?_); intro v' w1 hown hgrow; obtain ⟨va, vn, vc, rfl⟩ := hown.shape; have HOW := hid hown; have HGR := hid hgrow; clear hown hgrow; have G0 := hid (blk_grown Q0.out HGR.out (show some w.heap.size ≠ some (w.heap.size + 2) by simp)); have G1 := hid (blk_grown Q1.out HGR.out (show some (w.heap.size + 1) ≠ some (w.heap.size + 2) by simp)); have y0 : w1.cell? ⟨w.heap.size, 0, none⟩ = some (.slice a L.length c) := blk_cell G0.out 0; have y1 : w1.cell? ⟨w.heap.size, 1, none⟩ = some (.int .i64 floor) := blk_cell G0.out 1; have y2 : w1.cell? ⟨w.heap.size, 2, none⟩ = some (.int .i64 drain) := blk_cell G0.out 2; have y3 : w1.cell? ⟨w.heap.size, 3, none⟩ = some (.int .i64 now) := blk_cell G0.out 3; have y4 : w1.cell? ⟨w.heap.size, 4, none⟩ = some (.bool tight) := blk_cell G0.out 4; have yf : ∀ j, w1.frozen? ⟨w.heap.size, j, none⟩ = false := blk_free G0.out; have yl := blk_lt G0.out; have z0 : w1.cell? ⟨w.heap.size + 1, 0, none⟩ = some (.slice none 0 0) := blk_cell G1.out 0; have z1 : w1.cell? ⟨w.heap.size + 1, 1, none⟩ = some (.int .i64 0) := blk_cell G1.out 1; have z2 : w1.cell? ⟨w.heap.size + 1, 2, none⟩ = some (.int .i64 0) := blk_cell G1.out 2; have z3 : w1.cell? ⟨w.heap.size + 1, 3, none⟩ = some (.int .i64 0) := blk_cell G1.out 3; have z4 : w1.cell? ⟨w.heap.size + 1, 4, none⟩ = some (.bool false) := blk_cell G1.out 4; have zf : ∀ j, w1.frozen? ⟨w.heap.size + 1, j, none⟩ = false := blk_free G1.out; have zl := blk_lt G1.out)
 refine bodyPost_ret (res_cloud rfl rfl (set5 (blk_other G1.out (p := ⟨w.heap.size, 0, none⟩) (by simp) _) _ _ _ _ _)) rfl ?_
 have hg : Below w.heap.size w w1 := HB.out.grown HGR.out (by have := HSZ.out; omega) (fun r e => by cases e; show w.heap.size ≤ w.heap.size + 1 + 1; omega)
 refine ⟨_, rfl, ?_, ?_⟩
 ·have hq := owns5 (Owns.other HOW.out (p := ⟨w.heap.size, 0, none⟩) (by simp) (.slice va vn vc)) (blk_other G1.out (p := ⟨w.heap.size, 0, none⟩) (by simp) (.slice va vn vc)) (.slice va vn vc) (.int .i64 floor) (.int .i64 drain) (.int .i64 now) (.bool tight)
  exact Owns.mono hq (by omega)
 ·exact below5 (hg.setCell (p := ⟨w.heap.size, 0, none⟩) (by simp) _) (by omega) _ _ _ _ _
/-- What Do ends with. -/
def DoEnd (kd call id : Int) (w : World) (e : Ending) (w' : World) : Prop :=
 ∃ (code : Int) (D : CloudV) (v : Value), e = .returned (.tuple #[.agg (cloudA D v), .agg #[.int .i64 call, .int .u8 kd, .int .u8 code, .int .i64 id, .slice none 0 0, .bool false]]) ∧ RowOf 11 encBx w' v D.boxes ∧ Below w.heap.size w w' ∧ OneP kd id code D.boxes
theorem rone08_any (C : CloudV) (s : Value) (kd call id : Int) (hk : kd = 2 ∨ kd = 4 ∨ kd = 5 ∨ kd = 6) (base : Nat) (w : World) (hown : Owns 11 116 encBx w base s C.boxes) (hidx : ∀ (i : Nat) (x : BoxV), C.boxes[i]? = some x → x.id = (i : Int) + 1) (hl : C.boxes.length ≤ 60) (hbase : base ≤ w.heap.size) :
  Calls Tryz.prog 61 #[.agg (cloudA C s), .agg #[.int .u8 kd, .int .i64 call, .int .i64 id, .int .i64 0, .int .i64 0, .int .i64 0]] w (OneEnd C s kd id base w) := by
 rcases hk with rfl | rfl | rfl | rfl
 ·exact rone08_2 C s call id base w hown hidx hl hbase
 ·exact rone08_4 C s call id base w hown hidx hl hbase
 ·exact rone08_5 C s call id base w hown hidx hl hbase
 ·exact rone08_6 C s call id base w hown hidx hl hbase
theorem own_apart {α : Type} {k : Nat} {e t : TypeId} {enc : α → List Value} {W : World} {base T : Nat} {v : Value} {l : List α} {c : Array Value} (h : Owns k e enc W base v l) (hT : W.heap[T]? = some (.cells c t)) (hne : e ≠ t) : v.ownBlock ≠ some T := by
 intro e'
 obtain ⟨_, ⟨rfl, _⟩ | ⟨g, cap, cur, rfl, _, hgc, _⟩⟩ := h
 ·cases e'
 ·have e'' : g = T := by cases e'; rfl
  subst e''
  rw [hgc] at hT
  cases hT
  exact hne rfl
theorem blk_dr {W : World} {b : Nat} {o : Obj} (h : W.heap[b]? = some o) : W.drew.heap[b]? = some o := h
theorem do_out {W w : World} {base b d : Nat} {s u1 u2 u3 u4 u5 u6 : Value} {C : CloudV} {kd call id code : Int} {c d' : Array Value} (hb : W.heap[b]? = some (.cells c 72)) (hd : W.heap[d]? = some (.cells d' 36)) (h1 : w.heap.size ≤ b) (h2 : w.heap.size ≤ d) (ho : Owns 11 116 encBx W base s C.boxes) (hB : Below w.heap.size w W) (hp : OneP kd id code C.boxes) :
  DoEnd kd call id w (.returned (.tuple #[.agg #[s, .int .i64 C.floor, .int .i64 C.drain, .int .i64 C.now, .bool C.tight], .agg #[.int .i64 call, .int .u8 kd, .int .u8 code, .int .i64 id, .slice none 0 0, .bool false]])) ((((((((((((W.setCell ⟨b, 0, none⟩ s).setCell ⟨b, 1, none⟩ u1).setCell ⟨b, 2, none⟩ u2).setCell ⟨b, 3, none⟩ u3).setCell ⟨b, 4, none⟩ u4).setCell ⟨d, 0, none⟩ u5).setCell ⟨d, 1, none⟩ u6).setCell ⟨d, 2, none⟩ (.int .u8 code)).setCell ⟨d, 3, none⟩ (.int .i64 id)).setCell ⟨d, 4, none⟩ (.slice none 0 0)).setCell ⟨d, 5, none⟩ (.bool false)).drew) := by
 obtain ⟨L, floor, drain, now, tight⟩ := C
 dsimp only at ho hp ⊢
 refine ⟨code, ⟨L, floor, drain, now, tight⟩, s, rfl, ?_, ?_, hp⟩
 ·refine Owns.row (e := 116) (base := base) (owns_drew ?_) encBx_len (by decide)
  have n : ∀ t, ∀ g, s.ownBlock = some g → ∀ e, W.heap[e]? = some (.cells t 72) → g ≠ e := fun t g hg e he h => by
   subst h
   exact own_apart ho he (by decide) hg
  have m : ∀ t, ∀ g, s.ownBlock = some g → ∀ e, W.heap[e]? = some (.cells t 36) → g ≠ e := fun t g hg e he h => by
   subst h
   exact own_apart ho he (by decide) hg
  have N := fun g hg => n c g hg b hb
  have M := fun g hg => m d' g hg d hd
  exact owns_ne (owns_ne (owns_ne (owns_ne (owns_ne (owns_ne (owns_ne (owns_ne (owns_ne (owns_ne (owns_ne ho N 0 _) N 1 _) N 2 _) N 3 _) N 4 _) M 0 _) M 1 _) M 2 _) M 3 _) M 4 _) M 5 _
 ·have hq := below5 hB h1 s u1 u2 u3 u4
  exact below_drewN ((((((hq.setCell (p := ⟨d, 0, none⟩) h2 u5).setCell (p := ⟨d, 1, none⟩) h2 u6).setCell (p := ⟨d, 2, none⟩) h2 (.int .u8 code)).setCell (p := ⟨d, 3, none⟩) h2 (.int .i64 id)).setCell (p := ⟨d, 4, none⟩) h2 (.slice none 0 0)).setCell (p := ⟨d, 5, none⟩) h2 (.bool false)) 1
theorem set6 {W : World} {b : Nat} {a0 a1 a2 a3 a4 a5 : Value} {t : TypeId} (h : W.heap[b]? = some (.cells #[a0, a1, a2, a3, a4, a5] t)) (x0 x1 x2 x3 x4 x5 : Value) :
  ((((((W.setCell ⟨b, 0, none⟩ x0).setCell ⟨b, 1, none⟩ x1).setCell ⟨b, 2, none⟩ x2).setCell ⟨b, 3, none⟩ x3).setCell ⟨b, 4, none⟩ x4).setCell ⟨b, 5, none⟩ x5).heap[b]? = some (.cells #[x0, x1, x2, x3, x4, x5] t) := blk_set (blk_set (blk_set (blk_set (blk_set (blk_set h 0 _) 1 _) 2 _) 3 _) 4 _) 5 _
theorem far6 {W : World} {b d : Nat} {o : Obj} (h : W.heap[d]? = some o) (hne : d ≠ b) (x0 x1 x2 x3 x4 x5 : Value) :
  ((((((W.setCell ⟨b, 0, none⟩ x0).setCell ⟨b, 1, none⟩ x1).setCell ⟨b, 2, none⟩ x2).setCell ⟨b, 3, none⟩ x3).setCell ⟨b, 4, none⟩ x4).setCell ⟨b, 5, none⟩ x5).heap[d]? = some o := blk_other (blk_other (blk_other (blk_other (blk_other (blk_other h hne _) hne _) hne _) hne _) hne _) hne _
theorem far5 {W : World} {b d : Nat} {o : Obj} (h : W.heap[d]? = some o) (hne : d ≠ b) (x0 x1 x2 x3 x4 : Value) :
  (((((W.setCell ⟨b, 0, none⟩ x0).setCell ⟨b, 1, none⟩ x1).setCell ⟨b, 2, none⟩ x2).setCell ⟨b, 3, none⟩ x3).setCell ⟨b, 4, none⟩ x4).heap[d]? = some o := blk_other (blk_other (blk_other (blk_other (blk_other h hne _) hne _) hne _) hne _) hne _
set_option maxRecDepth 100000 in
set_option maxHeartbeats 4000000 in
theorem rdo08_any (C : CloudV) (s : Value) (kd call id : Int) (hk : kd = 2 ∨ kd = 4 ∨ kd = 5 ∨ kd = 6) (w : World) (hs : RowOf 11 encBx w s C.boxes) (hC : CloudR C) :
  Calls Tryz.prog 30 #[.agg (cloudA C s), .agg #[.int .u8 kd, .int .i64 call, .int .i64 id, .int .i64 0, .int .i64 0, .int .i64 0]] w (DoEnd kd call id w) := by
 have HKK := hid hk
 have hcase : ((kd == 2) = true ∧ (kd == 3) = false ∧ (kd == 4) = false ∧ (kd == 5) = false ∧ (kd == 6) = false) ∨ ((kd == 2) = false ∧ (kd == 3) = false ∧ (kd == 4) = true ∧ (kd == 5) = false ∧ (kd == 6) = false) ∨ ((kd == 2) = false ∧ (kd == 3) = false ∧ (kd == 4) = false ∧ (kd == 5) = true ∧ (kd == 6) = false) ∨ ((kd == 2) = false ∧ (kd == 3) = false ∧ (kd == 4) = false ∧ (kd == 5) = false ∧ (kd == 6) = true) := by
  rcases hk with rfl | rfl | rfl | rfl <;> simp
 have HCASE := hid hcase
 clear hcase
 have e1 : (kd == 1) = false := by rcases hk with rfl | rfl | rfl | rfl <;> rfl
 have HCR := hid hC
 obtain ⟨L, floor, drain, now, tight⟩ := C
 unfold cloudA
 dsimp only at hs ⊢
 obtain ⟨a, c, rfl, _, _, _, _⟩ := hs.open
 obtain ⟨W1, hW1⟩ : ∃ W, W = (((w.alloc (.cells #[.slice a L.length c, .int .i64 floor, .int .i64 drain, .int .i64 now, .bool tight] 72)).alloc (.cells #[.int .u8 kd, .int .i64 call, .int .i64 id, .int .i64 0, .int .i64 0, .int .i64 0] 80)).alloc (.cells #[.slice none 0 0, .int .i64 0, .int .i64 0, .int .i64 0, .bool false] 72)).alloc (.cells #[.int .i64 0, .int .u8 0, .int .u8 0, .int .i64 0, .slice none 0 0, .bool false] 36) := ⟨_, rfl⟩
 have hB : Below w.heap.size w W1 := by rw [hW1]; exact ((((Below.refl _ _).alloc (Nat.le_refl _) _).alloc (by simp) _).alloc (by simp; omega) _).alloc (by simp; omega) _
 have N21 := hid (show W1.heap[w.heap.size]? = some (.cells #[.slice a L.length c, .int .i64 floor, .int .i64 drain, .int .i64 now, .bool tight] 72) by rw [hW1]; exact blk_alloc (blk_alloc (blk_alloc (heap_new _ _) _) _) _)
 have N31 := hid (show W1.heap[w.heap.size + 1]? = some (.cells #[.int .u8 kd, .int .i64 call, .int .i64 id, .int .i64 0, .int .i64 0, .int .i64 0] 80) by rw [hW1]; exact blk_alloc (blk_alloc (heap_new2 _ _ _) _) _)
 have N41 := hid (show W1.heap[w.heap.size + 1 + 1]? = some (.cells #[.slice none 0 0, .int .i64 0, .int .i64 0, .int .i64 0, .bool false] 72) by rw [hW1]; exact blk_alloc (by simpa using heap_new2 (w.alloc _) _ _) _)
 have N51 := hid (show W1.heap[w.heap.size + 1 + 1 + 1]? = some (.cells #[.int .i64 0, .int .u8 0, .int .u8 0, .int .i64 0, .slice none 0 0, .bool false] 36) by rw [hW1]; simpa using heap_new2 ((w.alloc _).alloc _) _ _)
 have HB1 := hid hB
 have HO := hid (rown08_any ⟨L, floor, drain, now, tight⟩ (.slice a L.length c) W1 (hs.below hB) (by have := HCR.out.len; dsimp only at this ⊢; omega))
 unfold cloudA at HO
 dsimp only at HO
 clear hs hC hB hk
 go_enter Tryz.func30, Tryz.ntmps30
 go_upto_region 1 with (fail)
 rw [← hW1]
 clear hW1
 obtain ⟨q0, q1, q2, q3, q4, qf, ql⟩ := blk5 N21.out
 go_wp2_with fail
 clear q0 q1 q2 q3 q4 qf ql
 refine HO.out.mono ?_
 rintro e W2 ⟨v, rfl, ho, hb⟩
 obtain ⟨va, vn, vc, rfl⟩ := ho.shape
 have N22 := hid (blk_below N21.out hb (blk_lt N21.out))
 have N32 := hid (blk_below N31.out hb (blk_lt N31.out))
 have N42 := hid (blk_below N41.out hb (blk_lt N41.out))
 have N52 := hid (blk_below N51.out hb (blk_lt N51.out))
 have HB2 := hid (HB1.out.trans (hb.mono HB1.out.size))
 have O2 := hid ho
 have HSB2 := hid hb.size
 clear ho hb HO
 obtain ⟨q0, q1, q2, q3, q4, qf, ql⟩ := blk5 N22.out
 go_upto_region 2 with (fail)
 clear q0 q1 q2 q3 q4 qf ql
 obtain ⟨W3, hW3⟩ : ∃ W, W = (((((W2.setCell ⟨w.heap.size, 0, none⟩ (.slice va vn vc)).setCell ⟨w.heap.size, 1, none⟩ (.int .i64 floor)).setCell ⟨w.heap.size, 2, none⟩ (.int .i64 drain)).setCell ⟨w.heap.size, 3, none⟩ (.int .i64 now)).setCell ⟨w.heap.size, 4, none⟩ (.bool tight)) := ⟨_, rfl⟩
 have N23 := hid (show W3.heap[w.heap.size]? = some (.cells #[.slice va vn vc, .int .i64 floor, .int .i64 drain, .int .i64 now, .bool tight] 72) by rw [hW3]; exact set5 N22.out _ _ _ _ _)
 have N33 := hid (show W3.heap[w.heap.size + 1]? = some (.cells #[.int .u8 kd, .int .i64 call, .int .i64 id, .int .i64 0, .int .i64 0, .int .i64 0] 80) by rw [hW3]; exact far5 N32.out (by omega) _ _ _ _ _)
 have N43 := hid (show W3.heap[w.heap.size + 1 + 1]? = some (.cells #[.slice none 0 0, .int .i64 0, .int .i64 0, .int .i64 0, .bool false] 72) by rw [hW3]; exact far5 N42.out (by omega) _ _ _ _ _)
 have N53 := hid (show W3.heap[w.heap.size + 1 + 1 + 1]? = some (.cells #[.int .i64 0, .int .u8 0, .int .u8 0, .int .i64 0, .slice none 0 0, .bool false] 36) by rw [hW3]; exact far5 N52.out (by omega) _ _ _ _ _)
 have HB3 := hid (show Below w.heap.size w W3 by rw [hW3]; exact below5 HB2.out (Nat.le_refl _) _ _ _ _ _)
 have O3 := hid (show Owns 11 116 encBx W3 W1.heap.size (.slice va vn vc) L by rw [hW3]; exact owns5 O2.out N22.out _ _ _ _ _)
 have HSB3 := hid (show W1.heap.size ≤ W3.heap.size by rw [hW3]; simpa [World.setCell] using HSB2.out)
 rw [← hW3]
 clear hW3
 obtain ⟨a0, a1, a2, _, _, _, af, al⟩ := blk6 N33.out
 go_upto_region 5 with (fail)
 clear a0 a1 a2 af al
 obtain ⟨W4, hW4⟩ : ∃ W, W = W3.alloc (.cells #[.int .i64 call, .int .u8 kd, .int .u8 3, .int .i64 id, .slice none 0 0, .bool false] 36) := ⟨_, rfl⟩
 have hb : Below W3.heap.size W3 W4 := by rw [hW4]; exact (Below.refl _ _).alloc (Nat.le_refl _) _
 have N24 := hid (blk_below N23.out hb (blk_lt N23.out))
 have N34 := hid (blk_below N33.out hb (blk_lt N33.out))
 have N44 := hid (blk_below N43.out hb (blk_lt N43.out))
 have N54 := hid (blk_below N53.out hb (blk_lt N53.out))
 have HB4 := hid (HB3.out.trans (hb.mono HB3.out.size))
 have N64 := hid (show W4.heap[W3.heap.size]? = some (.cells #[.int .i64 call, .int .u8 kd, .int .u8 3, .int .i64 id, .slice none 0 0, .bool false] 36) by rw [hW4]; exact heap_new _ _)
 have O4 := hid (Owns.below O3.out hb)
 have HSB4 := hid (Nat.le_trans HSB3.out hb.size)
 rw [← hW4]
 obtain ⟨T6, hT⟩ : ∃ T, W3.heap.size = T := ⟨_, rfl⟩
 have HT6 := hid (show w.heap.size + 1 + 1 + 1 < T6 from hT ▸ blk_lt N53.out)
 rw [hT] at N64 ⊢
 clear hb hW4 hT
 have HR := hid (rright08_any ⟨L, floor, drain, now, tight⟩ (.slice va vn vc) true (by simp [HCR.out]) W4 (O4.out.row encBx_len (by decide)))
 unfold cloudA at HR
 dsimp only at HR
 obtain ⟨q0, q1, q2, q3, q4, qf, ql⟩ := blk5 N24.out
 go_wp2_with fail
 clear q0 q1 q2 q3 q4 qf ql
 refine HR.out.mono ?_
 rintro e W5 ⟨rfl, hb⟩
 have N25 := hid (blk_below N24.out hb (blk_lt N24.out))
 have N35 := hid (blk_below N34.out hb (blk_lt N34.out))
 have N45 := hid (blk_below N44.out hb (blk_lt N44.out))
 have N55 := hid (blk_below N54.out hb (blk_lt N54.out))
 have N65 := hid (blk_below N64.out hb (blk_lt N64.out))
 have HB5 := hid (HB4.out.trans (hb.mono HB4.out.size))
 have HSB := hid (Nat.le_trans HSB4.out hb.size)
 have O5 := hid (Owns.below O4.out hb)
 clear hb HR
 rcases HCASE.out with ⟨e2, e3, e4, e5, e6⟩ | ⟨e2, e3, e4, e5, e6⟩ | ⟨e2, e3, e4, e5, e6⟩ | ⟨e2, e3, e4, e5, e6⟩
 all_goals
  have HON := hid (rone08_any ⟨L, floor, drain, now, tight⟩ (.slice va vn vc) kd call id HKK.out W1.heap.size W5 O5.out (fun i x hx => boxB_id (HCR.out.box i x hx)) HCR.out.len HSB.out)
  unfold cloudA at HON
  dsimp only at HON
  obtain ⟨q0, q1, q2, q3, q4, qf, ql⟩ := blk5 N25.out
  obtain ⟨a0, a1, a2, a3, a4, a5, af, al⟩ := blk6 N35.out
  go_wp2_with fail
  clear q0 q1 q2 q3 q4 qf ql a0 a1 a2 a3 a4 a5 af al
  refine HON.out.mono ?_
  rintro e W6 ⟨code, D, rfl, ho, hb, hk, hp⟩
  unfold cloudA
  dsimp only
  have N26 := hid ((hk _ (blk_lt N25.out) (own_apart O5.out N25.out (by decide))).trans N25.out)
  have N46 := hid ((hk _ (blk_lt N45.out) (own_apart O5.out N45.out (by decide))).trans N45.out)
  have N56 := hid ((hk _ (blk_lt N55.out) (own_apart O5.out N55.out (by decide))).trans N55.out)
  have N66 := hid ((hk _ (blk_lt N65.out) (own_apart O5.out N65.out (by decide))).trans N65.out)
  have HB6 := hid (HB5.out.trans (hb.mono HB1.out.size))
  have O6 := hid ho
  have HP := hid hp
  clear ho hb hk hp HON
  obtain ⟨q0, q1, q2, q3, q4, qf, ql⟩ := blk5 N26.out
  obtain ⟨t0, t1, t2, t3, t4, t5, tf, tl⟩ := blk6 N66.out
  have hT6 := HT6.out
  go_upto_region 16 with (fail)
  clear q0 q1 q2 q3 q4 qf ql t0 t1 t2 t3 t4 t5 tf tl hT6
  obtain ⟨W7, hW7⟩ : ∃ W, W = (((((W6.setCell ⟨w.heap.size, 0, none⟩ (.slice va vn vc)).setCell ⟨w.heap.size, 1, none⟩ (.int .i64 floor)).setCell ⟨w.heap.size, 2, none⟩ (.int .i64 drain)).setCell ⟨w.heap.size, 3, none⟩ (.int .i64 now)).setCell ⟨w.heap.size, 4, none⟩ (.bool tight)).setCell ⟨T6, 2, none⟩ (.int .u8 code) := ⟨_, rfl⟩
  have N27 := hid (show W7.heap[w.heap.size]? = some (.cells #[.slice va vn vc, .int .i64 floor, .int .i64 drain, .int .i64 now, .bool tight] 72) by rw [hW7]; exact blk_other (set5 N26.out _ _ _ _ _) (by have := HT6.out; simp; omega) _)
  have N47 := hid (show W7.heap[w.heap.size + 1 + 1]? = some (.cells #[.slice none 0 0, .int .i64 0, .int .i64 0, .int .i64 0, .bool false] 72) by rw [hW7]; exact blk_other (far5 N46.out (by omega) _ _ _ _ _) (by have := HT6.out; simp; omega) _)
  have N57 := hid (show W7.heap[w.heap.size + 1 + 1 + 1]? = some (.cells #[.int .i64 0, .int .u8 0, .int .u8 0, .int .i64 0, .slice none 0 0, .bool false] 36) by rw [hW7]; exact blk_other (far5 N56.out (by omega) _ _ _ _ _) (by have := HT6.out; simp; omega) _)
  have N67 := hid (show W7.heap[T6]? = some (.cells #[.int .i64 call, .int .u8 kd, .int .u8 code, .int .i64 id, .slice none 0 0, .bool false] 36) by rw [hW7]; exact blk_set (far5 N66.out (by have := HT6.out; omega) _ _ _ _ _) 2 _)
  have HB7 := hid (show Below w.heap.size w W7 by rw [hW7]; exact (below5 HB6.out (Nat.le_refl _) _ _ _ _ _).setCell (p := ⟨T6, 2, none⟩) (by have := HT6.out; simp; omega) _)
  have O7 := hid (show Owns 11 116 encBx W7 W1.heap.size (.slice va vn vc) D by rw [hW7]; exact owns_at (owns5 O6.out N26.out _ _ _ _ _) (far5 N66.out (by have := HT6.out; omega) _ _ _ _ _) (by decide) 2 _)
  rw [← hW7]
  clear hW7
  obtain ⟨q0, q1, q2, q3, q4, qf, ql⟩ := blk5 N27.out
  obtain ⟨t0, t1, t2, t3, t4, t5, tf, tl⟩ := blk6 N67.out
  obtain ⟨e0, e1, e2, e3, e4, ef, el⟩ := blk5 N47.out
  obtain ⟨f0, f1, f2, f3, f4, f5, ff, fl⟩ := blk6 N57.out
  have hT6 := HT6.out
  go_region
  go_wp2
  refine bodyPost_ret (res_do rfl rfl rfl (blk_dr (far6 (set5 N47.out _ _ _ _ _) (by omega) _ _ _ _ _ _)) (blk_dr (set6 (far5 N57.out (by omega) _ _ _ _ _) _ _ _ _ _ _))) rfl ?_
  exact do_out (C := ⟨D, floor, drain, now, tight⟩) N47.out N57.out (by omega) (by omega) O7.out HB7.out HP.out
end Go.Proofs.YthhgpiolcnojfaaGreatDoor
