/- Clouds in memory; herdref08.number, box, Right, Find. Printed by gn_clo.py. -/
import Derived.Test.YtgcajfglidflnaaGreatDoorGrr
import Derived.Lib.QuietBelow
import Derived.BigQuiet
namespace Go.Proofs.YtgcajfglidflnaaGreatDoor
open Go.RowKit Go.Shelf

theorem blk5 {W : World} {b : Nat} {c0 c1 c2 c3 c4 : Value} {t : TypeId} (h : W.heap[b]? = some (.cells #[c0, c1, c2, c3, c4] t)) : W.cell? ⟨b, 0, none⟩ = some c0 ∧ W.cell? ⟨b, 1, none⟩ = some c1 ∧ W.cell? ⟨b, 2, none⟩ = some c2 ∧ W.cell? ⟨b, 3, none⟩ = some c3 ∧ W.cell? ⟨b, 4, none⟩ = some c4 ∧ (∀ j, W.frozen? ⟨b, j, none⟩ = false) ∧ b < W.heap.size :=
 ⟨blk_cell h 0, blk_cell h 1, blk_cell h 2, blk_cell h 3, blk_cell h 4, blk_free h, blk_lt h⟩
theorem blk6 {W : World} {b : Nat} {c0 c1 c2 c3 c4 c5 : Value} {t : TypeId} (h : W.heap[b]? = some (.cells #[c0, c1, c2, c3, c4, c5] t)) : W.cell? ⟨b, 0, none⟩ = some c0 ∧ W.cell? ⟨b, 1, none⟩ = some c1 ∧ W.cell? ⟨b, 2, none⟩ = some c2 ∧ W.cell? ⟨b, 3, none⟩ = some c3 ∧ W.cell? ⟨b, 4, none⟩ = some c4 ∧ W.cell? ⟨b, 5, none⟩ = some c5 ∧ (∀ j, W.frozen? ⟨b, j, none⟩ = false) ∧ b < W.heap.size :=
 ⟨blk_cell h 0, blk_cell h 1, blk_cell h 2, blk_cell h 3, blk_cell h 4, blk_cell h 5, blk_free h, blk_lt h⟩
structure BoxV where
 id : Int
 token : Int
 version : Int
 zone : Int
 tag : Bool
 on : Bool
 gone : Bool
 well : Bool
 lb : Int
 til : Int
 fence : Int
def encBx (x : BoxV) : List Value := [.int .i64 x.id, .int .i64 x.token, .int .i64 x.version, .int .i64 x.zone, .bool x.tag, .bool x.on, .bool x.gone, .bool x.well, .int .u8 x.lb, .int .i64 x.til, .int .i64 x.fence]
theorem encBx_len (x : BoxV) : (encBx x).length = 11 := rfl
structure CloudV where
 boxes : List BoxV
 floor : Int
 drain : Int
 now : Int
 tight : Bool
def cloudA (C : CloudV) (s : Value) : Array Value := #[s, .int .i64 C.floor, .int .i64 C.drain, .int .i64 C.now, .bool C.tight]
def numP (n : Int) : Bool := decide (0 ≤ n) && decide (n ≤ 1099511627776)
def boxB (x : BoxV) (i : Nat) : Bool := x.id == (i : Int) + 1 && (numP x.token && (numP x.version && (numP x.zone && (!decide (2 < x.lb) && (!(x.gone && (x.on || x.lb != 0)) && (x.on || x.lb == 0))))))
def tokP (x y : BoxV) : Bool := decide (0 < x.token) && y.token == x.token
/-- A cloud that may be. -/
structure CloudR (C : CloudV) : Prop where
 len : C.boxes.length ≤ 60
 floor : numP C.floor = true
 drain : numP C.drain = true
 now : numP C.now = true
 box : ∀ (i : Nat) (x : BoxV), C.boxes[i]? = some x → boxB x i = true
 tok : ∀ (i j : Nat) (x y : BoxV), C.boxes[i]? = some x → C.boxes[j]? = some y → j < i → tokP x y = false
theorem boxB_id {x : BoxV} {i : Nat} (h : boxB x i = true) : x.id = (i : Int) + 1 := by
 unfold boxB at h
 rw [Bool.and_eq_true] at h
 simpa using h.1
theorem rowBx {w : World} {b off : Nat} {l : List BoxV} (h : RowAt 11 encBx w b off l) {i : Nat} {x : BoxV} (hi : l[i]? = some x) :
  w.cell? ⟨b, off + i * 11, none⟩ = some (.int .i64 x.id) ∧ w.cell? ⟨b, off + i * 11 + 1, none⟩ = some (.int .i64 x.token) ∧ w.cell? ⟨b, off + i * 11 + 2, none⟩ = some (.int .i64 x.version) ∧ w.cell? ⟨b, off + i * 11 + 3, none⟩ = some (.int .i64 x.zone) ∧
  w.cell? ⟨b, off + i * 11 + 4, none⟩ = some (.bool x.tag) ∧ w.cell? ⟨b, off + i * 11 + 5, none⟩ = some (.bool x.on) ∧ w.cell? ⟨b, off + i * 11 + 6, none⟩ = some (.bool x.gone) ∧ w.cell? ⟨b, off + i * 11 + 7, none⟩ = some (.bool x.well) ∧ w.cell? ⟨b, off + i * 11 + 8, none⟩ = some (.int .u8 x.lb) ∧ w.cell? ⟨b, off + i * 11 + 9, none⟩ = some (.int .i64 x.til) ∧ w.cell? ⟨b, off + i * 11 + 10, none⟩ = some (.int .i64 x.fence) :=
 ⟨h i x hi 0 _ rfl, h i x hi 1 _ rfl, h i x hi 2 _ rfl, h i x hi 3 _ rfl, h i x hi 4 _ rfl, h i x hi 5 _ rfl, h i x hi 6 _ rfl, h i x hi 7 _ rfl, h i x hi 8 _ rfl, h i x hi 9 _ rfl, h i x hi 10 _ rfl⟩

theorem rnum08_any (n : Int) (q : Bool) (hq : numP n = q) (w : World) : Calls Tryz.prog 15 #[.int .i64 n] w fun e w' => e = .returned (.bool q) ∧ w = w' := by
 rw [← hq]
 by_cases h1 : 0 ≤ n
 ·have d1 : decide (0 ≤ n) = true := by simpa using h1
  have e0 : numP n = decide (n ≤ 1099511627776) := by simp [numP, h1]
  rw [e0]
  go_enter Tryz.func15, Tryz.ntmps15
  go_wp2
  go_ret
  exact ⟨rfl, rfl⟩
 ·have d1 : decide (0 ≤ n) = false := by simpa using h1
  have e0 : numP n = false := by simp [numP]; omega
  rw [e0]
  go_enter Tryz.func15, Tryz.ntmps15
  go_wp2
  go_ret
  exact ⟨rfl, rfl⟩
set_option maxHeartbeats 4000000 in
theorem rbox08_any (x : BoxV) (i : Nat) (q : Bool) (hq : boxB x i = q) (hi : i ≤ 1000) (w : World) : Calls Tryz.prog 16 #[.agg #[.int .i64 x.id, .int .i64 x.token, .int .i64 x.version, .int .i64 x.zone, .bool x.tag, .bool x.on, .bool x.gone, .bool x.well, .int .u8 x.lb, .int .i64 x.til, .int .i64 x.fence], .int .i64 (i : Int)] w fun e w' => e = .returned (.bool q) ∧ Below w.heap.size w w' := by
 obtain ⟨id, token, version, zone, tag, on, gone, well, lb, til, fence⟩ := x
 obtain ⟨bi, hbi⟩ : ∃ b, (id == (i : Int) + 1) = b := ⟨_, rfl⟩
 obtain ⟨bt, hbt⟩ : ∃ b, numP token = b := ⟨_, rfl⟩
 obtain ⟨bv, hbv⟩ : ∃ b, numP version = b := ⟨_, rfl⟩
 obtain ⟨bz, hbz⟩ : ∃ b, numP zone = b := ⟨_, rfl⟩
 obtain ⟨bl, hbl⟩ : ∃ b, decide (2 < lb) = b := ⟨_, rfl⟩
 obtain ⟨b0, hb0⟩ : ∃ b, (lb == 0) = b := ⟨_, rfl⟩
 have hb1 : (lb != 0) = !b0 := by rw [← hb0]; rfl
 have hw : (id != wrap64 ((i : Int) + 1)) = !bi := by rw [show wrap64 ((i : Int) + 1) = (i : Int) + 1 by unfold wrap64; omega, ← hbi]; rfl
 unfold boxB at hq
 dsimp only at hq ⊢
 rw [hbi, hbt, hbv, hbz, hbl, hb0, hb1] at hq
 have HQ := hid hq
 have HT := hid (rnum08_any token bt hbt)
 have HV := hid (rnum08_any version bv hbv)
 have HZ := hid (rnum08_any zone bz hbz)
 clear hq hbi hbt hbv hbz hi
 obtain ⟨W1, hW1⟩ : ∃ W1, W1 = w.alloc (.cells #[.int .i64 id, .int .i64 token, .int .i64 version, .int .i64 zone, .bool tag, .bool on, .bool gone, .bool well, .int .u8 lb, .int .i64 til, .int .i64 fence] 60) := ⟨_, rfl⟩
 have n1 : W1.heap[w.heap.size]? = some (.cells #[.int .i64 id, .int .i64 token, .int .i64 version, .int .i64 zone, .bool tag, .bool on, .bool gone, .bool well, .int .u8 lb, .int .i64 til, .int .i64 fence] 60) := by rw [hW1]; exact heap_new _ _
 have HB := hid (show Below w.heap.size w W1 by rw [hW1]; exact (Below.refl _ _).alloc (Nat.le_refl _) _)
 have c0 : W1.cell? ⟨w.heap.size, 0, none⟩ = some (.int .i64 id) := blk_cell n1 0
 have c1 : W1.cell? ⟨w.heap.size, 1, none⟩ = some (.int .i64 token) := blk_cell n1 1
 have c2 : W1.cell? ⟨w.heap.size, 2, none⟩ = some (.int .i64 version) := blk_cell n1 2
 have c3 : W1.cell? ⟨w.heap.size, 3, none⟩ = some (.int .i64 zone) := blk_cell n1 3
 have c5 : W1.cell? ⟨w.heap.size, 5, none⟩ = some (.bool on) := blk_cell n1 5
 have c6 : W1.cell? ⟨w.heap.size, 6, none⟩ = some (.bool gone) := blk_cell n1 6
 have c8 : W1.cell? ⟨w.heap.size, 8, none⟩ = some (.int .u8 lb) := blk_cell n1 8
 have cl := blk_lt n1
 clear n1
 go_enter Tryz.func16, Tryz.ntmps16
 go_upto_region 1 with (fail)
 rw [← hW1]
 clear hW1
 cases bi with
 | false =>
  obtain rfl : q = false := by rw [← HQ.out]; rfl
  go_wp2
  go_ret
  exact ⟨rfl, HB.out⟩
 | true =>
  go_wp2_with fail
  refine (HT.out W1).mono ?_
  rintro e _ ⟨rfl, rfl⟩
  cases bt with
  | false =>
   obtain rfl : q = false := by rw [← HQ.out]; rfl
   go_wp2
   go_ret
   exact ⟨rfl, HB.out⟩
  | true =>
   go_wp2_with fail
   refine (HV.out W1).mono ?_
   rintro e _ ⟨rfl, rfl⟩
   cases bv with
   | false =>
    obtain rfl : q = false := by rw [← HQ.out]; rfl
    go_wp2
    go_ret
    exact ⟨rfl, HB.out⟩
   | true =>
    go_wp2_with fail
    refine (HZ.out W1).mono ?_
    rintro e _ ⟨rfl, rfl⟩
    cases bz with
    | false =>
     obtain rfl : q = false := by rw [← HQ.out]; rfl
     go_wp2
     go_ret
     exact ⟨rfl, HB.out⟩
    | true =>
     cases bl with
     | true =>
      obtain rfl : q = false := by rw [← HQ.out]; rfl
      go_wp2
      go_ret
      exact ⟨rfl, HB.out⟩
     | false =>
      cases b0 with
      | true =>
       have HE := hid (show q = !(gone && on) by rw [← HQ.out]; cases gone <;> cases on <;> rfl)
       clear HQ
       cases on with
       | true =>
        cases gone with
        | true =>
         obtain rfl : q = false := HE.out
         go_wp2
         go_ret
         exact ⟨rfl, HB.out⟩
        | false =>
         obtain rfl : q = true := HE.out
         go_wp2
         go_ret
         exact ⟨rfl, HB.out⟩
       | false =>
        obtain rfl : q = true := by rw [HE.out]; cases gone <;> rfl
        cases gone with
        | true =>
         go_wp2
         go_ret
         exact ⟨rfl, HB.out⟩
        | false =>
         go_wp2
         go_ret
         exact ⟨rfl, HB.out⟩
      | false =>
       have HE := hid (show q = (!gone && on) by rw [← HQ.out]; cases gone <;> cases on <;> rfl)
       clear HQ
       cases gone with
       | true =>
        obtain rfl : q = false := HE.out
        cases on with
        | true =>
         go_wp2
         go_ret
         exact ⟨rfl, HB.out⟩
        | false =>
         go_wp2
         go_ret
         exact ⟨rfl, HB.out⟩
       | false =>
        obtain rfl : q = on := HE.out
        cases q with
        | true =>
         go_wp2
         go_ret
         exact ⟨rfl, HB.out⟩
        | false =>
         go_wp2
         go_ret
         exact ⟨rfl, HB.out⟩
set_option maxHeartbeats 4000000 in
theorem rright08_any (C : CloudV) (s : Value) (q : Bool) (hq : q = true ↔ CloudR C) (w : World) (hs : RowOf 11 encBx w s C.boxes) : Calls Tryz.prog 6 #[.agg (cloudA C s)] w fun e w' => e = .returned (.bool q) ∧ Below w.heap.size w w' := by
 obtain ⟨L, floor, drain, now, tight⟩ := C
 unfold cloudA
 dsimp only at hs ⊢
 obtain ⟨a, c, rfl, _, _, _, hop⟩ := hs.open
 have HOP := hid hop
 obtain ⟨bf, hbf⟩ : ∃ b, numP floor = b := ⟨_, rfl⟩
 obtain ⟨bd, hbd⟩ : ∃ b, numP drain = b := ⟨_, rfl⟩
 obtain ⟨bn, hbn⟩ : ∃ b, numP now = b := ⟨_, rfl⟩
 have HF := hid (rnum08_any floor bf hbf)
 have HD := hid (rnum08_any drain bd hbd)
 have HN := hid (rnum08_any now bn hbn)
 have HQ := hid hq
 have EF := hid hbf
 have ED := hid hbd
 have EN := hid hbn
 obtain ⟨W1, hW1⟩ : ∃ W1, W1 = w.alloc (.cells #[.slice a L.length c, .int .i64 floor, .int .i64 drain, .int .i64 now, .bool tight] 24) := ⟨_, rfl⟩
 have n1 : W1.heap[w.heap.size]? = some (.cells #[.slice a L.length c, .int .i64 floor, .int .i64 drain, .int .i64 now, .bool tight] 24) := by rw [hW1]; exact heap_new _ _
 have HB := hid (show Below w.heap.size w W1 by rw [hW1]; exact (Below.refl _ _).alloc (Nat.le_refl _) _)
 have c0 : W1.cell? ⟨w.heap.size, 0, none⟩ = some (.slice a L.length c) := blk_cell n1 0
 have c1 : W1.cell? ⟨w.heap.size, 1, none⟩ = some (.int .i64 floor) := blk_cell n1 1
 have c2 : W1.cell? ⟨w.heap.size, 2, none⟩ = some (.int .i64 drain) := blk_cell n1 2
 have c3 : W1.cell? ⟨w.heap.size, 3, none⟩ = some (.int .i64 now) := blk_cell n1 3
 have cl := blk_lt n1
 have N1 := hid n1
 clear n1 hbf hbd hbn hq hop hs
 go_enter Tryz.func6, Tryz.ntmps6
 go_upto_region 1 with (fail)
 rw [← hW1]
 clear hW1
 by_cases h60 : 60 < L.length
 ·have d60 : decide ((60 : Int) < (L.length : Int)) = true := decide_eq_true (by omega)
  have HE := hid (show q = false by
   cases q with
   | false => rfl
   | true => have := (HQ.out.1 rfl).len; dsimp only at this; omega)
  obtain rfl : q = false := HE.out
  clear h60
  go_wp2
  go_ret
  exact ⟨rfl, HB.out⟩
 ·have d60 : decide ((60 : Int) < (L.length : Int)) = false := decide_eq_false (by omega)
  have H60 := hid (show L.length ≤ 60 by omega)
  clear h60
  go_wp2_with fail
  refine (HF.out W1).mono ?_
  rintro e _ ⟨rfl, rfl⟩
  cases bf with
  | false =>
   have HE := hid (show q = false by
    cases q with
    | false => rfl
    | true => have := (HQ.out.1 rfl).floor; dsimp only at this; rw [EF.out] at this; cases this)
   obtain rfl : q = false := HE.out
   go_wp2
   go_ret
   exact ⟨rfl, HB.out⟩
  | true =>
   go_wp2_with fail
   refine (HD.out W1).mono ?_
   rintro e _ ⟨rfl, rfl⟩
   cases bd with
   | false =>
    have HE := hid (show q = false by
     cases q with
     | false => rfl
     | true => have := (HQ.out.1 rfl).drain; dsimp only at this; rw [ED.out] at this; cases this)
    obtain rfl : q = false := HE.out
    go_wp2
    go_ret
    exact ⟨rfl, HB.out⟩
   | true =>
    go_wp2_with fail
    refine (HN.out W1).mono ?_
    rintro e _ ⟨rfl, rfl⟩
    cases bn with
    | false =>
     have HE := hid (show q = false by
      cases q with
      | false => rfl
      | true => have := (HQ.out.1 rfl).now; dsimp only at this; rw [EN.out] at this; cases this)
     obtain rfl : q = false := HE.out
     go_wp2
     go_ret
     exact ⟨rfl, HB.out⟩
    | true =>
     go_wp2
     clear c0 c1 c2 c3 cl d60
     go_loopw [3] (fun iv wr => ∃ n : Nat, n ≤ L.length ∧ iv = .int .i64 n ∧ Below W1.heap.size W1 wr ∧ (∀ i x, i < n → L[i]? = some x → boxB x i = true) ∧ (∀ i j x y, i < n → L[i]? = some x → L[j]? = some y → j < i → tokP x y = false)) (fun iv _ => L.length - (intOf iv).toNat)
     case atStart => exact ⟨0, Nat.zero_le _, rfl, Below.refl _ _, fun i x h => absurd h (by omega), fun i j x y h => absurd h (by omega)⟩
     case round =>
      obtain ⟨n, hn, rfl, hBr, ha, hb⟩ := hrel
      obtain ⟨W2, hW2⟩ : ∃ W : World, W = wr := ⟨_, rfl⟩
      rw [← hW2] at hBr ⊢
      clear hW2
      have HBr := hid hBr
      have N2 := hid (blk_below N1.out hBr (blk_lt N1.out))
      have HA := hid ha
      have HBB := hid hb
      clear hBr ha hb
      have c0 : W2.cell? ⟨w.heap.size, 0, none⟩ = some (.slice a L.length c) := blk_cell N2.out 0
      have cl := blk_lt N2.out
      by_cases hlt : n < L.length
      ·obtain ⟨b1, o1, rfl, hb1, hr1⟩ := HOP.out (by omega)
       obtain ⟨x, hx⟩ := get_lt hlt
       have HBW := hid (HB.out.trans (HBr.out.mono HB.out.size))
       obtain ⟨g0, g1, g2, g3, g4, g5, g6, g7, g8, g9, g10⟩ := rowBx (hr1.below HBW.out hb1) hx
       have hnL : (n : Int) < (L.length : Int) := by omega
       have hl1 : b1 < W2.heap.size := Nat.lt_of_lt_of_le hb1 HBW.out.size
       have HR1 := hid hr1
       have HB1 := hid hb1
       obtain ⟨bq, hbq⟩ : ∃ b, boxB x n = b := ⟨_, rfl⟩
       have HX := hid hx
       have HBQ := hid hbq
       have HBX := hid (rbox08_any x n bq hbq (by have := H60.out; omega) W2)
       clear hx hbq hr1
       go_wp2_with fail
       clear g0 g1 g2 g3 g4 g5 g6 g7 g8 g9 g10 c0 cl hl1
       refine HBX.out.mono ?_
       rintro e W3 ⟨rfl, hb3⟩
       have HB3 := hid (HBr.out.trans (hb3.mono HBr.out.size))
       clear hb3
       cases bq with
       | false =>
        have HE := hid (show q = false by
         cases q with
         | false => rfl
         | true => have := (HQ.out.1 rfl).box n x HX.out; rw [HBQ.out] at this; cases this)
        obtain rfl : q = false := HE.out
        go_wp2
        go_ret
        exact ⟨rfl, HB.out.trans (HB3.out.mono HB.out.size)⟩
       | true =>
        go_wp2
        go_loopw [4] (fun iv wr => ∃ m : Nat, m ≤ n ∧ iv = .int .i64 m ∧ Below W1.heap.size W1 wr ∧ (∀ j y, j < m → L[j]? = some y → tokP x y = false)) (fun iv _ => n - (intOf iv).toNat)
        case atStart => exact ⟨0, Nat.zero_le _, rfl, HB3.out, fun j y h => absurd h (by omega)⟩
        case round =>
         obtain ⟨m, hm, rfl, hBr2, ha2⟩ := hrel
         obtain ⟨W4, hW4⟩ : ∃ W : World, W = wr := ⟨_, rfl⟩
         rw [← hW4] at hBr2 ⊢
         clear hW4
         have HB4 := hid hBr2
         have N4 := hid (blk_below N1.out hBr2 (blk_lt N1.out))
         have HA2 := hid ha2
         clear hBr2 ha2
         by_cases hmn : m < n
         ·have hmn' : (m : Int) < (n : Int) := by omega
          have hmL : (m : Int) < (L.length : Int) := by omega
          obtain ⟨y, hy⟩ := get_lt (l := L) (k := m) (by omega)
          have HBW4 := hid (HB.out.trans (HB4.out.mono HB.out.size))
          have c0 : W4.cell? ⟨w.heap.size, 0, none⟩ = some (.slice (some ⟨b1, o1, none⟩) L.length c) := blk_cell N4.out 0
          have cl := blk_lt N4.out
          have g1 := (rowBx (HR1.out.below HBW4.out HB1.out) HX.out).2.1
          have f1 := (rowBx (HR1.out.below HBW4.out HB1.out) hy).2.1
          have hl1 : b1 < W4.heap.size := Nat.lt_of_lt_of_le HB1.out HBW4.out.size
          have HY := hid hy
          clear hy
          obtain ⟨xt, hxt⟩ : ∃ t, x.token = t := ⟨_, rfl⟩
          obtain ⟨yt, hyt⟩ : ∃ t, y.token = t := ⟨_, rfl⟩
          have HXT := hid hxt
          have HYT := hid hyt
          rw [hxt] at g1
          rw [hyt] at f1
          clear hxt hyt
          have hrel2 : ∀ (v : Bool), tokP x y = v → (decide (0 < xt) && (yt == xt)) = v := by
           intro v hv
           unfold tokP at hv
           rw [HXT.out, HYT.out] at hv
           exact hv
          have HREL := hid hrel2
          clear hrel2
          by_cases h1 : 0 < xt
          ·have d1 : decide (0 < xt) = true := decide_eq_true h1
           clear h1
           by_cases h2 : yt = xt
           ·have d2 : (yt == xt) = true := by simpa using h2
            have HE := hid (show q = false by
             cases q with
             | false => rfl
             | true => have := HREL.out _ ((HQ.out.1 rfl).tok n m x y HX.out HY.out hmn); rw [d1, d2] at this; cases this)
            obtain rfl : q = false := HE.out
            clear h2
            go_wp2
            go_quiet (fail)
            go_wp2
            go_ret
            exact ⟨rfl, below_drewN HBW4.out _⟩
           ·have d2 : (yt == xt) = false := by simpa using h2
            clear h2
            have HT := hid (show tokP x y = false by unfold tokP; rw [HXT.out, HYT.out, d1, d2]; rfl)
            go_wp2
            go_quiet (fail)
            go_wp2
            go_roundw
            case rel => exact ⟨m + 1, by omega, by go_num, below_drewN HB4.out _, fun j z hj hz => by
             rcases Nat.lt_or_ge j m with h | h
             ·exact HA2.out j z h hz
             ·obtain rfl : j = m := by omega
              rw [HY.out] at hz
              cases hz
              exact HT.out⟩
            case measure => simp [intOf]; omega
          ·have d1 : decide (0 < xt) = false := decide_eq_false h1
           clear h1
           have HT := hid (show tokP x y = false by unfold tokP; rw [HXT.out, d1]; rfl)
           go_wp2
           go_quiet (fail)
           go_wp2
           go_roundw
           case rel => exact ⟨m + 1, by omega, by go_num, below_drewN HB4.out _, fun j z hj hz => by
            rcases Nat.lt_or_ge j m with h | h
            ·exact HA2.out j z h hz
            ·obtain rfl : j = m := by omega
             rw [HY.out] at hz
             cases hz
             exact HT.out⟩
           case measure => simp [intOf]; omega
         ·obtain rfl : m = n := by omega
          go_wp2
          go_roundw
          case rel => exact ⟨m + 1, by omega, by go_num, HB4.out, fun i z hi hz => by
            rcases Nat.lt_or_ge i m with h | h
            ·exact HA.out i z h hz
            ·obtain rfl : i = m := by omega
             rw [HX.out] at hz
             cases hz
             exact HBQ.out, fun i j z u hi hz hu hji => by
            rcases Nat.lt_or_ge i m with h | h
            ·exact HBB.out i j z u h hz hu hji
            ·obtain rfl : i = m := by omega
             rw [HX.out] at hz
             cases hz
             exact HA2.out j u hji hu⟩
          case measure => simp [intOf]; omega
      ·obtain rfl : n = L.length := by omega
       have HE := hid (show q = true from HQ.out.2 ⟨H60.out, EF.out, ED.out, EN.out, fun i x hx => HA.out i x (lt_get hx) hx, fun i j x y hx hy hji => HBB.out i j x y (lt_get hx) hx hy hji⟩)
       obtain rfl : q = true := HE.out
       go_wp2
       go_ret
       exact ⟨rfl, HB.out.trans (HBr.out.mono HB.out.size)⟩

end Go.Proofs.YtgcajfglidflnaaGreatDoor
