import Derived.Test.YtgcajfglidflnaaGreatDoorPlk
import Derived.Test.YtgcajfglidflnaaGreatDoorRam
import Derived.Test.YtgcajfglidflnaaGreatDoorGrr
/- A record that is not as it is to be changes nothing: plain facts. -/
namespace Go.Proofs.YtgcajfglidflnaaGreatDoor
open Go.RowKit Go.Shelf

/-- How many numbers a record of a kind has. -/
def deedN (k : Int) : Option Nat := [((1 : Int), 0), (3, 3), (4, 3), (8, 5), (6, 3), (7, 1), (9, 2), (10, 1), (11, 2), (5, 1), (12, 0), (13, 0), (14, 1), (15, 0), (16, 0)].lookup k
end Go.Proofs.YtgcajfglidflnaaGreatDoor

/- herdref13's small functions. Printed by gn_ra0.py. -/
namespace Go.Proofs.YtgcajfglidflnaaGreatDoor
open Go.RowKit Go.Shelf

set_option maxRecDepth 100000 in
set_option maxHeartbeats 1000000 in
theorem rnumbers_any (s : Value) (L : List Int) (q : Bool) (hq : L.any badN = q) (w : World) (hs : RowOf 1 encI w s L) :
  Calls Tryz.prog 48 #[s] w fun e w' => e = .returned (.bool (!q)) ∧ w = w' := by
 obtain ⟨sa, sc, rfl, p1, p2, p3, hop⟩ := hs.open
 have HOP := hid hop
 have HQ := hid hq
 clear hop hs hq
 go_enter Tryz.func48, Tryz.ntmps48
 go_wp2
 go_loop [3] (fun i => ∃ k : Nat, k ≤ L.length ∧ i = .int .i64 k ∧ (∀ y ∈ L.take k, badN y = false)) (fun i => L.length - (intOf i).toNat)
 case atStart => exact ⟨0, Nat.zero_le _, rfl, (fun y hy => by simp at hy)⟩
 case round =>
  obtain ⟨k, hk, rfl, hno⟩ := hrel
  have HNO := hid hno
  clear hno
  by_cases hlt : k < L.length
  ·obtain ⟨b1, o1, rfl, hb1, hr1⟩ := HOP.out (by omega)
   obtain ⟨x, hx⟩ := get_lt hlt
   have g0 := rowN1 hr1 hx
   have hkL : (k : Int) < (L.length : Int) := by omega
   have HX := hid hx
   clear hx hr1
   by_cases h0 : x < 0
   ·have d0 : decide (x < 0) = true := decide_eq_true h0
    have HE := hid (show q = true by rw [← HQ.out]; exact List.any_eq_true.2 ⟨x, mem_get HX.out, by unfold badN; rw [d0]; rfl⟩)
    obtain rfl : q = true := HE.out
    clear h0
    go_wp2
    go_ret
    exact ⟨rfl, rfl⟩
   ·have d0 : decide (x < 0) = false := decide_eq_false h0
    by_cases h1 : 1099511627776 < x
    ·have d1 : decide (1099511627776 < x) = true := decide_eq_true h1
     have HE := hid (show q = true by rw [← HQ.out]; exact List.any_eq_true.2 ⟨x, mem_get HX.out, by unfold badN; rw [d1, Bool.or_true]⟩)
     obtain rfl : q = true := HE.out
     clear h1 h0
     go_wp2
     go_ret
     exact ⟨rfl, rfl⟩
    ·have d1 : decide (1099511627776 < x) = false := decide_eq_false h1
     have HN := hid (idxL_next (p := badN) HX.out HNO.out (by unfold badN; rw [d0, d1]; rfl))
     clear h1 h0
     go_wp2
     go_round
     case rel => exact ⟨k + 1, by omega, by go_num, HN.out⟩
     case measure => simp [intOf]; omega
  ·obtain rfl : k = L.length := by omega
   have HE := hid (show q = false by
    rw [← HQ.out]
    have := HNO.out
    rw [List.take_length] at this
    exact List.any_eq_false.2 fun y hy => by rw [this y hy]; decide)
   obtain rfl : q = false := HE.out
   go_wp2
   go_ret
   exact ⟨rfl, rfl⟩
def manyI (k : Int) : Int := match deedN k with
 | some n => n
 | none => -1
set_option maxRecDepth 100000 in
set_option maxHeartbeats 4000000 in
theorem rmany_any (k m : Int) (hm : manyI k = m) (w : World) : Calls Tryz.prog 50 #[.int .u8 k] w fun e w' => e = .returned (.int .i64 m) ∧ w = w' := by
 by_cases h1 : k = 1
 ·subst h1
  obtain rfl : m = 0 := by rw [← hm]; rfl
  clear hm
  go_enter Tryz.func50, Tryz.ntmps50
  go_wp2
  go_ret
  exact ⟨rfl, rfl⟩
 by_cases h3 : k = 3
 ·subst h3
  obtain rfl : m = 3 := by rw [← hm]; rfl
  clear hm
  go_enter Tryz.func50, Tryz.ntmps50
  go_wp2
  go_ret
  exact ⟨rfl, rfl⟩
 by_cases h4 : k = 4
 ·subst h4
  obtain rfl : m = 3 := by rw [← hm]; rfl
  clear hm
  go_enter Tryz.func50, Tryz.ntmps50
  go_wp2
  go_ret
  exact ⟨rfl, rfl⟩
 by_cases h5 : k = 5
 ·subst h5
  obtain rfl : m = 1 := by rw [← hm]; rfl
  clear hm
  go_enter Tryz.func50, Tryz.ntmps50
  go_wp2
  go_ret
  exact ⟨rfl, rfl⟩
 by_cases h6 : k = 6
 ·subst h6
  obtain rfl : m = 3 := by rw [← hm]; rfl
  clear hm
  go_enter Tryz.func50, Tryz.ntmps50
  go_wp2
  go_ret
  exact ⟨rfl, rfl⟩
 by_cases h7 : k = 7
 ·subst h7
  obtain rfl : m = 1 := by rw [← hm]; rfl
  clear hm
  go_enter Tryz.func50, Tryz.ntmps50
  go_wp2
  go_ret
  exact ⟨rfl, rfl⟩
 by_cases h8 : k = 8
 ·subst h8
  obtain rfl : m = 5 := by rw [← hm]; rfl
  clear hm
  go_enter Tryz.func50, Tryz.ntmps50
  go_wp2
  go_ret
  exact ⟨rfl, rfl⟩
 by_cases h9 : k = 9
 ·subst h9
  obtain rfl : m = 2 := by rw [← hm]; rfl
  clear hm
  go_enter Tryz.func50, Tryz.ntmps50
  go_wp2
  go_ret
  exact ⟨rfl, rfl⟩
 by_cases h10 : k = 10
 ·subst h10
  obtain rfl : m = 1 := by rw [← hm]; rfl
  clear hm
  go_enter Tryz.func50, Tryz.ntmps50
  go_wp2
  go_ret
  exact ⟨rfl, rfl⟩
 by_cases h11 : k = 11
 ·subst h11
  obtain rfl : m = 2 := by rw [← hm]; rfl
  clear hm
  go_enter Tryz.func50, Tryz.ntmps50
  go_wp2
  go_ret
  exact ⟨rfl, rfl⟩
 by_cases h12 : k = 12
 ·subst h12
  obtain rfl : m = 0 := by rw [← hm]; rfl
  clear hm
  go_enter Tryz.func50, Tryz.ntmps50
  go_wp2
  go_ret
  exact ⟨rfl, rfl⟩
 by_cases h13 : k = 13
 ·subst h13
  obtain rfl : m = 0 := by rw [← hm]; rfl
  clear hm
  go_enter Tryz.func50, Tryz.ntmps50
  go_wp2
  go_ret
  exact ⟨rfl, rfl⟩
 by_cases h14 : k = 14
 ·subst h14
  obtain rfl : m = 1 := by rw [← hm]; rfl
  clear hm
  go_enter Tryz.func50, Tryz.ntmps50
  go_wp2
  go_ret
  exact ⟨rfl, rfl⟩
 by_cases h15 : k = 15
 ·subst h15
  obtain rfl : m = 0 := by rw [← hm]; rfl
  clear hm
  go_enter Tryz.func50, Tryz.ntmps50
  go_wp2
  go_ret
  exact ⟨rfl, rfl⟩
 by_cases h16 : k = 16
 ·subst h16
  obtain rfl : m = 0 := by rw [← hm]; rfl
  clear hm
  go_enter Tryz.func50, Tryz.ntmps50
  go_wp2
  go_ret
  exact ⟨rfl, rfl⟩
 have e1 : (k == 1) = false := by simpa using h1
 have e3 : (k == 3) = false := by simpa using h3
 have e4 : (k == 4) = false := by simpa using h4
 have e5 : (k == 5) = false := by simpa using h5
 have e6 : (k == 6) = false := by simpa using h6
 have e7 : (k == 7) = false := by simpa using h7
 have e8 : (k == 8) = false := by simpa using h8
 have e9 : (k == 9) = false := by simpa using h9
 have e10 : (k == 10) = false := by simpa using h10
 have e11 : (k == 11) = false := by simpa using h11
 have e12 : (k == 12) = false := by simpa using h12
 have e13 : (k == 13) = false := by simpa using h13
 have e14 : (k == 14) = false := by simpa using h14
 have e15 : (k == 15) = false := by simpa using h15
 have e16 : (k == 16) = false := by simpa using h16
 obtain rfl : m = -1 := by
  rw [← hm]
  unfold manyI deedN
  simp only [List.lookup, e1, e3, e4, e5, e6, e7, e8, e9, e10, e11, e12, e13, e14, e15, e16]
 clear hm h1 h3 h4 h5 h6 h7 h8 h9 h10 h11 h12 h13 h14 h15 h16
 go_enter Tryz.func50, Tryz.ntmps50
 go_wp2
 go_ret
 exact ⟨rfl, rfl⟩
set_option maxRecDepth 100000 in
set_option maxHeartbeats 4000000 in
theorem rlegal_any (p t : Int) (q : Bool) (hq : legalB p t = q) (ht : t < 11) (w : World) : Calls Tryz.prog 65 #[.int .u8 p, .int .u8 t] w fun e w' => e = .returned (.bool q) ∧ w = w' := by
 by_cases h1 : p = 1
 ·subst h1
  by_cases t2 : t = 2
  ·subst t2
   obtain rfl : q = true := by rw [← hq]; rfl
   clear hq ht
   go_enter Tryz.func65, Tryz.ntmps65
   go_wp2
   go_ret
   exact ⟨rfl, rfl⟩
  have f2 : (t == 2) = false := by simpa using t2
  by_cases t8 : t = 8
  ·subst t8
   obtain rfl : q = true := by rw [← hq]; rfl
   clear hq ht f2
   go_enter Tryz.func65, Tryz.ntmps65
   go_wp2
   go_ret
   exact ⟨rfl, rfl⟩
  have f8 : (t == 8) = false := by simpa using t8
  obtain rfl : q = false := by
   rw [← hq]
   unfold legalB chL
   simp [t2, t8]
  clear hq ht t2 t8
  go_enter Tryz.func65, Tryz.ntmps65
  go_wp2
  go_ret
  exact ⟨rfl, rfl⟩
 by_cases h2 : p = 2
 ·subst h2
  by_cases t3 : t = 3
  ·subst t3
   obtain rfl : q = true := by rw [← hq]; rfl
   clear hq ht
   go_enter Tryz.func65, Tryz.ntmps65
   go_wp2
   go_ret
   exact ⟨rfl, rfl⟩
  have f3 : (t == 3) = false := by simpa using t3
  by_cases t8 : t = 8
  ·subst t8
   obtain rfl : q = true := by rw [← hq]; rfl
   clear hq ht f3
   go_enter Tryz.func65, Tryz.ntmps65
   go_wp2
   go_ret
   exact ⟨rfl, rfl⟩
  have f8 : (t == 8) = false := by simpa using t8
  obtain rfl : q = false := by
   rw [← hq]
   unfold legalB chL
   simp [t3, t8]
  clear hq ht t3 t8
  go_enter Tryz.func65, Tryz.ntmps65
  go_wp2
  go_ret
  exact ⟨rfl, rfl⟩
 by_cases h3 : p = 3
 ·subst h3
  by_cases t4 : t = 4
  ·subst t4
   obtain rfl : q = true := by rw [← hq]; rfl
   clear hq ht
   go_enter Tryz.func65, Tryz.ntmps65
   go_wp2
   go_ret
   exact ⟨rfl, rfl⟩
  have f4 : (t == 4) = false := by simpa using t4
  obtain rfl : q = false := by
   rw [← hq]
   unfold legalB chL
   simp [t4]
  clear hq ht t4
  go_enter Tryz.func65, Tryz.ntmps65
  go_wp2
  go_ret
  exact ⟨rfl, rfl⟩
 by_cases h4 : p = 4
 ·subst h4
  by_cases t5 : t = 5
  ·subst t5
   obtain rfl : q = true := by rw [← hq]; rfl
   clear hq ht
   go_enter Tryz.func65, Tryz.ntmps65
   go_wp2
   go_ret
   exact ⟨rfl, rfl⟩
  have f5 : (t == 5) = false := by simpa using t5
  by_cases t3 : t = 3
  ·subst t3
   obtain rfl : q = true := by rw [← hq]; rfl
   clear hq ht f5
   go_enter Tryz.func65, Tryz.ntmps65
   go_wp2
   go_ret
   exact ⟨rfl, rfl⟩
  have f3 : (t == 3) = false := by simpa using t3
  obtain rfl : q = false := by
   rw [← hq]
   unfold legalB chL
   simp [t5, t3]
  clear hq ht t5 t3
  go_enter Tryz.func65, Tryz.ntmps65
  go_wp2
  go_ret
  exact ⟨rfl, rfl⟩
 by_cases h5 : p = 5
 ·subst h5
  by_cases t6 : t = 6
  ·subst t6
   obtain rfl : q = true := by rw [← hq]; rfl
   clear hq ht
   go_enter Tryz.func65, Tryz.ntmps65
   go_wp2
   go_ret
   exact ⟨rfl, rfl⟩
  have f6 : (t == 6) = false := by simpa using t6
  by_cases t4 : t = 4
  ·subst t4
   obtain rfl : q = true := by rw [← hq]; rfl
   clear hq ht f6
   go_enter Tryz.func65, Tryz.ntmps65
   go_wp2
   go_ret
   exact ⟨rfl, rfl⟩
  have f4 : (t == 4) = false := by simpa using t4
  obtain rfl : q = false := by
   rw [← hq]
   unfold legalB chL
   simp [t6, t4]
  clear hq ht t6 t4
  go_enter Tryz.func65, Tryz.ntmps65
  go_wp2
  go_ret
  exact ⟨rfl, rfl⟩
 by_cases h6 : p = 6
 ·subst h6
  by_cases t7 : t = 7
  ·subst t7
   obtain rfl : q = true := by rw [← hq]; rfl
   clear hq ht
   go_enter Tryz.func65, Tryz.ntmps65
   go_wp2
   go_ret
   exact ⟨rfl, rfl⟩
  have f7 : (t == 7) = false := by simpa using t7
  obtain rfl : q = false := by
   rw [← hq]
   unfold legalB chL
   simp [t7]
  clear hq ht t7
  go_enter Tryz.func65, Tryz.ntmps65
  go_wp2
  go_ret
  exact ⟨rfl, rfl⟩
 by_cases h7 : p = 7
 ·subst h7
  by_cases t8 : t = 8
  ·subst t8
   obtain rfl : q = true := by rw [← hq]; rfl
   clear hq ht
   go_enter Tryz.func65, Tryz.ntmps65
   go_wp2
   go_ret
   exact ⟨rfl, rfl⟩
  have f8 : (t == 8) = false := by simpa using t8
  obtain rfl : q = false := by
   rw [← hq]
   unfold legalB chL
   simp [t8]
  clear hq ht t8
  go_enter Tryz.func65, Tryz.ntmps65
  go_wp2
  go_ret
  exact ⟨rfl, rfl⟩
 by_cases h9 : p = 9
 ·subst h9
  by_cases t10 : t = 10
  ·subst t10
   obtain rfl : q = true := by rw [← hq]; rfl
   clear hq ht
   go_enter Tryz.func65, Tryz.ntmps65
   go_wp2
   go_ret
   exact ⟨rfl, rfl⟩
  have f10 : (t == 10) = false := by simpa using t10
  by_cases t8 : t = 8
  ·subst t8
   obtain rfl : q = true := by rw [← hq]; rfl
   clear hq ht f10
   go_enter Tryz.func65, Tryz.ntmps65
   go_wp2
   go_ret
   exact ⟨rfl, rfl⟩
  have f8 : (t == 8) = false := by simpa using t8
  obtain rfl : q = false := by
   rw [← hq]
   unfold legalB chL
   simp [t10, t8]
  clear hq ht t10 t8
  go_enter Tryz.func65, Tryz.ntmps65
  go_wp2
  go_ret
  exact ⟨rfl, rfl⟩
 by_cases h10 : p = 10
 ·subst h10
  by_cases t1 : t = 1
  ·subst t1
   obtain rfl : q = true := by rw [← hq]; rfl
   clear hq ht
   go_enter Tryz.func65, Tryz.ntmps65
   go_wp2
   go_ret
   exact ⟨rfl, rfl⟩
  have f1 : (t == 1) = false := by simpa using t1
  obtain rfl : q = false := by
   rw [← hq]
   unfold legalB chL
   simp [t1]
  clear hq ht t1
  go_enter Tryz.func65, Tryz.ntmps65
  go_wp2
  go_ret
  exact ⟨rfl, rfl⟩
 obtain rfl : q = false := by
  rw [← hq]
  unfold legalB
  cases hd : decide (p < 11) with
  | false => rfl
  | true =>
   have hp : p < 11 := by simpa using hd
   have : (chL.getD p.toNat []) = [] := by
    have h0 : p.toNat = 0 ∨ p.toNat = 8 := by omega
    rcases h0 with h | h <;> rw [h] <;> rfl
   rw [this]
   simp
 have e1 : (p == 1) = false := by simpa using h1
 have e2 : (p == 2) = false := by simpa using h2
 have e3 : (p == 3) = false := by simpa using h3
 have e4 : (p == 4) = false := by simpa using h4
 have e5 : (p == 5) = false := by simpa using h5
 have e6 : (p == 6) = false := by simpa using h6
 have e7 : (p == 7) = false := by simpa using h7
 have e9 : (p == 9) = false := by simpa using h9
 have e10 : (p == 10) = false := by simpa using h10
 clear hq ht h1 h2 h3 h4 h5 h6 h7 h9 h10
 go_enter Tryz.func65, Tryz.ntmps65
 go_wp2
 go_ret
 exact ⟨rfl, rfl⟩
end Go.Proofs.YtgcajfglidflnaaGreatDoor

/- herdref13.made: an Intent becomes an instance. Printed by gn_ra2.py. -/
namespace Go.Proofs.YtgcajfglidflnaaGreatDoor
open Go.RowKit Go.Shelf
attribute [-go_sem] loadVar storeVar Instr.buildSlice sliced run_sliceAt_slice
attribute [local go_sem] load_other store_other

theorem wp_namedQ {Q : Exit → Act → World → Prop} {e : Exit} {a : Act} {w : World} (h : ∀ U, U = w → Q e a U) : Q e a w := h w rfl
section
variable {base : World} {b : Nat} {B : BrainV} {mv iv kv : Value} {W : World}
theorem BO.var (h : BO base b B mv iv kv W) : VarIs W b B (.agg (brT B.f B.g mv iv kv)) :=
 ⟨mv, iv, kv, rfl, h.box, h.rm.row, h.ri.row encIn_len (by decide), h.rk.row encKp_len (by decide)⟩
theorem erase_td {α : Type} (l : List α) (i : Nat) : [] ++ l.take i ++ l.drop (i + 1) = l.eraseIdx i := by rw [List.nil_append, List.eraseIdx_eq_take_drop_succ]
def NewKp (base : World) (v : Value) (w : World) : Prop := ∃ T, v = .pointer (some ⟨T, 0, none⟩) ∧ base.heap.size ≤ T ∧ w.heap[T]? = some (.cells #[.int .i64 0, .int .i64 0, .int .i64 0, .int .i64 0, .int .u8 0, .int .i64 0, .bool false, .bool false] 51)
theorem stays_newKp (base : World) : Stays (NewKp base) := by
 rintro v w w' ⟨T, h1, h2, h3⟩ hb
 exact ⟨T, h1, h2, blk_below h3 hb (blk_lt h3)⟩
theorem arr8 (c : Array Value) (hc : c.size = 8) (a0 a1 a2 a3 a4 a5 a6 a7 : Value) : (((((((c.setIfInBounds 0 a0).setIfInBounds 1 a1).setIfInBounds 2 a2).setIfInBounds 3 a3).setIfInBounds 4 a4).setIfInBounds 5 a5).setIfInBounds 6 a6).setIfInBounds 7 a7 = #[a0, a1, a2, a3, a4, a5, a6, a7] := by
 obtain ⟨l⟩ := c
 match l, hc with
 | [_, _, _, _, _, _, _, _], _ => simp only [List.setIfInBounds_toArray, List.set_cons_zero, List.set_cons_succ]
theorem kp_set {X : World} {T : Nat} {c : Array Value} (h : X.heap[T]? = some (.cells c 51)) (hc : c.size = 8) (a0 a1 a2 a3 a4 a5 a6 a7 : Value) :
  ((((((((X.setCell ⟨T, 0, none⟩ a0).setCell ⟨T, 1, none⟩ a1).setCell ⟨T, 2, none⟩ a2).setCell ⟨T, 3, none⟩ a3).setCell ⟨T, 4, none⟩ a4).setCell ⟨T, 5, none⟩ a5).setCell ⟨T, 6, none⟩ a6).setCell ⟨T, 7, none⟩ a7).heap[T]? = some (.cells #[a0, a1, a2, a3, a4, a5, a6, a7] 51) := by
 rw [← arr8 c hc a0 a1 a2 a3 a4 a5 a6 a7]
 exact blk_set (blk_set (blk_set (blk_set (blk_set (blk_set (blk_set (blk_set h 0 a0) 1 a1) 2 a2) 3 a3) 4 a4) 5 a5) 6 a6) 7 a7
set_option maxRecDepth 100000 in
set_option maxHeartbeats 8000000 in
theorem rmade_any {v : Value} (s : Value) (L : List Int) (hs : RowOf 1 encI base s L) (hL : L.length = 3) (h : BrEnd base B v W) (hbW : Below base.heap.size base W) (hlI : B.I.length ≤ 1000) (hlK : B.K.length ≤ 1000) :
  Calls Tryz.prog 51 #[v, s] W (RefEnd base W (madeB B L)) := by
 obtain ⟨j0, hj0, hj1, hj2, hj3⟩ := info_parts infoIn
 have HJ0 := hid hj0
 have HJ1 := hid hj1
 have HJ2 := hid hj2
 have HJ3 := hid hj3
 clear hj0 hj1 hj2 hj3
 obtain ⟨mv, iv, kv, W1, rfl, hW1, ho, hz, hb1⟩ := ref_begin h hbW
 obtain ⟨sa, sc, rfl, hs1, hs2, hs3, hop⟩ := hs.open
 obtain ⟨b1, o1, rfl, hb1x, hr1⟩ := hop (by omega)
 have hLI : (L.length : Int) = 3 := by omega
 have hbb1 := hbW.trans (hb1.mono hbW.size)
 have lb1 : b1 < W1.heap.size := Nat.lt_of_lt_of_le hb1x hbb1.size
 have lb0 : b1 < W.heap.size := Nat.lt_of_lt_of_le hb1x hbW.size
 obtain ⟨x0, hx0⟩ := get_lt (l := L) (k := 0) (by omega)
 have r0 := rowN1 (hr1.below hbb1 hb1x) hx0
 have e0 : L.getD 0 0 = x0 := by rw [List.getD_eq_getElem?_getD, hx0]; rfl
 obtain ⟨x1, hx1⟩ := get_lt (l := L) (k := 1) (by omega)
 have r1 := rowN1 (hr1.below hbb1 hb1x) hx1
 have e1 : L.getD 1 0 = x1 := by rw [List.getD_eq_getElem?_getD, hx1]; rfl
 obtain ⟨x2, hx2⟩ := get_lt (l := L) (k := 2) (by omega)
 have r2 := rowN1 (hr1.below hbb1 hb1x) hx2
 have e2 : L.getD 2 0 = x2 := by rw [List.getD_eq_getElem?_getD, hx2]; rfl
 simp only [Nat.add_zero] at r0
 obtain ⟨RR, hRR⟩ : ∃ RR, madeB B L = RR := ⟨_, rfl⟩
 rw [hRR]
 unfold madeB at hRR
 rw [e0, e1, e2] at hRR
 obtain ⟨zi, hzI⟩ : ∃ zi, idxL B.I (fun x => x.token == x0) = zi := ⟨_, rfl⟩
 obtain ⟨z2, hzK⟩ : ∃ z, idxL B.K (fun x => x.id == x1) = z := ⟨_, rfl⟩
 rw [hzI, hzK] at hRR
 have HRR := hid hRR
 have HZI := hid hzI
 have HZK := hid hzK
 have HO1 := hid ho
 have HZ1 := hid hz
 have HB1 := hid hb1
 have HBW := hid hbW
 have HVAR := hid ho.var
 have R0 := hid r0
 have R1 := hid r1
 have R2 := hid r2
 have LB := hid lb1
 have LW0 := hid lb0
 have hbn := bs_inN
 have HL3 := hid hL
 clear hL hs hop hr1 hb1x hbb1 hx0 hx1 hx2 e0 e1 e2 hRR hzI hzK ho hz hb1 h hbW r0 r1 r2
 go_enter Tryz.func51, Tryz.ntmps51
 go_upto_region 1 with (fail)
 rw [← hW1]
 clear hW1
 refine wp_region_held_drew (S := fun _ => True) (by kernel_rfl) trivial (fun _ => ?_)
 refine wpAnyH_grownG (w0 := W1.drew) (spL [fun z _ => z = (.agg (brT B.f B.g mv iv kv)), fun z _ => z = .slice (some ⟨b1, o1, none⟩) L.length sc, fun z _ => z = .pointer (some ⟨b1, o1, none⟩), fun z _ => z = .int .i64 x0, fun z _ => z = .int .i64 zi, fun z _ => z = .int .i64 zi]) (spL_stays ⟨stays_eq _, stays_eq _, stays_eq _, stays_eq _, stays_eq _, stays_eq _, trivial⟩) (by kernel_rfl) (by kernel_rfl) ?steps1 ?fin1 rfl
 case steps1 =>
  refine ⟨?_, ?_, ?_, ?_, ?_, ?_, trivial⟩
  ·intro a' w' hB hdep hoth K hK
   rw [if_pos (guard_none rfl)]
   have hbw : Below W1.heap.size W1 w' := (below_drewN (Below.refl _ _) 1).trans hB
   have t2 := hoth 2 (notDst_at (by kernel_rfl))
   simp only [List.getElem?_toArray, List.getElem?_cons_succ, List.getElem?_cons_zero] at t2
   have hld := (HVAR.out.below hbw).load
   clear hdep hoth
   go_simp
   exact hK _ _ (Below.refl _ _) rfl
  ·intro a' w' hB hdep hoth K hK
   rw [if_pos (guard_none rfl)]
   have hbw : Below W1.heap.size W1 w' := (below_drewN (Below.refl _ _) 1).trans hB
   have t1 := hoth 1 (notDst_at (by kernel_rfl))
   simp only [List.getElem?_toArray, List.getElem?_cons_succ, List.getElem?_cons_zero] at t1
   clear hdep hoth
   go_simp
   exact hK _ _ (Below.refl _ _) rfl
  ·intro a' w' hB hdep hoth K hK
   rw [if_pos (guard_none rfl)]
   have hbw : Below W1.heap.size W1 w' := (below_drewN (Below.refl _ _) 1).trans hB
   obtain ⟨vx0, gx0, ex0⟩ := hdep ⟨1, .data⟩ (by simp) rfl
   have gx0 := gx0 9 rfl (by simp)
   obtain rfl : vx0 = .slice (some ⟨b1, o1, none⟩) L.length sc := ex0
   clear hdep hoth
   go_simp
   exact hK _ _ (Below.refl _ _) rfl
  ·intro a' w' hB hdep hoth K hK
   rw [if_pos (guard_none rfl)]
   have hbw : Below W1.heap.size W1 w' := (below_drewN (Below.refl _ _) 1).trans hB
   obtain ⟨vx0, gx0, ex0⟩ := hdep ⟨2, .data⟩ (by simp) rfl
   have gx0 := gx0 10 rfl (by simp)
   obtain rfl : vx0 = .pointer (some ⟨b1, o1, none⟩) := ex0
   have r0 := cell_below R0.out hbw
   have lb1 : b1 < w'.heap.size := Nat.lt_of_lt_of_le LB.out hbw.size
   clear hdep hoth
   go_simp
   exact hK _ _ (Below.refl _ _) rfl
  ·intro a' w' hB hdep hoth K hK
   rw [if_pos (guard_none rfl)]
   have hbw : Below W1.heap.size W1 w' := (below_drewN (Below.refl _ _) 1).trans hB
   obtain ⟨vx0, gx0, ex0⟩ := hdep ⟨0, .data⟩ (by simp) rfl
   have gx0 := gx0 8 rfl (by simp)
   obtain rfl : vx0 = (.agg (brT B.f B.g mv iv kv)) := ex0
   obtain ⟨vx1, gx1, ex1⟩ := hdep ⟨3, .data⟩ (by simp) rfl
   have gx1 := gx1 11 rfl (by simp)
   obtain rfl : vx1 = .int .i64 x0 := ex1
   have HA := hid (rtoken13_at B _ x0 zi HZI.out _ (HVAR.out.below hbw).is)
   clear hdep hoth
   go_simp
   refine HA.out.mono ?_
   rintro e w'' ⟨rfl, hb⟩
   exact hK _ _ hb rfl
  ·intro a' w' hB hdep hoth K hK
   rw [if_pos (guard_none rfl)]
   have hbw : Below W1.heap.size W1 w' := (below_drewN (Below.refl _ _) 1).trans hB
   obtain ⟨vx0, gx0, ex0⟩ := hdep ⟨4, .data⟩ (by simp) rfl
   have gx0 := gx0 12 rfl (by simp)
   obtain rfl : vx0 = .int .i64 zi := ex0
   clear hdep hoth
   go_simp
   exact hK _ _ (Below.refl _ _) rfl
 case fin1 =>
  intro vs V1 hB hs
  have hbw : Below W1.heap.size W1 V1 := (below_drewN (Below.refl _ _) 1).trans hB
  have ev5 : vs 5 = .int .i64 zi := hs 5 (by decide)
  clear hs
  simp only [actOf, dstAt, if_true, List.getElem?_toArray, List.getElem?_cons_succ, List.getElem?_cons_zero, Option.bind_some, Act.put, List.setIfInBounds_toArray, List.set_cons_zero, List.set_cons_succ, List.length_cons, List.length_nil, Nat.reduceAdd]
  rw [ev5]
  clear hB ev5
  have HO2 := hid (HO1.out.below hbw)
  have HZ2 := hid (blk_below HZ1.out hbw (blk_lt HZ1.out))
  have HB2 := hid (HB1.out.trans (hbw.mono HB1.out.size))
  have S1 := hid (cell_below R1.out hbw)
  have S2 := hid (cell_below R2.out hbw)
  have LB2 := hid (Nat.lt_of_lt_of_le LB.out hbw.size)
  clear hbw
  clear R0 R1 R2 LB HVAR
  have HVAR2 := hid HO2.out.var
  have hcI : zi = -1 ∨ ∃ (i : Nat) (x : IntentV), zi = (i : Int) ∧ B.I[i]? = some x := by
   rcases idxL_cases B.I (fun x => x.token == x0) with ⟨h1, _⟩ | ⟨i, x, h1, h2, _⟩
   ·exact .inl (by rw [← HZI.out]; exact h1)
   ·exact .inr ⟨i, x, by rw [← HZI.out]; exact h1, h2⟩
  have hcK : z2 = -1 ∨ ∃ j : Nat, z2 = (j : Int) := by
   rcases idxL_cases B.K (fun x => x.id == x1) with ⟨h1, _⟩ | ⟨j, x, h1, h2, _⟩
   ·exact .inl (by rw [← HZK.out]; exact h1)
   ·exact .inr ⟨j, by rw [← HZK.out]; exact h1⟩
  rcases hcI with rfl | ⟨i, x, rfl, hx⟩
  ·obtain rfl : B = RR := by rw [← HRR.out, if_pos (.inl (by omega))]
   clear hcK
   go_wp2_with fail
   refine wp_region_held_drew (S := fun _ => True) (by kernel_rfl) trivial (fun _ => ?_)
   refine wpAnyH_grownG (w0 := V1.drew) (spL [fun z _ => z = .int .i64 (-1), fun z _ => z = .bool true, fun z _ => z = .bool true, fun z _ => z = undef, fun z _ => z = undef, fun z _ => z = undef, fun z _ => z = undef, fun z _ => z = .bool true, fun z _ => z = .bool true, fun z _ => z = undef, fun z _ => z = undef, fun z _ => z = undef, fun z _ => z = undef, fun z _ => z = undef, fun z _ => z = undef, fun z _ => z = .bool true]) (spL_stays ⟨stays_eq _, stays_eq _, stays_eq _, stays_eq _, stays_eq _, stays_eq _, stays_eq _, stays_eq _, stays_eq _, stays_eq _, stays_eq _, stays_eq _, stays_eq _, stays_eq _, stays_eq _, stays_eq _, trivial⟩) (by kernel_rfl) (by kernel_rfl) ?steps2 ?fin2 rfl
   case steps2 =>
    refine ⟨?_, ?_, ?_, ?_, ?_, ?_, ?_, ?_, ?_, ?_, ?_, ?_, ?_, ?_, ?_, ?_, trivial⟩
    ·intro a' w' hB hdep hoth K hK
     rw [if_pos (guard_none rfl)]
     have hbw : Below V1.heap.size V1 w' := (below_drewN (Below.refl _ _) 1).trans hB
     have t5 := hoth 5 (notDst_at (by kernel_rfl))
     simp only [List.getElem?_toArray, List.getElem?_cons_succ, List.getElem?_cons_zero] at t5
     clear hdep hoth
     go_simp
     exact hK _ _ (Below.refl _ _) rfl
    ·intro a' w' hB hdep hoth K hK
     rw [if_pos (guard_none rfl)]
     have hbw : Below V1.heap.size V1 w' := (below_drewN (Below.refl _ _) 1).trans hB
     obtain ⟨vx0, gx0, ex0⟩ := hdep ⟨0, .data⟩ (by simp) rfl
     have gx0 := gx0 13 rfl (by simp)
     obtain rfl : vx0 = .int .i64 (-1) := ex0
     clear hdep hoth
     go_simp
     exact hK _ _ (Below.refl _ _) rfl
    ·intro a' w' hB hdep hoth K hK
     rw [if_pos (guard_none rfl)]
     have hbw : Below V1.heap.size V1 w' := (below_drewN (Below.refl _ _) 1).trans hB
     obtain ⟨vx0, gx0, ex0⟩ := hdep ⟨1, .data⟩ (by simp) rfl
     have gx0 := gx0 14 rfl (by simp)
     obtain rfl : vx0 = .bool true := ex0
     clear hdep hoth
     go_simp
     exact hK _ _ (Below.refl _ _) rfl
    ·intro a' w' hB hdep hoth K hK
     obtain ⟨vg, gg, eg⟩ := hdep ⟨2, .guard⟩ (by simp) rfl
     have gg := gg 15 rfl (by simp)
     obtain rfl : vg = .bool true := eg
     rw [guard_is rfl rfl gg]
     rw [if_neg (by decide)]
     exact hK _ _ (Below.refl _ _) rfl
    ·intro a' w' hB hdep hoth K hK
     obtain ⟨vg, gg, eg⟩ := hdep ⟨2, .guard⟩ (by simp) rfl
     have gg := gg 15 rfl (by simp)
     obtain rfl : vg = .bool true := eg
     rw [guard_is rfl rfl gg]
     rw [if_neg (by decide)]
     exact hK _ _ (Below.refl _ _) rfl
    ·intro a' w' hB hdep hoth K hK
     obtain ⟨vg, gg, eg⟩ := hdep ⟨2, .guard⟩ (by simp) rfl
     have gg := gg 15 rfl (by simp)
     obtain rfl : vg = .bool true := eg
     rw [guard_is rfl rfl gg]
     rw [if_neg (by decide)]
     exact hK _ _ (Below.refl _ _) rfl
    ·intro a' w' hB hdep hoth K hK
     obtain ⟨vg, gg, eg⟩ := hdep ⟨2, .guard⟩ (by simp) rfl
     have gg := gg 15 rfl (by simp)
     obtain rfl : vg = .bool true := eg
     rw [guard_is rfl rfl gg]
     rw [if_neg (by decide)]
     exact hK _ _ (Below.refl _ _) rfl
    ·intro a' w' hB hdep hoth K hK
     rw [if_pos (guard_none rfl)]
     have hbw : Below V1.heap.size V1 w' := (below_drewN (Below.refl _ _) 1).trans hB
     obtain ⟨vx0, gx0, ex0⟩ := hdep ⟨2, .data⟩ (by simp) rfl
     have gx0 := gx0 15 rfl (by simp)
     obtain rfl : vx0 = .bool true := ex0
     clear hdep hoth
     go_simp
     exact hK _ _ (Below.refl _ _) rfl
    ·intro a' w' hB hdep hoth K hK
     rw [if_pos (guard_none rfl)]
     have hbw : Below V1.heap.size V1 w' := (below_drewN (Below.refl _ _) 1).trans hB
     obtain ⟨vx0, gx0, ex0⟩ := hdep ⟨7, .data⟩ (by simp) rfl
     have gx0 := gx0 20 rfl (by simp)
     obtain rfl : vx0 = .bool true := ex0
     clear hdep hoth
     go_simp
     exact hK _ _ (Below.refl _ _) rfl
    ·intro a' w' hB hdep hoth K hK
     obtain ⟨vg, gg, eg⟩ := hdep ⟨8, .guard⟩ (by simp) rfl
     have gg := gg 21 rfl (by simp)
     obtain rfl : vg = .bool true := eg
     rw [guard_is rfl rfl gg]
     rw [if_neg (by decide)]
     exact hK _ _ (Below.refl _ _) rfl
    ·intro a' w' hB hdep hoth K hK
     obtain ⟨vg, gg, eg⟩ := hdep ⟨8, .guard⟩ (by simp) rfl
     have gg := gg 21 rfl (by simp)
     obtain rfl : vg = .bool true := eg
     rw [guard_is rfl rfl gg]
     rw [if_neg (by decide)]
     exact hK _ _ (Below.refl _ _) rfl
    ·intro a' w' hB hdep hoth K hK
     obtain ⟨vg, gg, eg⟩ := hdep ⟨8, .guard⟩ (by simp) rfl
     have gg := gg 21 rfl (by simp)
     obtain rfl : vg = .bool true := eg
     rw [guard_is rfl rfl gg]
     rw [if_neg (by decide)]
     exact hK _ _ (Below.refl _ _) rfl
    ·intro a' w' hB hdep hoth K hK
     obtain ⟨vg, gg, eg⟩ := hdep ⟨8, .guard⟩ (by simp) rfl
     have gg := gg 21 rfl (by simp)
     obtain rfl : vg = .bool true := eg
     rw [guard_is rfl rfl gg]
     rw [if_neg (by decide)]
     exact hK _ _ (Below.refl _ _) rfl
    ·intro a' w' hB hdep hoth K hK
     obtain ⟨vg, gg, eg⟩ := hdep ⟨8, .guard⟩ (by simp) rfl
     have gg := gg 21 rfl (by simp)
     obtain rfl : vg = .bool true := eg
     rw [guard_is rfl rfl gg]
     rw [if_neg (by decide)]
     exact hK _ _ (Below.refl _ _) rfl
    ·intro a' w' hB hdep hoth K hK
     obtain ⟨vg, gg, eg⟩ := hdep ⟨8, .guard⟩ (by simp) rfl
     have gg := gg 21 rfl (by simp)
     obtain rfl : vg = .bool true := eg
     rw [guard_is rfl rfl gg]
     rw [if_neg (by decide)]
     exact hK _ _ (Below.refl _ _) rfl
    ·intro a' w' hB hdep hoth K hK
     rw [if_pos (guard_none rfl)]
     have hbw : Below V1.heap.size V1 w' := (below_drewN (Below.refl _ _) 1).trans hB
     obtain ⟨vx0, gx0, ex0⟩ := hdep ⟨8, .data⟩ (by simp) rfl
     have gx0 := gx0 21 rfl (by simp)
     obtain rfl : vx0 = .bool true := ex0
     clear hdep hoth
     go_simp
     exact hK _ _ (Below.refl _ _) rfl
   case fin2 =>
    intro vs V2 hB hs
    have hbw : Below V1.heap.size V1 V2 := (below_drewN (Below.refl _ _) 1).trans hB
    have ev15 : vs 15 = .bool true := hs 15 (by decide)
    clear hs
    simp only [actOf, dstAt, if_true, List.getElem?_toArray, List.getElem?_cons_succ, List.getElem?_cons_zero, Option.bind_some, Act.put, List.setIfInBounds_toArray, List.set_cons_zero, List.set_cons_succ, List.length_cons, List.length_nil, Nat.reduceAdd]
    rw [ev15]
    clear hB ev15
    have HO3 := hid (HO2.out.below hbw)
    have HZ3 := hid (blk_below HZ2.out hbw (blk_lt HZ2.out))
    have HB3 := hid (HB2.out.trans (hbw.mono HB2.out.size))
    clear hbw
    go_upto_region 3 with (fail)
    obtain ⟨hld, X, m', i', k', hst, bb, hend⟩ := ref_end (HO3.out) (HZ3.out) (HB3.out) HBW.out
    have HBB := hid bb
    have HEND := hid hend
    clear bb hend
    go_wp2
    refine bodyPost_ret (results_cell_row rfl _ _ (W.heap.size + 1) 33 _ _ _ rfl HBB.out brain_under rfl (brain_size (brT_bc _ _ _ _ _))) rfl ?_
    exact HEND.out
  ·have d0 : decide ((i : Int) < 0) = false := decide_eq_false (by omega)
   have hil : i < B.I.length := lt_get hx
   have HX := hid hx
   clear hx
   by_cases hx1 : x1 < 1
   ·obtain rfl : B = RR := by rw [← HRR.out, if_pos (.inr (.inl hx1))]
    have d1 : decide (x1 < 1) = true := decide_eq_true hx1
    clear hcK hx1
    go_wp2_with fail
    refine wp_region_held_drew (S := fun _ => True) (by kernel_rfl) trivial (fun _ => ?_)
    refine wpAnyH_grownG (w0 := V1.drew) (spL [fun z _ => z = .int .i64 ((i : Int)), fun z _ => z = .bool false, fun z _ => z = .bool false, fun z _ => z = .slice (some ⟨b1, o1, none⟩) L.length sc, fun z _ => z = .pointer (some ⟨b1, o1 + 1, none⟩), fun z _ => z = .int .i64 x1, fun z _ => z = .bool true, fun z _ => z = .bool true, fun z _ => z = .bool true, fun z _ => z = undef, fun z _ => z = undef, fun z _ => z = undef, fun z _ => z = undef, fun z _ => z = undef, fun z _ => z = undef, fun z _ => z = .bool true]) (spL_stays ⟨stays_eq _, stays_eq _, stays_eq _, stays_eq _, stays_eq _, stays_eq _, stays_eq _, stays_eq _, stays_eq _, stays_eq _, stays_eq _, stays_eq _, stays_eq _, stays_eq _, stays_eq _, stays_eq _, trivial⟩) (by kernel_rfl) (by kernel_rfl) ?steps2 ?fin2 rfl
    case steps2 =>
     refine ⟨?_, ?_, ?_, ?_, ?_, ?_, ?_, ?_, ?_, ?_, ?_, ?_, ?_, ?_, ?_, ?_, trivial⟩
     ·intro a' w' hB hdep hoth K hK
      rw [if_pos (guard_none rfl)]
      have hbw : Below V1.heap.size V1 w' := (below_drewN (Below.refl _ _) 1).trans hB
      have t5 := hoth 5 (notDst_at (by kernel_rfl))
      simp only [List.getElem?_toArray, List.getElem?_cons_succ, List.getElem?_cons_zero] at t5
      clear hdep hoth
      go_simp
      exact hK _ _ (Below.refl _ _) rfl
     ·intro a' w' hB hdep hoth K hK
      rw [if_pos (guard_none rfl)]
      have hbw : Below V1.heap.size V1 w' := (below_drewN (Below.refl _ _) 1).trans hB
      obtain ⟨vx0, gx0, ex0⟩ := hdep ⟨0, .data⟩ (by simp) rfl
      have gx0 := gx0 13 rfl (by simp)
      obtain rfl : vx0 = .int .i64 ((i : Int)) := ex0
      clear hdep hoth
      go_simp
      exact hK _ _ (Below.refl _ _) rfl
     ·intro a' w' hB hdep hoth K hK
      rw [if_pos (guard_none rfl)]
      have hbw : Below V1.heap.size V1 w' := (below_drewN (Below.refl _ _) 1).trans hB
      obtain ⟨vx0, gx0, ex0⟩ := hdep ⟨1, .data⟩ (by simp) rfl
      have gx0 := gx0 14 rfl (by simp)
      obtain rfl : vx0 = .bool false := ex0
      clear hdep hoth
      go_simp
      exact hK _ _ (Below.refl _ _) rfl
     ·intro a' w' hB hdep hoth K hK
      obtain ⟨vg, gg, eg⟩ := hdep ⟨2, .guard⟩ (by simp) rfl
      have gg := gg 15 rfl (by simp)
      obtain rfl : vg = .bool false := eg
      rw [guard_is rfl rfl gg]
      rw [if_pos (by decide)]
      have hbw : Below V1.heap.size V1 w' := (below_drewN (Below.refl _ _) 1).trans hB
      have t1 := hoth 1 (notDst_at (by kernel_rfl))
      simp only [List.getElem?_toArray, List.getElem?_cons_succ, List.getElem?_cons_zero] at t1
      clear hdep hoth
      go_simp
      exact hK _ _ (Below.refl _ _) rfl
     ·intro a' w' hB hdep hoth K hK
      obtain ⟨vg, gg, eg⟩ := hdep ⟨2, .guard⟩ (by simp) rfl
      have gg := gg 15 rfl (by simp)
      obtain rfl : vg = .bool false := eg
      rw [guard_is rfl rfl gg]
      rw [if_pos (by decide)]
      have hbw : Below V1.heap.size V1 w' := (below_drewN (Below.refl _ _) 1).trans hB
      obtain ⟨vx0, gx0, ex0⟩ := hdep ⟨3, .data⟩ (by simp) rfl
      have gx0 := gx0 16 rfl (by simp)
      obtain rfl : vx0 = .slice (some ⟨b1, o1, none⟩) L.length sc := ex0
      clear hdep hoth
      go_simp
      exact hK _ _ (Below.refl _ _) rfl
     ·intro a' w' hB hdep hoth K hK
      obtain ⟨vg, gg, eg⟩ := hdep ⟨2, .guard⟩ (by simp) rfl
      have gg := gg 15 rfl (by simp)
      obtain rfl : vg = .bool false := eg
      rw [guard_is rfl rfl gg]
      rw [if_pos (by decide)]
      have hbw : Below V1.heap.size V1 w' := (below_drewN (Below.refl _ _) 1).trans hB
      obtain ⟨vx0, gx0, ex0⟩ := hdep ⟨4, .data⟩ (by simp) rfl
      have gx0 := gx0 17 rfl (by simp)
      obtain rfl : vx0 = .pointer (some ⟨b1, o1 + 1, none⟩) := ex0
      have r1 := cell_below S1.out hbw
      have lb1 : b1 < w'.heap.size := Nat.lt_of_lt_of_le LB2.out hbw.size
      clear hdep hoth
      go_simp
      exact hK _ _ (Below.refl _ _) rfl
     ·intro a' w' hB hdep hoth K hK
      obtain ⟨vg, gg, eg⟩ := hdep ⟨2, .guard⟩ (by simp) rfl
      have gg := gg 15 rfl (by simp)
      obtain rfl : vg = .bool false := eg
      rw [guard_is rfl rfl gg]
      rw [if_pos (by decide)]
      have hbw : Below V1.heap.size V1 w' := (below_drewN (Below.refl _ _) 1).trans hB
      obtain ⟨vx0, gx0, ex0⟩ := hdep ⟨5, .data⟩ (by simp) rfl
      have gx0 := gx0 18 rfl (by simp)
      obtain rfl : vx0 = .int .i64 x1 := ex0
      clear hdep hoth
      go_simp
      exact hK _ _ (Below.refl _ _) rfl
     ·intro a' w' hB hdep hoth K hK
      rw [if_pos (guard_none rfl)]
      have hbw : Below V1.heap.size V1 w' := (below_drewN (Below.refl _ _) 1).trans hB
      obtain ⟨vx0, gx0, ex0⟩ := hdep ⟨2, .data⟩ (by simp) rfl
      have gx0 := gx0 15 rfl (by simp)
      obtain rfl : vx0 = .bool false := ex0
      obtain ⟨vx1, gx1, ex1⟩ := hdep ⟨6, .data⟩ (by simp) rfl
      have gx1 := gx1 19 rfl (by simp)
      obtain rfl : vx1 = .bool true := ex1
      clear hdep hoth
      go_simp
      exact hK _ _ (Below.refl _ _) rfl
     ·intro a' w' hB hdep hoth K hK
      rw [if_pos (guard_none rfl)]
      have hbw : Below V1.heap.size V1 w' := (below_drewN (Below.refl _ _) 1).trans hB
      obtain ⟨vx0, gx0, ex0⟩ := hdep ⟨7, .data⟩ (by simp) rfl
      have gx0 := gx0 20 rfl (by simp)
      obtain rfl : vx0 = .bool true := ex0
      clear hdep hoth
      go_simp
      exact hK _ _ (Below.refl _ _) rfl
     ·intro a' w' hB hdep hoth K hK
      obtain ⟨vg, gg, eg⟩ := hdep ⟨8, .guard⟩ (by simp) rfl
      have gg := gg 21 rfl (by simp)
      obtain rfl : vg = .bool true := eg
      rw [guard_is rfl rfl gg]
      rw [if_neg (by decide)]
      exact hK _ _ (Below.refl _ _) rfl
     ·intro a' w' hB hdep hoth K hK
      obtain ⟨vg, gg, eg⟩ := hdep ⟨8, .guard⟩ (by simp) rfl
      have gg := gg 21 rfl (by simp)
      obtain rfl : vg = .bool true := eg
      rw [guard_is rfl rfl gg]
      rw [if_neg (by decide)]
      exact hK _ _ (Below.refl _ _) rfl
     ·intro a' w' hB hdep hoth K hK
      obtain ⟨vg, gg, eg⟩ := hdep ⟨8, .guard⟩ (by simp) rfl
      have gg := gg 21 rfl (by simp)
      obtain rfl : vg = .bool true := eg
      rw [guard_is rfl rfl gg]
      rw [if_neg (by decide)]
      exact hK _ _ (Below.refl _ _) rfl
     ·intro a' w' hB hdep hoth K hK
      obtain ⟨vg, gg, eg⟩ := hdep ⟨8, .guard⟩ (by simp) rfl
      have gg := gg 21 rfl (by simp)
      obtain rfl : vg = .bool true := eg
      rw [guard_is rfl rfl gg]
      rw [if_neg (by decide)]
      exact hK _ _ (Below.refl _ _) rfl
     ·intro a' w' hB hdep hoth K hK
      obtain ⟨vg, gg, eg⟩ := hdep ⟨8, .guard⟩ (by simp) rfl
      have gg := gg 21 rfl (by simp)
      obtain rfl : vg = .bool true := eg
      rw [guard_is rfl rfl gg]
      rw [if_neg (by decide)]
      exact hK _ _ (Below.refl _ _) rfl
     ·intro a' w' hB hdep hoth K hK
      obtain ⟨vg, gg, eg⟩ := hdep ⟨8, .guard⟩ (by simp) rfl
      have gg := gg 21 rfl (by simp)
      obtain rfl : vg = .bool true := eg
      rw [guard_is rfl rfl gg]
      rw [if_neg (by decide)]
      exact hK _ _ (Below.refl _ _) rfl
     ·intro a' w' hB hdep hoth K hK
      rw [if_pos (guard_none rfl)]
      have hbw : Below V1.heap.size V1 w' := (below_drewN (Below.refl _ _) 1).trans hB
      obtain ⟨vx0, gx0, ex0⟩ := hdep ⟨8, .data⟩ (by simp) rfl
      have gx0 := gx0 21 rfl (by simp)
      obtain rfl : vx0 = .bool true := ex0
      clear hdep hoth
      go_simp
      exact hK _ _ (Below.refl _ _) rfl
    case fin2 =>
     intro vs V2 hB hs
     have hbw : Below V1.heap.size V1 V2 := (below_drewN (Below.refl _ _) 1).trans hB
     have ev15 : vs 15 = .bool true := hs 15 (by decide)
     clear hs
     simp only [actOf, dstAt, if_true, List.getElem?_toArray, List.getElem?_cons_succ, List.getElem?_cons_zero, Option.bind_some, Act.put, List.setIfInBounds_toArray, List.set_cons_zero, List.set_cons_succ, List.length_cons, List.length_nil, Nat.reduceAdd]
     rw [ev15]
     clear hB ev15
     have HO3 := hid (HO2.out.below hbw)
     have HZ3 := hid (blk_below HZ2.out hbw (blk_lt HZ2.out))
     have HB3 := hid (HB2.out.trans (hbw.mono HB2.out.size))
     clear hbw
     go_upto_region 3 with (fail)
     obtain ⟨hld, X, m', i', k', hst, bb, hend⟩ := ref_end (HO3.out) (HZ3.out) (HB3.out) HBW.out
     have HBB := hid bb
     have HEND := hid hend
     clear bb hend
     go_wp2
     refine bodyPost_ret (results_cell_row rfl _ _ (W.heap.size + 1) 33 _ _ _ rfl HBB.out brain_under rfl (brain_size (brT_bc _ _ _ _ _))) rfl ?_
     exact HEND.out
   ·have d1 : decide (x1 < 1) = false := decide_eq_false hx1
    rcases hcK with rfl | ⟨j, rfl⟩
    ·have HRX := hid (show RR = madeX B i x x1 x2 by rw [← HRR.out, if_neg (by omega)]; simp only [Int.toNat_natCast]; rw [HX.out])
     clear hx1
     go_wp2_with fail
     refine wp_region_held_drew (S := fun _ => True) (by kernel_rfl) trivial (fun _ => ?_)
     refine wpAnyH_grownG (w0 := V1.drew) (spL [fun z _ => z = .int .i64 ((i : Int)), fun z _ => z = .bool false, fun z _ => z = .bool false, fun z _ => z = .slice (some ⟨b1, o1, none⟩) L.length sc, fun z _ => z = .pointer (some ⟨b1, o1 + 1, none⟩), fun z _ => z = .int .i64 x1, fun z _ => z = .bool false, fun z _ => z = .bool false, fun z _ => z = .bool false, fun z _ => z = (.agg (brT B.f B.g mv iv kv)), fun z _ => z = .slice (some ⟨b1, o1, none⟩) L.length sc, fun z _ => z = .pointer (some ⟨b1, o1 + 1, none⟩), fun z _ => z = .int .i64 x1, fun z _ => z = .int .i64 (-1), fun z _ => z = .bool false, fun z _ => z = .bool false]) (spL_stays ⟨stays_eq _, stays_eq _, stays_eq _, stays_eq _, stays_eq _, stays_eq _, stays_eq _, stays_eq _, stays_eq _, stays_eq _, stays_eq _, stays_eq _, stays_eq _, stays_eq _, stays_eq _, stays_eq _, trivial⟩) (by kernel_rfl) (by kernel_rfl) ?steps2 ?fin2 rfl
     case steps2 =>
      refine ⟨?_, ?_, ?_, ?_, ?_, ?_, ?_, ?_, ?_, ?_, ?_, ?_, ?_, ?_, ?_, ?_, trivial⟩
      ·intro a' w' hB hdep hoth K hK
       rw [if_pos (guard_none rfl)]
       have hbw : Below V1.heap.size V1 w' := (below_drewN (Below.refl _ _) 1).trans hB
       have t5 := hoth 5 (notDst_at (by kernel_rfl))
       simp only [List.getElem?_toArray, List.getElem?_cons_succ, List.getElem?_cons_zero] at t5
       clear hdep hoth
       go_simp
       exact hK _ _ (Below.refl _ _) rfl
      ·intro a' w' hB hdep hoth K hK
       rw [if_pos (guard_none rfl)]
       have hbw : Below V1.heap.size V1 w' := (below_drewN (Below.refl _ _) 1).trans hB
       obtain ⟨vx0, gx0, ex0⟩ := hdep ⟨0, .data⟩ (by simp) rfl
       have gx0 := gx0 13 rfl (by simp)
       obtain rfl : vx0 = .int .i64 ((i : Int)) := ex0
       clear hdep hoth
       go_simp
       exact hK _ _ (Below.refl _ _) rfl
      ·intro a' w' hB hdep hoth K hK
       rw [if_pos (guard_none rfl)]
       have hbw : Below V1.heap.size V1 w' := (below_drewN (Below.refl _ _) 1).trans hB
       obtain ⟨vx0, gx0, ex0⟩ := hdep ⟨1, .data⟩ (by simp) rfl
       have gx0 := gx0 14 rfl (by simp)
       obtain rfl : vx0 = .bool false := ex0
       clear hdep hoth
       go_simp
       exact hK _ _ (Below.refl _ _) rfl
      ·intro a' w' hB hdep hoth K hK
       obtain ⟨vg, gg, eg⟩ := hdep ⟨2, .guard⟩ (by simp) rfl
       have gg := gg 15 rfl (by simp)
       obtain rfl : vg = .bool false := eg
       rw [guard_is rfl rfl gg]
       rw [if_pos (by decide)]
       have hbw : Below V1.heap.size V1 w' := (below_drewN (Below.refl _ _) 1).trans hB
       have t1 := hoth 1 (notDst_at (by kernel_rfl))
       simp only [List.getElem?_toArray, List.getElem?_cons_succ, List.getElem?_cons_zero] at t1
       clear hdep hoth
       go_simp
       exact hK _ _ (Below.refl _ _) rfl
      ·intro a' w' hB hdep hoth K hK
       obtain ⟨vg, gg, eg⟩ := hdep ⟨2, .guard⟩ (by simp) rfl
       have gg := gg 15 rfl (by simp)
       obtain rfl : vg = .bool false := eg
       rw [guard_is rfl rfl gg]
       rw [if_pos (by decide)]
       have hbw : Below V1.heap.size V1 w' := (below_drewN (Below.refl _ _) 1).trans hB
       obtain ⟨vx0, gx0, ex0⟩ := hdep ⟨3, .data⟩ (by simp) rfl
       have gx0 := gx0 16 rfl (by simp)
       obtain rfl : vx0 = .slice (some ⟨b1, o1, none⟩) L.length sc := ex0
       clear hdep hoth
       go_simp
       exact hK _ _ (Below.refl _ _) rfl
      ·intro a' w' hB hdep hoth K hK
       obtain ⟨vg, gg, eg⟩ := hdep ⟨2, .guard⟩ (by simp) rfl
       have gg := gg 15 rfl (by simp)
       obtain rfl : vg = .bool false := eg
       rw [guard_is rfl rfl gg]
       rw [if_pos (by decide)]
       have hbw : Below V1.heap.size V1 w' := (below_drewN (Below.refl _ _) 1).trans hB
       obtain ⟨vx0, gx0, ex0⟩ := hdep ⟨4, .data⟩ (by simp) rfl
       have gx0 := gx0 17 rfl (by simp)
       obtain rfl : vx0 = .pointer (some ⟨b1, o1 + 1, none⟩) := ex0
       have r1 := cell_below S1.out hbw
       have lb1 : b1 < w'.heap.size := Nat.lt_of_lt_of_le LB2.out hbw.size
       clear hdep hoth
       go_simp
       exact hK _ _ (Below.refl _ _) rfl
      ·intro a' w' hB hdep hoth K hK
       obtain ⟨vg, gg, eg⟩ := hdep ⟨2, .guard⟩ (by simp) rfl
       have gg := gg 15 rfl (by simp)
       obtain rfl : vg = .bool false := eg
       rw [guard_is rfl rfl gg]
       rw [if_pos (by decide)]
       have hbw : Below V1.heap.size V1 w' := (below_drewN (Below.refl _ _) 1).trans hB
       obtain ⟨vx0, gx0, ex0⟩ := hdep ⟨5, .data⟩ (by simp) rfl
       have gx0 := gx0 18 rfl (by simp)
       obtain rfl : vx0 = .int .i64 x1 := ex0
       clear hdep hoth
       go_simp
       exact hK _ _ (Below.refl _ _) rfl
      ·intro a' w' hB hdep hoth K hK
       rw [if_pos (guard_none rfl)]
       have hbw : Below V1.heap.size V1 w' := (below_drewN (Below.refl _ _) 1).trans hB
       obtain ⟨vx0, gx0, ex0⟩ := hdep ⟨2, .data⟩ (by simp) rfl
       have gx0 := gx0 15 rfl (by simp)
       obtain rfl : vx0 = .bool false := ex0
       obtain ⟨vx1, gx1, ex1⟩ := hdep ⟨6, .data⟩ (by simp) rfl
       have gx1 := gx1 19 rfl (by simp)
       obtain rfl : vx1 = .bool false := ex1
       clear hdep hoth
       go_simp
       exact hK _ _ (Below.refl _ _) rfl
      ·intro a' w' hB hdep hoth K hK
       rw [if_pos (guard_none rfl)]
       have hbw : Below V1.heap.size V1 w' := (below_drewN (Below.refl _ _) 1).trans hB
       obtain ⟨vx0, gx0, ex0⟩ := hdep ⟨7, .data⟩ (by simp) rfl
       have gx0 := gx0 20 rfl (by simp)
       obtain rfl : vx0 = .bool false := ex0
       clear hdep hoth
       go_simp
       exact hK _ _ (Below.refl _ _) rfl
      ·intro a' w' hB hdep hoth K hK
       obtain ⟨vg, gg, eg⟩ := hdep ⟨8, .guard⟩ (by simp) rfl
       have gg := gg 21 rfl (by simp)
       obtain rfl : vg = .bool false := eg
       rw [guard_is rfl rfl gg]
       rw [if_pos (by decide)]
       have hbw : Below V1.heap.size V1 w' := (below_drewN (Below.refl _ _) 1).trans hB
       have t2 := hoth 2 (notDst_at (by kernel_rfl))
       simp only [List.getElem?_toArray, List.getElem?_cons_succ, List.getElem?_cons_zero] at t2
       have hld := (HVAR2.out.below hbw).load
       clear hdep hoth
       go_simp
       exact hK _ _ (Below.refl _ _) rfl
      ·intro a' w' hB hdep hoth K hK
       obtain ⟨vg, gg, eg⟩ := hdep ⟨8, .guard⟩ (by simp) rfl
       have gg := gg 21 rfl (by simp)
       obtain rfl : vg = .bool false := eg
       rw [guard_is rfl rfl gg]
       rw [if_pos (by decide)]
       have hbw : Below V1.heap.size V1 w' := (below_drewN (Below.refl _ _) 1).trans hB
       have t1 := hoth 1 (notDst_at (by kernel_rfl))
       simp only [List.getElem?_toArray, List.getElem?_cons_succ, List.getElem?_cons_zero] at t1
       clear hdep hoth
       go_simp
       exact hK _ _ (Below.refl _ _) rfl
      ·intro a' w' hB hdep hoth K hK
       obtain ⟨vg, gg, eg⟩ := hdep ⟨8, .guard⟩ (by simp) rfl
       have gg := gg 21 rfl (by simp)
       obtain rfl : vg = .bool false := eg
       rw [guard_is rfl rfl gg]
       rw [if_pos (by decide)]
       have hbw : Below V1.heap.size V1 w' := (below_drewN (Below.refl _ _) 1).trans hB
       obtain ⟨vx0, gx0, ex0⟩ := hdep ⟨10, .data⟩ (by simp) rfl
       have gx0 := gx0 23 rfl (by simp)
       obtain rfl : vx0 = .slice (some ⟨b1, o1, none⟩) L.length sc := ex0
       clear hdep hoth
       go_simp
       exact hK _ _ (Below.refl _ _) rfl
      ·intro a' w' hB hdep hoth K hK
       obtain ⟨vg, gg, eg⟩ := hdep ⟨8, .guard⟩ (by simp) rfl
       have gg := gg 21 rfl (by simp)
       obtain rfl : vg = .bool false := eg
       rw [guard_is rfl rfl gg]
       rw [if_pos (by decide)]
       have hbw : Below V1.heap.size V1 w' := (below_drewN (Below.refl _ _) 1).trans hB
       obtain ⟨vx0, gx0, ex0⟩ := hdep ⟨11, .data⟩ (by simp) rfl
       have gx0 := gx0 24 rfl (by simp)
       obtain rfl : vx0 = .pointer (some ⟨b1, o1 + 1, none⟩) := ex0
       have r1 := cell_below S1.out hbw
       have lb1 : b1 < w'.heap.size := Nat.lt_of_lt_of_le LB2.out hbw.size
       clear hdep hoth
       go_simp
       exact hK _ _ (Below.refl _ _) rfl
      ·intro a' w' hB hdep hoth K hK
       obtain ⟨vg, gg, eg⟩ := hdep ⟨8, .guard⟩ (by simp) rfl
       have gg := gg 21 rfl (by simp)
       obtain rfl : vg = .bool false := eg
       rw [guard_is rfl rfl gg]
       rw [if_pos (by decide)]
       have hbw : Below V1.heap.size V1 w' := (below_drewN (Below.refl _ _) 1).trans hB
       obtain ⟨vx0, gx0, ex0⟩ := hdep ⟨9, .data⟩ (by simp) rfl
       have gx0 := gx0 22 rfl (by simp)
       obtain rfl : vx0 = (.agg (brT B.f B.g mv iv kv)) := ex0
       obtain ⟨vx1, gx1, ex1⟩ := hdep ⟨12, .data⟩ (by simp) rfl
       have gx1 := gx1 25 rfl (by simp)
       obtain rfl : vx1 = .int .i64 x1 := ex1
       have HA := hid (rfind13_at B _ x1 (-1) HZK.out _ (HVAR2.out.below hbw).is)
       clear hdep hoth
       go_simp
       refine HA.out.mono ?_
       rintro e w'' ⟨rfl, hb⟩
       exact hK _ _ hb rfl
      ·intro a' w' hB hdep hoth K hK
       obtain ⟨vg, gg, eg⟩ := hdep ⟨8, .guard⟩ (by simp) rfl
       have gg := gg 21 rfl (by simp)
       obtain rfl : vg = .bool false := eg
       rw [guard_is rfl rfl gg]
       rw [if_pos (by decide)]
       have hbw : Below V1.heap.size V1 w' := (below_drewN (Below.refl _ _) 1).trans hB
       obtain ⟨vx0, gx0, ex0⟩ := hdep ⟨13, .data⟩ (by simp) rfl
       have gx0 := gx0 26 rfl (by simp)
       obtain rfl : vx0 = .int .i64 (-1) := ex0
       clear hdep hoth
       go_simp
       exact hK _ _ (Below.refl _ _) rfl
      ·intro a' w' hB hdep hoth K hK
       rw [if_pos (guard_none rfl)]
       have hbw : Below V1.heap.size V1 w' := (below_drewN (Below.refl _ _) 1).trans hB
       obtain ⟨vx0, gx0, ex0⟩ := hdep ⟨8, .data⟩ (by simp) rfl
       have gx0 := gx0 21 rfl (by simp)
       obtain rfl : vx0 = .bool false := ex0
       obtain ⟨vx1, gx1, ex1⟩ := hdep ⟨14, .data⟩ (by simp) rfl
       have gx1 := gx1 27 rfl (by simp)
       obtain rfl : vx1 = .bool false := ex1
       clear hdep hoth
       go_simp
       exact hK _ _ (Below.refl _ _) rfl
     case fin2 =>
      intro vs V2 hB hs
      have hbw : Below V1.heap.size V1 V2 := (below_drewN (Below.refl _ _) 1).trans hB
      have ev15 : vs 15 = .bool false := hs 15 (by decide)
      clear hs
      simp only [actOf, dstAt, if_true, List.getElem?_toArray, List.getElem?_cons_succ, List.getElem?_cons_zero, Option.bind_some, Act.put, List.setIfInBounds_toArray, List.set_cons_zero, List.set_cons_succ, List.length_cons, List.length_nil, Nat.reduceAdd]
      rw [ev15]
      clear hB ev15
      have HO3 := hid (HO2.out.below hbw)
      have HZ3 := hid (blk_below HZ2.out hbw (blk_lt HZ2.out))
      have HB3 := hid (HB2.out.trans (hbw.mono HB2.out.size))
      have P1 := hid (cell_below S1.out hbw)
      have P2 := hid (cell_below S2.out hbw)
      have LB3 := hid (Nat.lt_of_lt_of_le LB2.out hbw.size)
      clear hbw
      have hil0 : 0 < B.I.length := by omega
      obtain ⟨ia, ic, rfl, hrowI⟩ := HO3.out.iv_shape
      obtain ⟨_, _, ee, p1, p2, p3, hopI⟩ := hrowI.open
      simp only [Value.slice.injEq, true_and] at ee
      obtain ⟨rfl, rfl⟩ := ee
      obtain ⟨bI, oI, rfl, hbI, hrI⟩ := hopI hil0
      obtain ⟨y0, y1, y2, y3⟩ := rowI hrI HX.out
      have c18 : V2.cell? ⟨W.heap.size, 18, none⟩ = some (.slice (some ⟨bI, oI, none⟩) B.I.length ic) := HO3.out.cell 18 _ rfl
      have lb := HO3.out.lt
      have hiL : (i : Int) < (B.I.length : Int) := by omega
      have HROWI := hid hrowI
      clear hrowI hopI hrI
      go_upto_region 5 with (fail)
      refine wp_named (fun V4 hV4 => ?_)
      have hb4 : Below V2.heap.size V2 V4 := by rw [hV4]; exact (Below.refl _ _).alloc (Nat.le_refl _) _
      have HX4 := hid (show V4.heap[V2.heap.size]? = some (.cells (encIn x).toArray 54) by rw [hV4]; exact heap_new _ _)
      have HO4 := hid (HO3.out.below hb4)
      have HZ4 := hid (blk_below HZ3.out hb4 (blk_lt HZ3.out))
      have HB4 := hid (HB3.out.trans (hb4.mono HB3.out.size))
      have HRI := hid (HROWI.out.below hb4)
      have Q1 := hid (cell_below P1.out hb4)
      have Q2 := hid (cell_below P2.out hb4)
      have LB4 := hid (Nat.lt_of_lt_of_le LB3.out hb4.size)
      have LW2 := hid (HO3.out.lt)
      clear hV4 hb4 y0 y1 y2 y3 c18 lb hiL
      obtain ⟨T6, hT6⟩ : ∃ T, V2.heap.size = T := ⟨_, rfl⟩
      rw [hT6] at HX4 LW2 ⊢
      clear hT6 hbI
      refine wp_region_cut 12 2 (fun _ => True) (by kernel_rfl) (by kernel_rfl) (by kernel_rfl) ?_
      simp only [List.take_succ_cons, List.take_zero]
      refine wpAnyH_grownD (w0 := V4.drew) (spL _) (relD [5, 11] (KeptT 33) [] KeptE) (aliveD [(5, 0), (11, 5)]) (ancD [(5, 11)]) (spD (n := 12) (m := 12) (l := [NewRow 54 V4.heap.size, fun z _ => z = .pointer (some ⟨W.heap.size, 18, none⟩), fun z _ => z = .slice (some ⟨bI, oI, none⟩) B.I.length ic, fun z _ => z = .int .i64 (i : Int), fun z _ => z = sliced (some ⟨bI, oI, none⟩) 0 i ic 4, fun v w => OwnN w V4.heap.size v ([] ++ B.I.take i), fun z _ => z = .pointer (some ⟨W.heap.size, 18, none⟩), fun z _ => z = .slice (some ⟨bI, oI, none⟩) B.I.length ic, fun z _ => z = .int .i64 (i : Int), fun z _ => z = .int .i64 ((i + 1 : Nat) : Int), fun z _ => z = sliced (some ⟨bI, oI, none⟩) (i + 1) B.I.length ic 4, fun v w => OwnN w V4.heap.size v ([] ++ B.I.take i ++ B.I.drop (i + 1))]) (apps := [5, 11]) (stab := [1, 2, 3, 4, 6, 7, 8, 9, 10]) (appsE := []) (stabE := []) ⟨stays_newRow _ _, stays_eq _, stays_eq _, stays_eq _, stays_eq _, stays_owns 4 _ encIn _ _, stays_eq _, stays_eq _, stays_eq _, stays_eq _, stays_eq _, stays_owns 4 _ encIn _ _, trivial⟩ ⟨stw_eq _ _, stw_eq _ _, stw_eq _ _, stw_eq _ _, stw_eq _ _, stw_eq _ _, stw_eq _ _, stw_eq _ _, stw_eq _ _, trivial⟩ trivial rfl (by decide) (by decide)) (by kernel_rfl) (by kernel_rfl) (by kernel_rfl) (by kernel_rfl) ?steps5 ?fin5 rfl
      case steps5 =>
       refine ⟨?_, ?_, ?_, ?_, ?_, ?_, ?_, ?_, ?_, ?_, ?_, ?_, trivial⟩
       ·intro a' w' hB hdep hoth K hK
        have hK := growB hB hK
        rw [if_pos (guard_none rfl)]
        have hbw : Below V4.heap.size V4 w' := (below_drewN (Below.refl _ _) 1).trans hB
        clear hdep hoth
        go_simp
        exact hK _ _ ((Below.refl _ _).alloc (Nat.le_refl _) _) ⟨_, rfl, hbw.size, heap_new _ _⟩
       ·intro a' w' hB hdep hoth K hK
        have hK := growB hB hK
        rw [if_pos (guard_none rfl)]
        have hbw : Below V4.heap.size V4 w' := (below_drewN (Below.refl _ _) 1).trans hB
        have t2 := hoth 2 (notDst_at (by kernel_rfl))
        simp only [List.getElem?_toArray, List.getElem?_cons_succ, List.getElem?_cons_zero] at t2
        clear hdep hoth
        go_simp
        exact hK _ _ (Below.refl _ _) rfl
       ·intro a' w' hB hdep hoth K hK
        have hK := growB hB hK
        rw [if_pos (guard_none rfl)]
        have hbw : Below V4.heap.size V4 w' := (below_drewN (Below.refl _ _) 1).trans hB
        obtain ⟨vx0, gx0, ex0⟩ := hdep ⟨1, .data⟩ (by simp) rfl
        have gx0 := gx0 36 rfl (by simp)
        obtain rfl : vx0 = .pointer (some ⟨W.heap.size, 18, none⟩) := ex0
        have cc : w'.cell? ⟨W.heap.size, 18, none⟩ = some (.slice (some ⟨bI, oI, none⟩) B.I.length ic) := (HO4.out.below hbw).cell 18 _ rfl
        have lb := (HO4.out.below hbw).lt
        clear hdep hoth
        go_simp
        exact hK _ _ (Below.refl _ _) rfl
       ·intro a' w' hB hdep hoth K hK
        have hK := growB hB hK
        rw [if_pos (guard_none rfl)]
        have hbw : Below V4.heap.size V4 w' := (below_drewN (Below.refl _ _) 1).trans hB
        have t5 := hoth 5 (notDst_at (by kernel_rfl))
        simp only [List.getElem?_toArray, List.getElem?_cons_succ, List.getElem?_cons_zero] at t5
        clear hdep hoth
        go_simp
        exact hK _ _ (Below.refl _ _) rfl
       ·intro a' w' hB hdep hoth K hK
        have hK := growB hB hK
        rw [if_pos (guard_none rfl)]
        have hbw : Below V4.heap.size V4 w' := (below_drewN (Below.refl _ _) 1).trans hB
        obtain ⟨vx0, gx0, ex0⟩ := hdep ⟨2, .data⟩ (by simp) rfl
        have gx0 := gx0 37 rfl (by simp)
        obtain rfl : vx0 = .slice (some ⟨bI, oI, none⟩) B.I.length ic := ex0
        obtain ⟨vx1, gx1, ex1⟩ := hdep ⟨3, .data⟩ (by simp) rfl
        have gx1 := gx1 38 rfl (by simp)
        obtain rfl : vx1 = .int .i64 (i : Int) := ex1
        have hsl := upto_in ((some ⟨bI, oI, none⟩)) B.I.length ic i (by omega)
        clear hdep hoth
        go_simp
        exact hK _ _ (Below.refl _ _) rfl
       ·intro a' w' hB hdep hoth K hK
        have hbw : Below V4.heap.size V4 w' := (below_drewN (Below.refl _ _) 1).trans hB
        obtain ⟨vO, gO, eO⟩ := hdep ⟨0, .data⟩ (by simp) rfl
        have gO := gO 35 rfl (by simp)
        obtain ⟨vx, gx, ex⟩ := hdep ⟨4, .data⟩ (by simp) rfl
        have gx := gx 39 rfl (by simp)
        obtain rfl : vx = sliced (some ⟨bI, oI, none⟩) 0 i ic 4 := ex
        obtain ⟨g, rfl, hg1, hg0⟩ := eO
        have eO : OwnN w' V4.heap.size (.slice (some ⟨g, 0, none⟩) 0 0) [] := newRow_owns hg1 hg0
        refine step_append_row rfl _ _ 28 rfl V4.heap.size 54 j0 _ 32 Tryz.underlying28 HJ0.out HJ1.out HJ2.out HJ3.out rfl (by decide) encIn_len _ ([]) (by simp [Act.eval, gO]) eO (sliced (some ⟨bI, oI, none⟩) 0 i ic 4) (B.I.take i) (by simp [Act.eval, gx]) (one_of encIn_one _) (row_upto (HRI.out.below hbw) (by omega)) (by unfold maxLen; simp; omega) (by simp; omega) hbw.size ?_
        intro v' w'' hown hbb hgr
        exact hK v' w'' (hB.trans hbb) (KeptT.grown hgr (fun r e => Owns.typed eO r e) (by decide)) hown
       ·intro a' w' hB hdep hoth K hK
        have hK := growB hB hK
        rw [if_pos (guard_none rfl)]
        have hbw : Below V4.heap.size V4 w' := (below_drewN (Below.refl _ _) 1).trans hB
        have t2 := hoth 2 (notDst_at (by kernel_rfl))
        simp only [List.getElem?_toArray, List.getElem?_cons_succ, List.getElem?_cons_zero] at t2
        clear hdep hoth
        go_simp
        exact hK _ _ (Below.refl _ _) rfl
       ·intro a' w' hB hdep hoth K hK
        have hK := growB hB hK
        rw [if_pos (guard_none rfl)]
        have hbw : Below V4.heap.size V4 w' := (below_drewN (Below.refl _ _) 1).trans hB
        obtain ⟨vx0, gx0, ex0⟩ := hdep ⟨6, .data⟩ (by simp) rfl
        have gx0 := gx0 41 rfl (by simp)
        obtain rfl : vx0 = .pointer (some ⟨W.heap.size, 18, none⟩) := ex0
        have cc : w'.cell? ⟨W.heap.size, 18, none⟩ = some (.slice (some ⟨bI, oI, none⟩) B.I.length ic) := (HO4.out.below hbw).cell 18 _ rfl
        have lb := (HO4.out.below hbw).lt
        clear hdep hoth
        go_simp
        exact hK _ _ (Below.refl _ _) rfl
       ·intro a' w' hB hdep hoth K hK
        have hK := growB hB hK
        rw [if_pos (guard_none rfl)]
        have hbw : Below V4.heap.size V4 w' := (below_drewN (Below.refl _ _) 1).trans hB
        have t5 := hoth 5 (notDst_at (by kernel_rfl))
        simp only [List.getElem?_toArray, List.getElem?_cons_succ, List.getElem?_cons_zero] at t5
        clear hdep hoth
        go_simp
        exact hK _ _ (Below.refl _ _) rfl
       ·intro a' w' hB hdep hoth K hK
        have hK := growB hB hK
        rw [if_pos (guard_none rfl)]
        have hbw : Below V4.heap.size V4 w' := (below_drewN (Below.refl _ _) 1).trans hB
        obtain ⟨vx0, gx0, ex0⟩ := hdep ⟨8, .data⟩ (by simp) rfl
        have gx0 := gx0 43 rfl (by simp)
        obtain rfl : vx0 = .int .i64 (i : Int) := ex0
        have hsum : IntKind.i64.wrap ((i : Int) + 1) = ((i + 1 : Nat) : Int) := by rw [IntKind.wrap_i64]; omega
        clear hdep hoth
        go_simp
        exact hK _ _ (Below.refl _ _) rfl
       ·intro a' w' hB hdep hoth K hK
        have hK := growB hB hK
        rw [if_pos (guard_none rfl)]
        have hbw : Below V4.heap.size V4 w' := (below_drewN (Below.refl _ _) 1).trans hB
        obtain ⟨vx0, gx0, ex0⟩ := hdep ⟨7, .data⟩ (by simp) rfl
        have gx0 := gx0 42 rfl (by simp)
        obtain rfl : vx0 = .slice (some ⟨bI, oI, none⟩) B.I.length ic := ex0
        obtain ⟨vx1, gx1, ex1⟩ := hdep ⟨9, .data⟩ (by simp) rfl
        have gx1 := gx1 44 rfl (by simp)
        obtain rfl : vx1 = .int .i64 ((i + 1 : Nat) : Int) := ex1
        have hsl := from_in ((some ⟨bI, oI, none⟩)) B.I.length ic (i + 1) (by omega)
        simp only [show ((i + 1 : Nat) : Int) = (i : Int) + 1 from by omega] at hsl
        clear hdep hoth
        go_simp
        exact hK _ _ (Below.refl _ _) rfl
       ·intro a' w' hB hdep hoth K hK
        have hbw : Below V4.heap.size V4 w' := (below_drewN (Below.refl _ _) 1).trans hB
        obtain ⟨vO, gO, eO⟩ := hdep ⟨5, .data⟩ (by simp) rfl
        have gO := gO 40 rfl (by simp)
        obtain ⟨vx, gx, ex⟩ := hdep ⟨10, .data⟩ (by simp) rfl
        have gx := gx 45 rfl (by simp)
        obtain rfl : vx = sliced (some ⟨bI, oI, none⟩) (i + 1) B.I.length ic 4 := ex
        have eO : OwnN w' V4.heap.size vO ([] ++ B.I.take i) := eO
        refine step_append_row rfl _ _ 28 rfl V4.heap.size 54 j0 _ 32 Tryz.underlying28 HJ0.out HJ1.out HJ2.out HJ3.out rfl (by decide) encIn_len _ ([] ++ B.I.take i) (by simp [Act.eval, gO]) eO (sliced (some ⟨bI, oI, none⟩) (i + 1) B.I.length ic 4) (B.I.drop (i + 1)) (by simp [Act.eval, gx]) (one_of encIn_one _) (row_from (HRI.out.below hbw) (by omega)) (by unfold maxLen; simp; omega) (by simp; omega) hbw.size ?_
        intro v' w'' hown hbb hgr
        exact hK v' w'' (hB.trans hbb) (KeptT.grown hgr (fun r e => Owns.typed eO r e) (by decide)) hown
      case fin5 =>
       intro vs w' hB hs
       have hbw : Below V4.heap.size V4 w' := (below_drewN (Below.refl _ _) 1).trans hB
       have e11 := hs 11 (by decide) (by decide)
       have e11 : OwnN w' V4.heap.size (vs 11) ([] ++ B.I.take i ++ B.I.drop (i + 1)) := e11
       clear hs
       refine cutQ_held (fun _ => True) (fun f => ?_)
       simp only [actOf, dstAt, if_true, List.getElem?_toArray, List.getElem?_cons_succ, List.getElem?_cons_zero, Option.bind_some, Act.put, List.setIfInBounds_toArray, List.set_cons_zero, List.set_cons_succ, List.length_cons, List.length_nil, Nat.reduceAdd]
       obtain ⟨u, hu⟩ : ∃ u, vs 11 = u := ⟨_, rfl⟩
       rw [hu] at e11
       rw [hu]
       obtain ⟨ua, un, uc, rfl⟩ := e11.shape
       have HOw := hid (HO4.out.below hbw)
       have c18 : w'.cell? ⟨W.heap.size, 18, none⟩ = some (.slice (some ⟨bI, oI, none⟩) B.I.length ic) := HOw.out.cell 18 _ rfl
       have cf := HOw.out.free 18
       have lb := HOw.out.lt
       have HE11 := hid e11
       clear e11 hu
       refine wpAnyH_take (i := 12) (v := ?_) rfl (by kernel_rfl) (by kernel_rfl) (by kernel_rfl) (fun _ _ _ h => h) (Or.inl ⟨by rfl, ?_⟩) trivial ?_
       rotate_left
       ·(intro w hSw; (try dsimp only at hSw); go_simp; try with_reducible rfl)
       try simp only [Act.put, List.setIfInBounds_toArray]
       refine wpAnyH_ready (rs := [13]) (by kernel_rfl) (by simp) ?_
       refine AllReadyH.cons rfl (fun K hK => ?_) AllReadyH.nil
       go_simp
       refine hK.out _ _ trivial (fun _ => ?_)
       clear hK K
       refine wpAnyH_done (by kernel_rfl) ?_ _
       refine wp_namedQ (fun V5 hV5 => ?_)
       have HO5 := hid (show BO base W.heap.size { B with I := B.I.eraseIdx i } mv (.slice ua un uc) kv V5 by rw [hV5, ← erase_td]; exact BO.setInt HOw.out (W' := w') ⟨rfl, rfl, rfl, Nat.le_refl _, fun _ _ _ => rfl⟩ (HE11.out.mono HO4.out.bel.size))
       have HZ5 := hid (show V5.heap[W.heap.size + 1]? = some (.cells #[.int .i64 0, .int .i64 0, .bool false, .int .i64 0, .int .i64 0, .int .i64 0, .int .i64 0, .int .i64 0, .int .i64 0, .int .i64 0, .int .i64 0, .int .i64 0, .int .i64 0, .int .i64 0, .int .i64 0, .int .i64 0, .bool false, .slice none 0 0, .slice none 0 0, .slice none 0 0, .int .u8 0, .int .i64 0, .int .i64 0, .int .i64 0, .bool false, .int .i64 0, .int .i64 0] 33) by rw [hV5]; exact blk_other (blk_below HZ4.out hbw (blk_lt HZ4.out)) (p := ⟨W.heap.size, 18, none⟩) (by simp) _)
       have HX5 := hid (show V5.heap[T6]? = some (.cells (encIn x).toArray 54) by rw [hV5]; exact blk_other (blk_below HX4.out hbw (blk_lt HX4.out)) (p := ⟨W.heap.size, 18, none⟩) (Nat.ne_of_gt LW2.out) _)
       have HB5 := hid (show Below W.heap.size W V5 by rw [hV5]; exact (HB4.out.trans (hbw.mono HB4.out.size)).setCell (p := ⟨W.heap.size, 18, none⟩) (Nat.le_refl _) _)
       have G1 := hid (show V5.cell? ⟨b1, o1 + 1, none⟩ = some (.int .i64 x1) by rw [hV5, World.cell?_setCell_far _ _ _ _ (by dsimp only; have := LW0.out; omega)]; exact cell_below Q1.out hbw)
       have G2 := hid (show V5.cell? ⟨b1, o1 + 2, none⟩ = some (.int .i64 x2) by rw [hV5, World.cell?_setCell_far _ _ _ _ (by dsimp only; have := LW0.out; omega)]; exact cell_below Q2.out hbw)
       have LB5 := hid (show b1 < V5.heap.size from Nat.lt_of_lt_of_le LW0.out HB5.out.size)
       clear hV5 hB hbw c18 cf lb
       go_wp2_with fail
       refine wp_region_cut 14 1 (fun _ => True) (by kernel_rfl) (by kernel_rfl) (by kernel_rfl) ?_
       simp only [List.take_succ_cons, List.take_zero]
       refine wpAnyH_grownD (w0 := V5.drew) (spL _) (relD [] (KeptT 33) [] KeptE) (aliveD []) (ancD []) (spD (n := 14) (m := 14) (l := [fun z _ => z = .slice (some ⟨b1, o1, none⟩) L.length sc, fun z _ => z = .pointer (some ⟨b1, o1 + 1, none⟩), fun z _ => z = .int .i64 x1, fun z _ => z = .pointer (some ⟨T6, 0, none⟩), fun z _ => z = .int .i64 x.token, fun z _ => z = .pointer (some ⟨T6, 1, none⟩), fun z _ => z = .int .i64 x.version, fun z _ => z = .pointer (some ⟨T6, 2, none⟩), fun z _ => z = .int .i64 x.zone, fun z _ => z = .slice (some ⟨b1, o1, none⟩) L.length sc, fun z _ => z = .pointer (some ⟨b1, o1 + 2, none⟩), fun z _ => z = .int .i64 x2, fun z _ => z = .agg #[.int .i64 x1, .int .i64 x.token, .int .i64 x.version, .int .i64 x.zone, .int .u8 1, .int .i64 x2, .bool false, .bool false], NewKp V5]) (apps := []) (stab := []) (appsE := []) (stabE := []) ⟨stays_eq _, stays_eq _, stays_eq _, stays_eq _, stays_eq _, stays_eq _, stays_eq _, stays_eq _, stays_eq _, stays_eq _, stays_eq _, stays_eq _, stays_eq _, stays_newKp _, trivial⟩ trivial trivial rfl (by decide) (by decide)) (by kernel_rfl) (by kernel_rfl) (by kernel_rfl) (by kernel_rfl) ?steps6 ?fin6 rfl
       case steps6 =>
        refine ⟨?_, ?_, ?_, ?_, ?_, ?_, ?_, ?_, ?_, ?_, ?_, ?_, ?_, ?_, trivial⟩
        ·intro a' w' hB hdep hoth K hK
         have hK := growB hB hK
         rw [if_pos (guard_none rfl)]
         have hbw : Below V5.heap.size V5 w' := (below_drewN (Below.refl _ _) 1).trans hB
         have t1 := hoth 1 (notDst_at (by kernel_rfl))
         simp only [List.getElem?_toArray, List.getElem?_cons_succ, List.getElem?_cons_zero] at t1
         clear hdep hoth
         go_simp
         exact hK _ _ (Below.refl _ _) rfl
        ·intro a' w' hB hdep hoth K hK
         have hK := growB hB hK
         rw [if_pos (guard_none rfl)]
         have hbw : Below V5.heap.size V5 w' := (below_drewN (Below.refl _ _) 1).trans hB
         obtain ⟨vx0, gx0, ex0⟩ := hdep ⟨0, .data⟩ (by simp) rfl
         have gx0 := gx0 48 rfl (by simp)
         obtain rfl : vx0 = .slice (some ⟨b1, o1, none⟩) L.length sc := ex0
         clear hdep hoth
         go_simp
         exact hK _ _ (Below.refl _ _) rfl
        ·intro a' w' hB hdep hoth K hK
         have hK := growB hB hK
         rw [if_pos (guard_none rfl)]
         have hbw : Below V5.heap.size V5 w' := (below_drewN (Below.refl _ _) 1).trans hB
         obtain ⟨vx0, gx0, ex0⟩ := hdep ⟨1, .data⟩ (by simp) rfl
         have gx0 := gx0 49 rfl (by simp)
         obtain rfl : vx0 = .pointer (some ⟨b1, o1 + 1, none⟩) := ex0
         have r1 := cell_below G1.out hbw
         have lb1 : b1 < w'.heap.size := Nat.lt_of_lt_of_le LB5.out hbw.size
         clear hdep hoth
         go_simp
         exact hK _ _ (Below.refl _ _) rfl
        ·intro a' w' hB hdep hoth K hK
         have hK := growB hB hK
         rw [if_pos (guard_none rfl)]
         have hbw : Below V5.heap.size V5 w' := (below_drewN (Below.refl _ _) 1).trans hB
         have t6 := hoth 6 (notDst_at (by kernel_rfl))
         simp only [List.getElem?_toArray, List.getElem?_cons_succ, List.getElem?_cons_zero] at t6
         clear hdep hoth
         go_simp
         exact hK _ _ (Below.refl _ _) rfl
        ·intro a' w' hB hdep hoth K hK
         have hK := growB hB hK
         rw [if_pos (guard_none rfl)]
         have hbw : Below V5.heap.size V5 w' := (below_drewN (Below.refl _ _) 1).trans hB
         obtain ⟨vx0, gx0, ex0⟩ := hdep ⟨3, .data⟩ (by simp) rfl
         have gx0 := gx0 51 rfl (by simp)
         obtain rfl : vx0 = .pointer (some ⟨T6, 0, none⟩) := ex0
         have hx5 := blk_below HX5.out hbw (blk_lt HX5.out)
         have w0 : w'.cell? ⟨T6, 0, none⟩ = some (.int .i64 x.token) := blk_cell hx5 0
         have w1 : w'.cell? ⟨T6, 1, none⟩ = some (.int .i64 x.version) := blk_cell hx5 1
         have w2 : w'.cell? ⟨T6, 2, none⟩ = some (.int .i64 x.zone) := blk_cell hx5 2
         have lx := blk_lt hx5
         clear hx5
         clear hdep hoth
         go_simp
         exact hK _ _ (Below.refl _ _) rfl
        ·intro a' w' hB hdep hoth K hK
         have hK := growB hB hK
         rw [if_pos (guard_none rfl)]
         have hbw : Below V5.heap.size V5 w' := (below_drewN (Below.refl _ _) 1).trans hB
         have t6 := hoth 6 (notDst_at (by kernel_rfl))
         simp only [List.getElem?_toArray, List.getElem?_cons_succ, List.getElem?_cons_zero] at t6
         clear hdep hoth
         go_simp
         exact hK _ _ (Below.refl _ _) rfl
        ·intro a' w' hB hdep hoth K hK
         have hK := growB hB hK
         rw [if_pos (guard_none rfl)]
         have hbw : Below V5.heap.size V5 w' := (below_drewN (Below.refl _ _) 1).trans hB
         obtain ⟨vx0, gx0, ex0⟩ := hdep ⟨5, .data⟩ (by simp) rfl
         have gx0 := gx0 53 rfl (by simp)
         obtain rfl : vx0 = .pointer (some ⟨T6, 1, none⟩) := ex0
         have hx5 := blk_below HX5.out hbw (blk_lt HX5.out)
         have w0 : w'.cell? ⟨T6, 0, none⟩ = some (.int .i64 x.token) := blk_cell hx5 0
         have w1 : w'.cell? ⟨T6, 1, none⟩ = some (.int .i64 x.version) := blk_cell hx5 1
         have w2 : w'.cell? ⟨T6, 2, none⟩ = some (.int .i64 x.zone) := blk_cell hx5 2
         have lx := blk_lt hx5
         clear hx5
         clear hdep hoth
         go_simp
         exact hK _ _ (Below.refl _ _) rfl
        ·intro a' w' hB hdep hoth K hK
         have hK := growB hB hK
         rw [if_pos (guard_none rfl)]
         have hbw : Below V5.heap.size V5 w' := (below_drewN (Below.refl _ _) 1).trans hB
         have t6 := hoth 6 (notDst_at (by kernel_rfl))
         simp only [List.getElem?_toArray, List.getElem?_cons_succ, List.getElem?_cons_zero] at t6
         clear hdep hoth
         go_simp
         exact hK _ _ (Below.refl _ _) rfl
        ·intro a' w' hB hdep hoth K hK
         have hK := growB hB hK
         rw [if_pos (guard_none rfl)]
         have hbw : Below V5.heap.size V5 w' := (below_drewN (Below.refl _ _) 1).trans hB
         obtain ⟨vx0, gx0, ex0⟩ := hdep ⟨7, .data⟩ (by simp) rfl
         have gx0 := gx0 55 rfl (by simp)
         obtain rfl : vx0 = .pointer (some ⟨T6, 2, none⟩) := ex0
         have hx5 := blk_below HX5.out hbw (blk_lt HX5.out)
         have w0 : w'.cell? ⟨T6, 0, none⟩ = some (.int .i64 x.token) := blk_cell hx5 0
         have w1 : w'.cell? ⟨T6, 1, none⟩ = some (.int .i64 x.version) := blk_cell hx5 1
         have w2 : w'.cell? ⟨T6, 2, none⟩ = some (.int .i64 x.zone) := blk_cell hx5 2
         have lx := blk_lt hx5
         clear hx5
         clear hdep hoth
         go_simp
         exact hK _ _ (Below.refl _ _) rfl
        ·intro a' w' hB hdep hoth K hK
         have hK := growB hB hK
         rw [if_pos (guard_none rfl)]
         have hbw : Below V5.heap.size V5 w' := (below_drewN (Below.refl _ _) 1).trans hB
         have t1 := hoth 1 (notDst_at (by kernel_rfl))
         simp only [List.getElem?_toArray, List.getElem?_cons_succ, List.getElem?_cons_zero] at t1
         clear hdep hoth
         go_simp
         exact hK _ _ (Below.refl _ _) rfl
        ·intro a' w' hB hdep hoth K hK
         have hK := growB hB hK
         rw [if_pos (guard_none rfl)]
         have hbw : Below V5.heap.size V5 w' := (below_drewN (Below.refl _ _) 1).trans hB
         obtain ⟨vx0, gx0, ex0⟩ := hdep ⟨9, .data⟩ (by simp) rfl
         have gx0 := gx0 57 rfl (by simp)
         obtain rfl : vx0 = .slice (some ⟨b1, o1, none⟩) L.length sc := ex0
         clear hdep hoth
         go_simp
         exact hK _ _ (Below.refl _ _) rfl
        ·intro a' w' hB hdep hoth K hK
         have hK := growB hB hK
         rw [if_pos (guard_none rfl)]
         have hbw : Below V5.heap.size V5 w' := (below_drewN (Below.refl _ _) 1).trans hB
         obtain ⟨vx0, gx0, ex0⟩ := hdep ⟨10, .data⟩ (by simp) rfl
         have gx0 := gx0 58 rfl (by simp)
         obtain rfl : vx0 = .pointer (some ⟨b1, o1 + 2, none⟩) := ex0
         have r2 := cell_below G2.out hbw
         have lb1 : b1 < w'.heap.size := Nat.lt_of_lt_of_le LB5.out hbw.size
         clear hdep hoth
         go_simp
         exact hK _ _ (Below.refl _ _) rfl
        ·intro a' w' hB hdep hoth K hK
         have hK := growB hB hK
         rw [if_pos (guard_none rfl)]
         have hbw : Below V5.heap.size V5 w' := (below_drewN (Below.refl _ _) 1).trans hB
         obtain ⟨vx0, gx0, ex0⟩ := hdep ⟨2, .data⟩ (by simp) rfl
         have gx0 := gx0 50 rfl (by simp)
         obtain rfl : vx0 = .int .i64 x1 := ex0
         obtain ⟨vx1, gx1, ex1⟩ := hdep ⟨4, .data⟩ (by simp) rfl
         have gx1 := gx1 52 rfl (by simp)
         obtain rfl : vx1 = .int .i64 x.token := ex1
         obtain ⟨vx2, gx2, ex2⟩ := hdep ⟨6, .data⟩ (by simp) rfl
         have gx2 := gx2 54 rfl (by simp)
         obtain rfl : vx2 = .int .i64 x.version := ex2
         obtain ⟨vx3, gx3, ex3⟩ := hdep ⟨8, .data⟩ (by simp) rfl
         have gx3 := gx3 56 rfl (by simp)
         obtain rfl : vx3 = .int .i64 x.zone := ex3
         obtain ⟨vx4, gx4, ex4⟩ := hdep ⟨11, .data⟩ (by simp) rfl
         have gx4 := gx4 59 rfl (by simp)
         obtain rfl : vx4 = .int .i64 x2 := ex4
         clear hdep hoth
         go_simp
         exact hK _ _ (Below.refl _ _) rfl
        ·intro a' w' hB hdep hoth K hK
         have hK := growB hB hK
         rw [if_pos (guard_none rfl)]
         have hbw : Below V5.heap.size V5 w' := (below_drewN (Below.refl _ _) 1).trans hB
         clear hdep hoth
         go_simp
         exact hK _ _ ((Below.refl _ _).alloc (Nat.le_refl _) _) ⟨w'.heap.size, rfl, hbw.size, heap_new w' _⟩
       case fin6 =>
        intro vs w' hB hs
        have hbw : Below V5.heap.size V5 w' := (below_drewN (Below.refl _ _) 1).trans hB
        have e12 : vs 12 = .agg #[.int .i64 x1, .int .i64 x.token, .int .i64 x.version, .int .i64 x.zone, .int .u8 1, .int .i64 x2, .bool false, .bool false] := hs 12 (by decide) (by decide)
        obtain ⟨T7, e13, hT, hz⟩ := hs 13 (by decide) (by decide)
        clear hs
        refine cutQ_held (fun _ => True) (fun f => ?_)
        simp only [actOf, dstAt, if_true, List.getElem?_toArray, List.getElem?_cons_succ, List.getElem?_cons_zero, Option.bind_some, Act.put, List.setIfInBounds_toArray, List.set_cons_zero, List.set_cons_succ, List.length_cons, List.length_nil, Nat.reduceAdd]
        rw [e12, e13]
        have z0 : w'.cell? ⟨T7, 0, none⟩ = some (.int .i64 0) := blk_cell hz 0
        have z1 : w'.cell? ⟨T7, 1, none⟩ = some (.int .i64 0) := blk_cell hz 1
        have z2 : w'.cell? ⟨T7, 2, none⟩ = some (.int .i64 0) := blk_cell hz 2
        have z3 : w'.cell? ⟨T7, 3, none⟩ = some (.int .i64 0) := blk_cell hz 3
        have z4 : w'.cell? ⟨T7, 4, none⟩ = some (.int .u8 0) := blk_cell hz 4
        have z5 : w'.cell? ⟨T7, 5, none⟩ = some (.int .i64 0) := blk_cell hz 5
        have z6 : w'.cell? ⟨T7, 6, none⟩ = some (.bool false) := blk_cell hz 6
        have z7 : w'.cell? ⟨T7, 7, none⟩ = some (.bool false) := blk_cell hz 7
        have zf0 := blk_free hz 0
        have zf1 := blk_free hz 1
        have zf2 := blk_free hz 2
        have zf3 := blk_free hz 3
        have zf4 := blk_free hz 4
        have zf5 := blk_free hz 5
        have zf6 := blk_free hz 6
        have zf7 := blk_free hz 7
        have zl := blk_lt hz
        have HZ7 := hid hz
        have HT7 := hid hT
        clear hz hT e12 e13
        refine wpAnyH_ready (rs := [14]) (by kernel_rfl) (by simp) ?_
        refine AllReadyH.cons rfl (fun K hK => ?_) AllReadyH.nil
        go_simp
        refine hK.out _ _ trivial (fun _ => ?_)
        clear hK K
        refine wpAnyH_done (by kernel_rfl) ?_ _
        refine wp_namedQ (fun V6 hV6 => ?_)
        have HK6 := hid (show V6.heap[T7]? = some (.cells #[.int .i64 x1, .int .i64 x.token, .int .i64 x.version, .int .i64 x.zone, .int .u8 1, .int .i64 x2, .bool false, .bool false] 51) by rw [hV6]; exact kp_set HZ7.out rfl _ _ _ _ _ _ _ _)
        have HB56 := hid (show Below V5.heap.size V5 V6 by rw [hV6]; exact (((((((hbw.setCell (p := ⟨T7, 0, none⟩) HT7.out _).setCell (p := ⟨T7, 1, none⟩) HT7.out _).setCell (p := ⟨T7, 2, none⟩) HT7.out _).setCell (p := ⟨T7, 3, none⟩) HT7.out _).setCell (p := ⟨T7, 4, none⟩) HT7.out _).setCell (p := ⟨T7, 5, none⟩) HT7.out _).setCell (p := ⟨T7, 6, none⟩) HT7.out _).setCell (p := ⟨T7, 7, none⟩) HT7.out _)
        clear hV6 hB hbw zl z0 z1 z2 z3 z4 z5 z6 z7 zf0 zf1 zf2 zf3 zf4 zf5 zf6 zf7
        have HBT := hid (Nat.ne_of_gt (Nat.lt_of_lt_of_le HO5.out.lt HT7.out))
        have hx6 := blk_below HX5.out HB56.out (blk_lt HX5.out)
        obtain ⟨wq, hwq⟩ : ∃ q, x.warm = q := ⟨_, rfl⟩
        have HWQ := hid hwq
        have w3 : V6.cell? ⟨T6, 3, none⟩ = some (.bool wq) := by rw [← hwq]; exact blk_cell hx6 3
        have lx := blk_lt hx6
        have k4 : V6.cell? ⟨T7, 4, none⟩ = some (.int .u8 1) := blk_cell HK6.out 4
        have kf4 := blk_free HK6.out 4
        have lk := blk_lt HK6.out
        clear hwq hx6
        cases wq with
        | true =>
         go_upto_region 9 with (fail)
         refine wp_named (fun V7 hV7 => ?_)
         have HK7 := hid (show V7.heap[T7]? = some (.cells #[.int .i64 x1, .int .i64 x.token, .int .i64 x.version, .int .i64 x.zone, .int .u8 9, .int .i64 x2, .bool false, .bool false] 51) by rw [hV7]; exact blk_set HK6.out 4 _)
         have hb57 : Below V5.heap.size V5 V7 := by rw [hV7]; exact HB56.out.setCell (p := ⟨T7, 4, none⟩) HT7.out _
         have HO7 := hid (HO5.out.below hb57)
         have HZ7b := hid (blk_below HZ5.out hb57 (blk_lt HZ5.out))
         have HB7 := hid (HB5.out.trans (hb57.mono HB5.out.size))
         have c20 := HO7.out.cell 20 (.int .u8 (B.f 20)) rfl
         have c26 := HO7.out.cell 26 (.int .i64 (B.f 26)) rfl
         have f26 := HO7.out.free 26
         have lb := HO7.out.lt
         clear hV7 hb57 w3 lx k4 kf4 lk
         by_cases h20 : B.f 20 = 1
         ·have H20 := hid h20
          rw [h20] at c20
          clear h20
          go_upto_region 11 with (fail)
          refine wp_named (fun V8 hV8 => ?_)
          have HO8 := hid (show BO base W.heap.size ({ B with I := B.I.eraseIdx i, f := upd B.f 26 0 } : BrainV) mv (.slice ua un uc) kv V8 by rw [hV8]; exact HO7.out.set 26 _ rfl)
          have HK8 := hid (show V8.heap[T7]? = some (.cells #[.int .i64 x1, .int .i64 x.token, .int .i64 x.version, .int .i64 x.zone, .int .u8 9, .int .i64 x2, .bool false, .bool false] 51) by rw [hV8]; exact blk_other HK7.out (p := ⟨W.heap.size, 26, none⟩) HBT.out _)
          have HZ8 := hid (show V8.heap[W.heap.size + 1]? = some (.cells #[.int .i64 0, .int .i64 0, .bool false, .int .i64 0, .int .i64 0, .int .i64 0, .int .i64 0, .int .i64 0, .int .i64 0, .int .i64 0, .int .i64 0, .int .i64 0, .int .i64 0, .int .i64 0, .int .i64 0, .int .i64 0, .bool false, .slice none 0 0, .slice none 0 0, .slice none 0 0, .int .u8 0, .int .i64 0, .int .i64 0, .int .i64 0, .bool false, .int .i64 0, .int .i64 0] 33) by rw [hV8]; exact blk_other HZ7b.out (p := ⟨W.heap.size, 26, none⟩) (by simp) _)
          have HB8 := hid (show Below W.heap.size W V8 by rw [hV8]; exact HB7.out.setCell (p := ⟨W.heap.size, 26, none⟩) (Nat.le_refl _) _)
          clear hV8 c20 c26 f26 lb
          have hld := HO8.out.load
          have k0 : V8.cell? ⟨T7, 0, none⟩ = some (.int .i64 x1) := blk_cell HK8.out 0
          have k1 : V8.cell? ⟨T7, 1, none⟩ = some (.int .i64 x.token) := blk_cell HK8.out 1
          have k2 : V8.cell? ⟨T7, 2, none⟩ = some (.int .i64 x.version) := blk_cell HK8.out 2
          have k3 : V8.cell? ⟨T7, 3, none⟩ = some (.int .i64 x.zone) := blk_cell HK8.out 3
          have k4 : V8.cell? ⟨T7, 4, none⟩ = some (.int .u8 9) := blk_cell HK8.out 4
          have k5 : V8.cell? ⟨T7, 5, none⟩ = some (.int .i64 x2) := blk_cell HK8.out 5
          have k6 : V8.cell? ⟨T7, 6, none⟩ = some (.bool false) := blk_cell HK8.out 6
          have k7 : V8.cell? ⟨T7, 7, none⟩ = some (.bool false) := blk_cell HK8.out 7
          have lk := blk_lt HK8.out
          have HA := hid (rkeep_any ⟨x1, x.token, x.version, x.zone, 9, x2, false, false⟩ HO8.out.end HO8.out.bel (show B.K.length ≤ 10000 by omega))
          rw [show keepB ({ B with I := B.I.eraseIdx i, f := upd B.f 26 0 } : BrainV) ⟨x1, x.token, x.version, x.zone, 9, x2, false, false⟩ = RR by rw [HRX.out]; unfold madeX; rw [if_pos H20.out, HWQ.out]; rfl] at HA
          unfold encKv at HA
          go_wp2_with fail
          refine HA.out.mono ?_
          rintro e V9 ⟨u9, rfl, hend, hb⟩
          have hb9 := HB8.out.trans (hb.mono HB8.out.size)
          obtain ⟨X, hst, hvar, hbv, hbx, _, _⟩ := brEnd_store hend (blk_below HZ8.out hb (blk_lt HZ8.out)) rfl hb9 (Nat.le_succ _)
          have HEND := hid (hbv.end hvar)
          have HVX := hid hvar
          have HBX := hid hbx
          clear hend hb hb9 hvar hbv hbx hld
          go_wp2
          obtain ⟨m', i', k', e, bb, _⟩ := HVX.out
          refine bodyPost_ret (results_cell_row rfl _ _ (W.heap.size + 1) 33 _ _ _ rfl bb brain_under rfl (brain_size (brT_bc _ _ _ _ _))) rfl ?_
          rw [← e]
          exact ⟨_, rfl, HEND.out, HBX.out⟩
         ·have H20 := hid h20
          have d20 : (B.f 20 == 1) = false := by simpa using h20
          clear h20
          go_upto_region 11 with (fail)
          refine wp_named (fun V8 hV8 => ?_)
          have HO8 := hid (show BO base W.heap.size ({ B with I := B.I.eraseIdx i } : BrainV) mv (.slice ua un uc) kv V8 by rw [hV8]; exact HO7.out)
          have HK8 := hid (show V8.heap[T7]? = some (.cells #[.int .i64 x1, .int .i64 x.token, .int .i64 x.version, .int .i64 x.zone, .int .u8 9, .int .i64 x2, .bool false, .bool false] 51) by rw [hV8]; exact HK7.out)
          have HZ8 := hid (show V8.heap[W.heap.size + 1]? = some (.cells #[.int .i64 0, .int .i64 0, .bool false, .int .i64 0, .int .i64 0, .int .i64 0, .int .i64 0, .int .i64 0, .int .i64 0, .int .i64 0, .int .i64 0, .int .i64 0, .int .i64 0, .int .i64 0, .int .i64 0, .int .i64 0, .bool false, .slice none 0 0, .slice none 0 0, .slice none 0 0, .int .u8 0, .int .i64 0, .int .i64 0, .int .i64 0, .bool false, .int .i64 0, .int .i64 0] 33) by rw [hV8]; exact HZ7b.out)
          have HB8 := hid (show Below W.heap.size W V8 by rw [hV8]; exact HB7.out)
          clear hV8 c20 c26 f26 lb
          have hld := HO8.out.load
          have k0 : V8.cell? ⟨T7, 0, none⟩ = some (.int .i64 x1) := blk_cell HK8.out 0
          have k1 : V8.cell? ⟨T7, 1, none⟩ = some (.int .i64 x.token) := blk_cell HK8.out 1
          have k2 : V8.cell? ⟨T7, 2, none⟩ = some (.int .i64 x.version) := blk_cell HK8.out 2
          have k3 : V8.cell? ⟨T7, 3, none⟩ = some (.int .i64 x.zone) := blk_cell HK8.out 3
          have k4 : V8.cell? ⟨T7, 4, none⟩ = some (.int .u8 9) := blk_cell HK8.out 4
          have k5 : V8.cell? ⟨T7, 5, none⟩ = some (.int .i64 x2) := blk_cell HK8.out 5
          have k6 : V8.cell? ⟨T7, 6, none⟩ = some (.bool false) := blk_cell HK8.out 6
          have k7 : V8.cell? ⟨T7, 7, none⟩ = some (.bool false) := blk_cell HK8.out 7
          have lk := blk_lt HK8.out
          have HA := hid (rkeep_any ⟨x1, x.token, x.version, x.zone, 9, x2, false, false⟩ HO8.out.end HO8.out.bel (show B.K.length ≤ 10000 by omega))
          rw [show keepB ({ B with I := B.I.eraseIdx i } : BrainV) ⟨x1, x.token, x.version, x.zone, 9, x2, false, false⟩ = RR by rw [HRX.out]; unfold madeX; rw [if_neg H20.out, HWQ.out]; rfl] at HA
          unfold encKv at HA
          go_wp2_with fail
          refine HA.out.mono ?_
          rintro e V9 ⟨u9, rfl, hend, hb⟩
          have hb9 := HB8.out.trans (hb.mono HB8.out.size)
          obtain ⟨X, hst, hvar, hbv, hbx, _, _⟩ := brEnd_store hend (blk_below HZ8.out hb (blk_lt HZ8.out)) rfl hb9 (Nat.le_succ _)
          have HEND := hid (hbv.end hvar)
          have HVX := hid hvar
          have HBX := hid hbx
          clear hend hb hb9 hvar hbv hbx hld
          go_wp2
          obtain ⟨m', i', k', e, bb, _⟩ := HVX.out
          refine bodyPost_ret (results_cell_row rfl _ _ (W.heap.size + 1) 33 _ _ _ rfl bb brain_under rfl (brain_size (brT_bc _ _ _ _ _))) rfl ?_
          rw [← e]
          exact ⟨_, rfl, HEND.out, HBX.out⟩
        | false =>
         go_upto_region 9 with (fail)
         refine wp_named (fun V7 hV7 => ?_)
         have HK7 := hid (show V7.heap[T7]? = some (.cells #[.int .i64 x1, .int .i64 x.token, .int .i64 x.version, .int .i64 x.zone, .int .u8 1, .int .i64 x2, .bool false, .bool false] 51) by rw [hV7]; exact HK6.out)
         have hb57 : Below V5.heap.size V5 V7 := by rw [hV7]; exact HB56.out
         have HO7 := hid (HO5.out.below hb57)
         have HZ7b := hid (blk_below HZ5.out hb57 (blk_lt HZ5.out))
         have HB7 := hid (HB5.out.trans (hb57.mono HB5.out.size))
         have c20 := HO7.out.cell 20 (.int .u8 (B.f 20)) rfl
         have c26 := HO7.out.cell 26 (.int .i64 (B.f 26)) rfl
         have f26 := HO7.out.free 26
         have lb := HO7.out.lt
         clear hV7 hb57 w3 lx k4 kf4 lk
         by_cases h20 : B.f 20 = 1
         ·have H20 := hid h20
          rw [h20] at c20
          clear h20
          go_upto_region 11 with (fail)
          refine wp_named (fun V8 hV8 => ?_)
          have HO8 := hid (show BO base W.heap.size ({ B with I := B.I.eraseIdx i, f := upd B.f 26 0 } : BrainV) mv (.slice ua un uc) kv V8 by rw [hV8]; exact HO7.out.set 26 _ rfl)
          have HK8 := hid (show V8.heap[T7]? = some (.cells #[.int .i64 x1, .int .i64 x.token, .int .i64 x.version, .int .i64 x.zone, .int .u8 1, .int .i64 x2, .bool false, .bool false] 51) by rw [hV8]; exact blk_other HK7.out (p := ⟨W.heap.size, 26, none⟩) HBT.out _)
          have HZ8 := hid (show V8.heap[W.heap.size + 1]? = some (.cells #[.int .i64 0, .int .i64 0, .bool false, .int .i64 0, .int .i64 0, .int .i64 0, .int .i64 0, .int .i64 0, .int .i64 0, .int .i64 0, .int .i64 0, .int .i64 0, .int .i64 0, .int .i64 0, .int .i64 0, .int .i64 0, .bool false, .slice none 0 0, .slice none 0 0, .slice none 0 0, .int .u8 0, .int .i64 0, .int .i64 0, .int .i64 0, .bool false, .int .i64 0, .int .i64 0] 33) by rw [hV8]; exact blk_other HZ7b.out (p := ⟨W.heap.size, 26, none⟩) (by simp) _)
          have HB8 := hid (show Below W.heap.size W V8 by rw [hV8]; exact HB7.out.setCell (p := ⟨W.heap.size, 26, none⟩) (Nat.le_refl _) _)
          clear hV8 c20 c26 f26 lb
          have hld := HO8.out.load
          have k0 : V8.cell? ⟨T7, 0, none⟩ = some (.int .i64 x1) := blk_cell HK8.out 0
          have k1 : V8.cell? ⟨T7, 1, none⟩ = some (.int .i64 x.token) := blk_cell HK8.out 1
          have k2 : V8.cell? ⟨T7, 2, none⟩ = some (.int .i64 x.version) := blk_cell HK8.out 2
          have k3 : V8.cell? ⟨T7, 3, none⟩ = some (.int .i64 x.zone) := blk_cell HK8.out 3
          have k4 : V8.cell? ⟨T7, 4, none⟩ = some (.int .u8 1) := blk_cell HK8.out 4
          have k5 : V8.cell? ⟨T7, 5, none⟩ = some (.int .i64 x2) := blk_cell HK8.out 5
          have k6 : V8.cell? ⟨T7, 6, none⟩ = some (.bool false) := blk_cell HK8.out 6
          have k7 : V8.cell? ⟨T7, 7, none⟩ = some (.bool false) := blk_cell HK8.out 7
          have lk := blk_lt HK8.out
          have HA := hid (rkeep_any ⟨x1, x.token, x.version, x.zone, 1, x2, false, false⟩ HO8.out.end HO8.out.bel (show B.K.length ≤ 10000 by omega))
          rw [show keepB ({ B with I := B.I.eraseIdx i, f := upd B.f 26 0 } : BrainV) ⟨x1, x.token, x.version, x.zone, 1, x2, false, false⟩ = RR by rw [HRX.out]; unfold madeX; rw [if_pos H20.out, HWQ.out]; rfl] at HA
          unfold encKv at HA
          go_wp2_with fail
          refine HA.out.mono ?_
          rintro e V9 ⟨u9, rfl, hend, hb⟩
          have hb9 := HB8.out.trans (hb.mono HB8.out.size)
          obtain ⟨X, hst, hvar, hbv, hbx, _, _⟩ := brEnd_store hend (blk_below HZ8.out hb (blk_lt HZ8.out)) rfl hb9 (Nat.le_succ _)
          have HEND := hid (hbv.end hvar)
          have HVX := hid hvar
          have HBX := hid hbx
          clear hend hb hb9 hvar hbv hbx hld
          go_wp2
          obtain ⟨m', i', k', e, bb, _⟩ := HVX.out
          refine bodyPost_ret (results_cell_row rfl _ _ (W.heap.size + 1) 33 _ _ _ rfl bb brain_under rfl (brain_size (brT_bc _ _ _ _ _))) rfl ?_
          rw [← e]
          exact ⟨_, rfl, HEND.out, HBX.out⟩
         ·have H20 := hid h20
          have d20 : (B.f 20 == 1) = false := by simpa using h20
          clear h20
          go_upto_region 11 with (fail)
          refine wp_named (fun V8 hV8 => ?_)
          have HO8 := hid (show BO base W.heap.size ({ B with I := B.I.eraseIdx i } : BrainV) mv (.slice ua un uc) kv V8 by rw [hV8]; exact HO7.out)
          have HK8 := hid (show V8.heap[T7]? = some (.cells #[.int .i64 x1, .int .i64 x.token, .int .i64 x.version, .int .i64 x.zone, .int .u8 1, .int .i64 x2, .bool false, .bool false] 51) by rw [hV8]; exact HK7.out)
          have HZ8 := hid (show V8.heap[W.heap.size + 1]? = some (.cells #[.int .i64 0, .int .i64 0, .bool false, .int .i64 0, .int .i64 0, .int .i64 0, .int .i64 0, .int .i64 0, .int .i64 0, .int .i64 0, .int .i64 0, .int .i64 0, .int .i64 0, .int .i64 0, .int .i64 0, .int .i64 0, .bool false, .slice none 0 0, .slice none 0 0, .slice none 0 0, .int .u8 0, .int .i64 0, .int .i64 0, .int .i64 0, .bool false, .int .i64 0, .int .i64 0] 33) by rw [hV8]; exact HZ7b.out)
          have HB8 := hid (show Below W.heap.size W V8 by rw [hV8]; exact HB7.out)
          clear hV8 c20 c26 f26 lb
          have hld := HO8.out.load
          have k0 : V8.cell? ⟨T7, 0, none⟩ = some (.int .i64 x1) := blk_cell HK8.out 0
          have k1 : V8.cell? ⟨T7, 1, none⟩ = some (.int .i64 x.token) := blk_cell HK8.out 1
          have k2 : V8.cell? ⟨T7, 2, none⟩ = some (.int .i64 x.version) := blk_cell HK8.out 2
          have k3 : V8.cell? ⟨T7, 3, none⟩ = some (.int .i64 x.zone) := blk_cell HK8.out 3
          have k4 : V8.cell? ⟨T7, 4, none⟩ = some (.int .u8 1) := blk_cell HK8.out 4
          have k5 : V8.cell? ⟨T7, 5, none⟩ = some (.int .i64 x2) := blk_cell HK8.out 5
          have k6 : V8.cell? ⟨T7, 6, none⟩ = some (.bool false) := blk_cell HK8.out 6
          have k7 : V8.cell? ⟨T7, 7, none⟩ = some (.bool false) := blk_cell HK8.out 7
          have lk := blk_lt HK8.out
          have HA := hid (rkeep_any ⟨x1, x.token, x.version, x.zone, 1, x2, false, false⟩ HO8.out.end HO8.out.bel (show B.K.length ≤ 10000 by omega))
          rw [show keepB ({ B with I := B.I.eraseIdx i } : BrainV) ⟨x1, x.token, x.version, x.zone, 1, x2, false, false⟩ = RR by rw [HRX.out]; unfold madeX; rw [if_neg H20.out, HWQ.out]; rfl] at HA
          unfold encKv at HA
          go_wp2_with fail
          refine HA.out.mono ?_
          rintro e V9 ⟨u9, rfl, hend, hb⟩
          have hb9 := HB8.out.trans (hb.mono HB8.out.size)
          obtain ⟨X, hst, hvar, hbv, hbx, _, _⟩ := brEnd_store hend (blk_below HZ8.out hb (blk_lt HZ8.out)) rfl hb9 (Nat.le_succ _)
          have HEND := hid (hbv.end hvar)
          have HVX := hid hvar
          have HBX := hid hbx
          clear hend hb hb9 hvar hbv hbx hld
          go_wp2
          obtain ⟨m', i', k', e, bb, _⟩ := HVX.out
          refine bodyPost_ret (results_cell_row rfl _ _ (W.heap.size + 1) 33 _ _ _ rfl bb brain_under rfl (brain_size (brT_bc _ _ _ _ _))) rfl ?_
          rw [← e]
          exact ⟨_, rfl, HEND.out, HBX.out⟩
    ·obtain rfl : B = RR := by rw [← HRR.out, if_pos (.inr (.inr (by omega)))]
     have d2 : decide ((0 : Int) ≤ (j : Int)) = true := decide_eq_true (by omega)
     clear hx1
     go_wp2_with fail
     refine wp_region_held_drew (S := fun _ => True) (by kernel_rfl) trivial (fun _ => ?_)
     refine wpAnyH_grownG (w0 := V1.drew) (spL [fun z _ => z = .int .i64 ((i : Int)), fun z _ => z = .bool false, fun z _ => z = .bool false, fun z _ => z = .slice (some ⟨b1, o1, none⟩) L.length sc, fun z _ => z = .pointer (some ⟨b1, o1 + 1, none⟩), fun z _ => z = .int .i64 x1, fun z _ => z = .bool false, fun z _ => z = .bool false, fun z _ => z = .bool false, fun z _ => z = (.agg (brT B.f B.g mv iv kv)), fun z _ => z = .slice (some ⟨b1, o1, none⟩) L.length sc, fun z _ => z = .pointer (some ⟨b1, o1 + 1, none⟩), fun z _ => z = .int .i64 x1, fun z _ => z = .int .i64 ((j : Int)), fun z _ => z = .bool true, fun z _ => z = .bool true]) (spL_stays ⟨stays_eq _, stays_eq _, stays_eq _, stays_eq _, stays_eq _, stays_eq _, stays_eq _, stays_eq _, stays_eq _, stays_eq _, stays_eq _, stays_eq _, stays_eq _, stays_eq _, stays_eq _, stays_eq _, trivial⟩) (by kernel_rfl) (by kernel_rfl) ?steps2 ?fin2 rfl
     case steps2 =>
      refine ⟨?_, ?_, ?_, ?_, ?_, ?_, ?_, ?_, ?_, ?_, ?_, ?_, ?_, ?_, ?_, ?_, trivial⟩
      ·intro a' w' hB hdep hoth K hK
       rw [if_pos (guard_none rfl)]
       have hbw : Below V1.heap.size V1 w' := (below_drewN (Below.refl _ _) 1).trans hB
       have t5 := hoth 5 (notDst_at (by kernel_rfl))
       simp only [List.getElem?_toArray, List.getElem?_cons_succ, List.getElem?_cons_zero] at t5
       clear hdep hoth
       go_simp
       exact hK _ _ (Below.refl _ _) rfl
      ·intro a' w' hB hdep hoth K hK
       rw [if_pos (guard_none rfl)]
       have hbw : Below V1.heap.size V1 w' := (below_drewN (Below.refl _ _) 1).trans hB
       obtain ⟨vx0, gx0, ex0⟩ := hdep ⟨0, .data⟩ (by simp) rfl
       have gx0 := gx0 13 rfl (by simp)
       obtain rfl : vx0 = .int .i64 ((i : Int)) := ex0
       clear hdep hoth
       go_simp
       exact hK _ _ (Below.refl _ _) rfl
      ·intro a' w' hB hdep hoth K hK
       rw [if_pos (guard_none rfl)]
       have hbw : Below V1.heap.size V1 w' := (below_drewN (Below.refl _ _) 1).trans hB
       obtain ⟨vx0, gx0, ex0⟩ := hdep ⟨1, .data⟩ (by simp) rfl
       have gx0 := gx0 14 rfl (by simp)
       obtain rfl : vx0 = .bool false := ex0
       clear hdep hoth
       go_simp
       exact hK _ _ (Below.refl _ _) rfl
      ·intro a' w' hB hdep hoth K hK
       obtain ⟨vg, gg, eg⟩ := hdep ⟨2, .guard⟩ (by simp) rfl
       have gg := gg 15 rfl (by simp)
       obtain rfl : vg = .bool false := eg
       rw [guard_is rfl rfl gg]
       rw [if_pos (by decide)]
       have hbw : Below V1.heap.size V1 w' := (below_drewN (Below.refl _ _) 1).trans hB
       have t1 := hoth 1 (notDst_at (by kernel_rfl))
       simp only [List.getElem?_toArray, List.getElem?_cons_succ, List.getElem?_cons_zero] at t1
       clear hdep hoth
       go_simp
       exact hK _ _ (Below.refl _ _) rfl
      ·intro a' w' hB hdep hoth K hK
       obtain ⟨vg, gg, eg⟩ := hdep ⟨2, .guard⟩ (by simp) rfl
       have gg := gg 15 rfl (by simp)
       obtain rfl : vg = .bool false := eg
       rw [guard_is rfl rfl gg]
       rw [if_pos (by decide)]
       have hbw : Below V1.heap.size V1 w' := (below_drewN (Below.refl _ _) 1).trans hB
       obtain ⟨vx0, gx0, ex0⟩ := hdep ⟨3, .data⟩ (by simp) rfl
       have gx0 := gx0 16 rfl (by simp)
       obtain rfl : vx0 = .slice (some ⟨b1, o1, none⟩) L.length sc := ex0
       clear hdep hoth
       go_simp
       exact hK _ _ (Below.refl _ _) rfl
      ·intro a' w' hB hdep hoth K hK
       obtain ⟨vg, gg, eg⟩ := hdep ⟨2, .guard⟩ (by simp) rfl
       have gg := gg 15 rfl (by simp)
       obtain rfl : vg = .bool false := eg
       rw [guard_is rfl rfl gg]
       rw [if_pos (by decide)]
       have hbw : Below V1.heap.size V1 w' := (below_drewN (Below.refl _ _) 1).trans hB
       obtain ⟨vx0, gx0, ex0⟩ := hdep ⟨4, .data⟩ (by simp) rfl
       have gx0 := gx0 17 rfl (by simp)
       obtain rfl : vx0 = .pointer (some ⟨b1, o1 + 1, none⟩) := ex0
       have r1 := cell_below S1.out hbw
       have lb1 : b1 < w'.heap.size := Nat.lt_of_lt_of_le LB2.out hbw.size
       clear hdep hoth
       go_simp
       exact hK _ _ (Below.refl _ _) rfl
      ·intro a' w' hB hdep hoth K hK
       obtain ⟨vg, gg, eg⟩ := hdep ⟨2, .guard⟩ (by simp) rfl
       have gg := gg 15 rfl (by simp)
       obtain rfl : vg = .bool false := eg
       rw [guard_is rfl rfl gg]
       rw [if_pos (by decide)]
       have hbw : Below V1.heap.size V1 w' := (below_drewN (Below.refl _ _) 1).trans hB
       obtain ⟨vx0, gx0, ex0⟩ := hdep ⟨5, .data⟩ (by simp) rfl
       have gx0 := gx0 18 rfl (by simp)
       obtain rfl : vx0 = .int .i64 x1 := ex0
       clear hdep hoth
       go_simp
       exact hK _ _ (Below.refl _ _) rfl
      ·intro a' w' hB hdep hoth K hK
       rw [if_pos (guard_none rfl)]
       have hbw : Below V1.heap.size V1 w' := (below_drewN (Below.refl _ _) 1).trans hB
       obtain ⟨vx0, gx0, ex0⟩ := hdep ⟨2, .data⟩ (by simp) rfl
       have gx0 := gx0 15 rfl (by simp)
       obtain rfl : vx0 = .bool false := ex0
       obtain ⟨vx1, gx1, ex1⟩ := hdep ⟨6, .data⟩ (by simp) rfl
       have gx1 := gx1 19 rfl (by simp)
       obtain rfl : vx1 = .bool false := ex1
       clear hdep hoth
       go_simp
       exact hK _ _ (Below.refl _ _) rfl
      ·intro a' w' hB hdep hoth K hK
       rw [if_pos (guard_none rfl)]
       have hbw : Below V1.heap.size V1 w' := (below_drewN (Below.refl _ _) 1).trans hB
       obtain ⟨vx0, gx0, ex0⟩ := hdep ⟨7, .data⟩ (by simp) rfl
       have gx0 := gx0 20 rfl (by simp)
       obtain rfl : vx0 = .bool false := ex0
       clear hdep hoth
       go_simp
       exact hK _ _ (Below.refl _ _) rfl
      ·intro a' w' hB hdep hoth K hK
       obtain ⟨vg, gg, eg⟩ := hdep ⟨8, .guard⟩ (by simp) rfl
       have gg := gg 21 rfl (by simp)
       obtain rfl : vg = .bool false := eg
       rw [guard_is rfl rfl gg]
       rw [if_pos (by decide)]
       have hbw : Below V1.heap.size V1 w' := (below_drewN (Below.refl _ _) 1).trans hB
       have t2 := hoth 2 (notDst_at (by kernel_rfl))
       simp only [List.getElem?_toArray, List.getElem?_cons_succ, List.getElem?_cons_zero] at t2
       have hld := (HVAR2.out.below hbw).load
       clear hdep hoth
       go_simp
       exact hK _ _ (Below.refl _ _) rfl
      ·intro a' w' hB hdep hoth K hK
       obtain ⟨vg, gg, eg⟩ := hdep ⟨8, .guard⟩ (by simp) rfl
       have gg := gg 21 rfl (by simp)
       obtain rfl : vg = .bool false := eg
       rw [guard_is rfl rfl gg]
       rw [if_pos (by decide)]
       have hbw : Below V1.heap.size V1 w' := (below_drewN (Below.refl _ _) 1).trans hB
       have t1 := hoth 1 (notDst_at (by kernel_rfl))
       simp only [List.getElem?_toArray, List.getElem?_cons_succ, List.getElem?_cons_zero] at t1
       clear hdep hoth
       go_simp
       exact hK _ _ (Below.refl _ _) rfl
      ·intro a' w' hB hdep hoth K hK
       obtain ⟨vg, gg, eg⟩ := hdep ⟨8, .guard⟩ (by simp) rfl
       have gg := gg 21 rfl (by simp)
       obtain rfl : vg = .bool false := eg
       rw [guard_is rfl rfl gg]
       rw [if_pos (by decide)]
       have hbw : Below V1.heap.size V1 w' := (below_drewN (Below.refl _ _) 1).trans hB
       obtain ⟨vx0, gx0, ex0⟩ := hdep ⟨10, .data⟩ (by simp) rfl
       have gx0 := gx0 23 rfl (by simp)
       obtain rfl : vx0 = .slice (some ⟨b1, o1, none⟩) L.length sc := ex0
       clear hdep hoth
       go_simp
       exact hK _ _ (Below.refl _ _) rfl
      ·intro a' w' hB hdep hoth K hK
       obtain ⟨vg, gg, eg⟩ := hdep ⟨8, .guard⟩ (by simp) rfl
       have gg := gg 21 rfl (by simp)
       obtain rfl : vg = .bool false := eg
       rw [guard_is rfl rfl gg]
       rw [if_pos (by decide)]
       have hbw : Below V1.heap.size V1 w' := (below_drewN (Below.refl _ _) 1).trans hB
       obtain ⟨vx0, gx0, ex0⟩ := hdep ⟨11, .data⟩ (by simp) rfl
       have gx0 := gx0 24 rfl (by simp)
       obtain rfl : vx0 = .pointer (some ⟨b1, o1 + 1, none⟩) := ex0
       have r1 := cell_below S1.out hbw
       have lb1 : b1 < w'.heap.size := Nat.lt_of_lt_of_le LB2.out hbw.size
       clear hdep hoth
       go_simp
       exact hK _ _ (Below.refl _ _) rfl
      ·intro a' w' hB hdep hoth K hK
       obtain ⟨vg, gg, eg⟩ := hdep ⟨8, .guard⟩ (by simp) rfl
       have gg := gg 21 rfl (by simp)
       obtain rfl : vg = .bool false := eg
       rw [guard_is rfl rfl gg]
       rw [if_pos (by decide)]
       have hbw : Below V1.heap.size V1 w' := (below_drewN (Below.refl _ _) 1).trans hB
       obtain ⟨vx0, gx0, ex0⟩ := hdep ⟨9, .data⟩ (by simp) rfl
       have gx0 := gx0 22 rfl (by simp)
       obtain rfl : vx0 = (.agg (brT B.f B.g mv iv kv)) := ex0
       obtain ⟨vx1, gx1, ex1⟩ := hdep ⟨12, .data⟩ (by simp) rfl
       have gx1 := gx1 25 rfl (by simp)
       obtain rfl : vx1 = .int .i64 x1 := ex1
       have HA := hid (rfind13_at B _ x1 ((j : Int)) HZK.out _ (HVAR2.out.below hbw).is)
       clear hdep hoth
       go_simp
       refine HA.out.mono ?_
       rintro e w'' ⟨rfl, hb⟩
       exact hK _ _ hb rfl
      ·intro a' w' hB hdep hoth K hK
       obtain ⟨vg, gg, eg⟩ := hdep ⟨8, .guard⟩ (by simp) rfl
       have gg := gg 21 rfl (by simp)
       obtain rfl : vg = .bool false := eg
       rw [guard_is rfl rfl gg]
       rw [if_pos (by decide)]
       have hbw : Below V1.heap.size V1 w' := (below_drewN (Below.refl _ _) 1).trans hB
       obtain ⟨vx0, gx0, ex0⟩ := hdep ⟨13, .data⟩ (by simp) rfl
       have gx0 := gx0 26 rfl (by simp)
       obtain rfl : vx0 = .int .i64 ((j : Int)) := ex0
       clear hdep hoth
       go_simp
       exact hK _ _ (Below.refl _ _) rfl
      ·intro a' w' hB hdep hoth K hK
       rw [if_pos (guard_none rfl)]
       have hbw : Below V1.heap.size V1 w' := (below_drewN (Below.refl _ _) 1).trans hB
       obtain ⟨vx0, gx0, ex0⟩ := hdep ⟨8, .data⟩ (by simp) rfl
       have gx0 := gx0 21 rfl (by simp)
       obtain rfl : vx0 = .bool false := ex0
       obtain ⟨vx1, gx1, ex1⟩ := hdep ⟨14, .data⟩ (by simp) rfl
       have gx1 := gx1 27 rfl (by simp)
       obtain rfl : vx1 = .bool true := ex1
       clear hdep hoth
       go_simp
       exact hK _ _ (Below.refl _ _) rfl
     case fin2 =>
      intro vs V2 hB hs
      have hbw : Below V1.heap.size V1 V2 := (below_drewN (Below.refl _ _) 1).trans hB
      have ev15 : vs 15 = .bool true := hs 15 (by decide)
      clear hs
      simp only [actOf, dstAt, if_true, List.getElem?_toArray, List.getElem?_cons_succ, List.getElem?_cons_zero, Option.bind_some, Act.put, List.setIfInBounds_toArray, List.set_cons_zero, List.set_cons_succ, List.length_cons, List.length_nil, Nat.reduceAdd]
      rw [ev15]
      clear hB ev15
      have HO3 := hid (HO2.out.below hbw)
      have HZ3 := hid (blk_below HZ2.out hbw (blk_lt HZ2.out))
      have HB3 := hid (HB2.out.trans (hbw.mono HB2.out.size))
      clear hbw
      go_upto_region 3 with (fail)
      obtain ⟨hld, X, m', i', k', hst, bb, hend⟩ := ref_end (HO3.out) (HZ3.out) (HB3.out) HBW.out
      have HBB := hid bb
      have HEND := hid hend
      clear bb hend
      go_wp2
      refine bodyPost_ret (results_cell_row rfl _ _ (W.heap.size + 1) 33 _ _ _ rfl HBB.out brain_under rfl (brain_size (brT_bc _ _ _ _ _))) rfl ?_
      exact HEND.out
end
end Go.Proofs.YtgcajfglidflnaaGreatDoor
