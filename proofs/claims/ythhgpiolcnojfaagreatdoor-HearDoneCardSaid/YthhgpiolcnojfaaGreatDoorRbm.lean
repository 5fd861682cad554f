import Derived.Test.YthhgpiolcnojfaaGreatDoorPlk
import Derived.Test.YthhgpiolcnojfaaGreatDoorRam
import Derived.Test.YthhgpiolcnojfaaGreatDoorGrr
/- A record that is not as it is to be changes nothing: plain facts. -/
namespace Go.Proofs.YthhgpiolcnojfaaGreatDoor
open Go.RowKit Go.Shelf

/-- How many numbers a record of a kind has. -/
def deedN (k : Int) : Option Nat := [((1 : Int), 0), (3, 3), (4, 3), (8, 5), (6, 3), (7, 1), (9, 2), (10, 1), (11, 2), (5, 1), (12, 0), (13, 0), (14, 1), (15, 0), (16, 0)].lookup k
end Go.Proofs.YthhgpiolcnojfaaGreatDoor

/- herdref13's small functions. Printed by gn_ra0.py. -/
namespace Go.Proofs.YthhgpiolcnojfaaGreatDoor
open Go.RowKit Go.Shelf

set_option maxRecDepth 100000 in
set_option maxHeartbeats 1000000 in
theorem rnumbers_any (s : Value) (L : List Int) (q : Bool) (hq : L.any badN = q) (w : World) (hs : RowOf 1 encI w s L) :
  Calls Tryz.prog 44 #[s] w fun e w' => e = .returned (.bool (!q)) ∧ w = w' := by
 obtain ⟨sa, sc, rfl, p1, p2, p3, hop⟩ := hs.open
 have HOP := hid hop
 have HQ := hid hq
 clear hop hs hq
 go_enter Tryz.func44, Tryz.ntmps44
 go_wp2
 go_loop [3] (fun i => ∃ k : Nat, k ≤ L.length ∧ i = .int .i64 k ∧ (∀ y ∈ L.take k, badN y = false)) (fun i => L.length - (intOf i).toNat)
 case atStart => exact ⟨0, Nat.zero_le _, rfl, (fun y hy => by simp at hy)⟩
 case round =>
  obtain ⟨k, hk, rfl, hno⟩ := hrel
  have HNO := hid hno
  clear hno
  by_cases hlt : k < L.length
  ·obtain ⟨b1, o1, rfl, hb1, hr1⟩ := HOP.out (by omega)
   obtain ⟨x, hx⟩ := get_lt hlt
   have g0 := rowN1 hr1 hx
   have hkL : (k : Int) < (L.length : Int) := by omega
   have HX := hid hx
   clear hx hr1
   by_cases h0 : x < 0
   ·have d0 : decide (x < 0) = true := decide_eq_true h0
    have HE := hid (show q = true by rw [← HQ.out]; exact List.any_eq_true.2 ⟨x, mem_get HX.out, by unfold badN; rw [d0]; rfl⟩)
    obtain rfl : q = true := HE.out
    clear h0
    go_wp2
    go_ret
    exact ⟨rfl, rfl⟩
   ·have d0 : decide (x < 0) = false := decide_eq_false h0
    by_cases h1 : 1099511627776 < x
    ·have d1 : decide (1099511627776 < x) = true := decide_eq_true h1
     have HE := hid (show q = true by rw [← HQ.out]; exact List.any_eq_true.2 ⟨x, mem_get HX.out, by unfold badN; rw [d1, Bool.or_true]⟩)
     obtain rfl : q = true := HE.out
     clear h1 h0
     go_wp2
     go_ret
     exact ⟨rfl, rfl⟩
    ·have d1 : decide (1099511627776 < x) = false := decide_eq_false h1
     have HN := hid (idxL_next (p := badN) HX.out HNO.out (by unfold badN; rw [d0, d1]; rfl))
     clear h1 h0
     go_wp2
     go_round
     case rel => exact ⟨k + 1, by omega, by go_num, HN.out⟩
     case measure => simp [intOf]; omega
  ·obtain rfl : k = L.length := by omega
   have HE := hid (show q = false by
    rw [← HQ.out]
    have := HNO.out
    rw [List.take_length] at this
    exact List.any_eq_false.2 fun y hy => by rw [this y hy]; decide)
   obtain rfl : q = false := HE.out
   go_wp2
   go_ret
   exact ⟨rfl, rfl⟩
def manyI (k : Int) : Int := match deedN k with
 | some n => n
 | none => -1
set_option maxRecDepth 100000 in
set_option maxHeartbeats 4000000 in
theorem rmany_any (k m : Int) (hm : manyI k = m) (w : World) : Calls Tryz.prog 46 #[.int .u8 k] w fun e w' => e = .returned (.int .i64 m) ∧ w = w' := by
 by_cases h1 : k = 1
 ·subst h1
  obtain rfl : m = 0 := by rw [← hm]; rfl
  clear hm
  go_enter Tryz.func46, Tryz.ntmps46
  go_wp2
  go_ret
  exact ⟨rfl, rfl⟩
 by_cases h3 : k = 3
 ·subst h3
  obtain rfl : m = 3 := by rw [← hm]; rfl
  clear hm
  go_enter Tryz.func46, Tryz.ntmps46
  go_wp2
  go_ret
  exact ⟨rfl, rfl⟩
 by_cases h4 : k = 4
 ·subst h4
  obtain rfl : m = 3 := by rw [← hm]; rfl
  clear hm
  go_enter Tryz.func46, Tryz.ntmps46
  go_wp2
  go_ret
  exact ⟨rfl, rfl⟩
 by_cases h5 : k = 5
 ·subst h5
  obtain rfl : m = 1 := by rw [← hm]; rfl
  clear hm
  go_enter Tryz.func46, Tryz.ntmps46
  go_wp2
  go_ret
  exact ⟨rfl, rfl⟩
 by_cases h6 : k = 6
 ·subst h6
  obtain rfl : m = 3 := by rw [← hm]; rfl
  clear hm
  go_enter Tryz.func46, Tryz.ntmps46
  go_wp2
  go_ret
  exact ⟨rfl, rfl⟩
 by_cases h7 : k = 7
 ·subst h7
  obtain rfl : m = 1 := by rw [← hm]; rfl
  clear hm
  go_enter Tryz.func46, Tryz.ntmps46
  go_wp2
  go_ret
  exact ⟨rfl, rfl⟩
 by_cases h8 : k = 8
 ·subst h8
  obtain rfl : m = 5 := by rw [← hm]; rfl
  clear hm
  go_enter Tryz.func46, Tryz.ntmps46
  go_wp2
  go_ret
  exact ⟨rfl, rfl⟩
 by_cases h9 : k = 9
 ·subst h9
  obtain rfl : m = 2 := by rw [← hm]; rfl
  clear hm
  go_enter Tryz.func46, Tryz.ntmps46
  go_wp2
  go_ret
  exact ⟨rfl, rfl⟩
 by_cases h10 : k = 10
 ·subst h10
  obtain rfl : m = 1 := by rw [← hm]; rfl
  clear hm
  go_enter Tryz.func46, Tryz.ntmps46
  go_wp2
  go_ret
  exact ⟨rfl, rfl⟩
 by_cases h11 : k = 11
 ·subst h11
  obtain rfl : m = 2 := by rw [← hm]; rfl
  clear hm
  go_enter Tryz.func46, Tryz.ntmps46
  go_wp2
  go_ret
  exact ⟨rfl, rfl⟩
 by_cases h12 : k = 12
 ·subst h12
  obtain rfl : m = 0 := by rw [← hm]; rfl
  clear hm
  go_enter Tryz.func46, Tryz.ntmps46
  go_wp2
  go_ret
  exact ⟨rfl, rfl⟩
 by_cases h13 : k = 13
 ·subst h13
  obtain rfl : m = 0 := by rw [← hm]; rfl
  clear hm
  go_enter Tryz.func46, Tryz.ntmps46
  go_wp2
  go_ret
  exact ⟨rfl, rfl⟩
 by_cases h14 : k = 14
 ·subst h14
  obtain rfl : m = 1 := by rw [← hm]; rfl
  clear hm
  go_enter Tryz.func46, Tryz.ntmps46
  go_wp2
  go_ret
  exact ⟨rfl, rfl⟩
 by_cases h15 : k = 15
 ·subst h15
  obtain rfl : m = 0 := by rw [← hm]; rfl
  clear hm
  go_enter Tryz.func46, Tryz.ntmps46
  go_wp2
  go_ret
  exact ⟨rfl, rfl⟩
 by_cases h16 : k = 16
 ·subst h16
  obtain rfl : m = 0 := by rw [← hm]; rfl
  clear hm
  go_enter Tryz.func46, Tryz.ntmps46
  go_wp2
  go_ret
  exact ⟨rfl, rfl⟩
 have e1 : (k == 1) = false := by simpa using h1
 have e3 : (k == 3) = false := by simpa using h3
 have e4 : (k == 4) = false := by simpa using h4
 have e5 : (k == 5) = false := by simpa using h5
 have e6 : (k == 6) = false := by simpa using h6
 have e7 : (k == 7) = false := by simpa using h7
 have e8 : (k == 8) = false := by simpa using h8
 have e9 : (k == 9) = false := by simpa using h9
 have e10 : (k == 10) = false := by simpa using h10
 have e11 : (k == 11) = false := by simpa using h11
 have e12 : (k == 12) = false := by simpa using h12
 have e13 : (k == 13) = false := by simpa using h13
 have e14 : (k == 14) = false := by simpa using h14
 have e15 : (k == 15) = false := by simpa using h15
 have e16 : (k == 16) = false := by simpa using h16
 obtain rfl : m = -1 := by
  rw [← hm]
  unfold manyI deedN
  simp only [List.lookup, e1, e3, e4, e5, e6, e7, e8, e9, e10, e11, e12, e13, e14, e15, e16]
 clear hm h1 h3 h4 h5 h6 h7 h8 h9 h10 h11 h12 h13 h14 h15 h16
 go_enter Tryz.func46, Tryz.ntmps46
 go_wp2
 go_ret
 exact ⟨rfl, rfl⟩
set_option maxRecDepth 100000 in
set_option maxHeartbeats 4000000 in
theorem rlegal_any (p t : Int) (q : Bool) (hq : legalB p t = q) (ht : t < 11) (w : World) : Calls Tryz.prog 78 #[.int .u8 p, .int .u8 t] w fun e w' => e = .returned (.bool q) ∧ w = w' := by
 by_cases h1 : p = 1
 ·subst h1
  by_cases t2 : t = 2
  ·subst t2
   obtain rfl : q = true := by rw [← hq]; rfl
   clear hq ht
   go_enter Tryz.func78, Tryz.ntmps78
   go_wp2
   go_ret
   exact ⟨rfl, rfl⟩
  have f2 : (t == 2) = false := by simpa using t2
  by_cases t8 : t = 8
  ·subst t8
   obtain rfl : q = true := by rw [← hq]; rfl
   clear hq ht f2
   go_enter Tryz.func78, Tryz.ntmps78
   go_wp2
   go_ret
   exact ⟨rfl, rfl⟩
  have f8 : (t == 8) = false := by simpa using t8
  obtain rfl : q = false := by
   rw [← hq]
   unfold legalB chL
   simp [t2, t8]
  clear hq ht t2 t8
  go_enter Tryz.func78, Tryz.ntmps78
  go_wp2
  go_ret
  exact ⟨rfl, rfl⟩
 by_cases h2 : p = 2
 ·subst h2
  by_cases t3 : t = 3
  ·subst t3
   obtain rfl : q = true := by rw [← hq]; rfl
   clear hq ht
   go_enter Tryz.func78, Tryz.ntmps78
   go_wp2
   go_ret
   exact ⟨rfl, rfl⟩
  have f3 : (t == 3) = false := by simpa using t3
  by_cases t8 : t = 8
  ·subst t8
   obtain rfl : q = true := by rw [← hq]; rfl
   clear hq ht f3
   go_enter Tryz.func78, Tryz.ntmps78
   go_wp2
   go_ret
   exact ⟨rfl, rfl⟩
  have f8 : (t == 8) = false := by simpa using t8
  obtain rfl : q = false := by
   rw [← hq]
   unfold legalB chL
   simp [t3, t8]
  clear hq ht t3 t8
  go_enter Tryz.func78, Tryz.ntmps78
  go_wp2
  go_ret
  exact ⟨rfl, rfl⟩
 by_cases h3 : p = 3
 ·subst h3
  by_cases t4 : t = 4
  ·subst t4
   obtain rfl : q = true := by rw [← hq]; rfl
   clear hq ht
   go_enter Tryz.func78, Tryz.ntmps78
   go_wp2
   go_ret
   exact ⟨rfl, rfl⟩
  have f4 : (t == 4) = false := by simpa using t4
  obtain rfl : q = false := by
   rw [← hq]
   unfold legalB chL
   simp [t4]
  clear hq ht t4
  go_enter Tryz.func78, Tryz.ntmps78
  go_wp2
  go_ret
  exact ⟨rfl, rfl⟩
 by_cases h4 : p = 4
 ·subst h4
  by_cases t5 : t = 5
  ·subst t5
   obtain rfl : q = true := by rw [← hq]; rfl
   clear hq ht
   go_enter Tryz.func78, Tryz.ntmps78
   go_wp2
   go_ret
   exact ⟨rfl, rfl⟩
  have f5 : (t == 5) = false := by simpa using t5
  by_cases t3 : t = 3
  ·subst t3
   obtain rfl : q = true := by rw [← hq]; rfl
   clear hq ht f5
   go_enter Tryz.func78, Tryz.ntmps78
   go_wp2
   go_ret
   exact ⟨rfl, rfl⟩
  have f3 : (t == 3) = false := by simpa using t3
  obtain rfl : q = false := by
   rw [← hq]
   unfold legalB chL
   simp [t5, t3]
  clear hq ht t5 t3
  go_enter Tryz.func78, Tryz.ntmps78
  go_wp2
  go_ret
  exact ⟨rfl, rfl⟩
 by_cases h5 : p = 5
 ·subst h5
  by_cases t6 : t = 6
  ·subst t6
   obtain rfl : q = true := by rw [← hq]; rfl
   clear hq ht
   go_enter Tryz.func78, Tryz.ntmps78
   go_wp2
   go_ret
   exact ⟨rfl, rfl⟩
  have f6 : (t == 6) = false := by simpa using t6
  by_cases t4 : t = 4
  ·subst t4
   obtain rfl : q = true := by rw [← hq]; rfl
   clear hq ht f6
   go_enter Tryz.func78, Tryz.ntmps78
   go_wp2
   go_ret
   exact ⟨rfl, rfl⟩
  have f4 : (t == 4) = false := by simpa using t4
  obtain rfl : q = false := by
   rw [← hq]
   unfold legalB chL
   simp [t6, t4]
  clear hq ht t6 t4
  go_enter Tryz.func78, Tryz.ntmps78
  go_wp2
  go_ret
  exact ⟨rfl, rfl⟩
 by_cases h6 : p = 6
 ·subst h6
  by_cases t7 : t = 7
  ·subst t7
   obtain rfl : q = true := by rw [← hq]; rfl
   clear hq ht
   go_enter Tryz.func78, Tryz.ntmps78
   go_wp2
   go_ret
   exact ⟨rfl, rfl⟩
  have f7 : (t == 7) = false := by simpa using t7
  obtain rfl : q = false := by
   rw [← hq]
   unfold legalB chL
   simp [t7]
  clear hq ht t7
  go_enter Tryz.func78, Tryz.ntmps78
  go_wp2
  go_ret
  exact ⟨rfl, rfl⟩
 by_cases h7 : p = 7
 ·subst h7
  by_cases t8 : t = 8
  ·subst t8
   obtain rfl : q = true := by rw [← hq]; rfl
   clear hq ht
   go_enter Tryz.func78, Tryz.ntmps78
   go_wp2
   go_ret
   exact ⟨rfl, rfl⟩
  have f8 : (t == 8) = false := by simpa using t8
  obtain rfl : q = false := by
   rw [← hq]
   unfold legalB chL
   simp [t8]
  clear hq ht t8
  go_enter Tryz.func78, Tryz.ntmps78
  go_wp2
  go_ret
  exact ⟨rfl, rfl⟩
 by_cases h9 : p = 9
 ·subst h9
  by_cases t10 : t = 10
  ·subst t10
   obtain rfl : q = true := by rw [← hq]; rfl
   clear hq ht
   go_enter Tryz.func78, Tryz.ntmps78
   go_wp2
   go_ret
   exact ⟨rfl, rfl⟩
  have f10 : (t == 10) = false := by simpa using t10
  by_cases t8 : t = 8
  ·subst t8
   obtain rfl : q = true := by rw [← hq]; rfl
   clear hq ht f10
   go_enter Tryz.func78, Tryz.ntmps78
   go_wp2
   go_ret
   exact ⟨rfl, rfl⟩
  have f8 : (t == 8) = false := by simpa using t8
  obtain rfl : q = false := by
   rw [← hq]
   unfold legalB chL
   simp [t10, t8]
  clear hq ht t10 t8
  go_enter Tryz.func78, Tryz.ntmps78
  go_wp2
  go_ret
  exact ⟨rfl, rfl⟩
 by_cases h10 : p = 10
 ·subst h10
  by_cases t1 : t = 1
  ·subst t1
   obtain rfl : q = true := by rw [← hq]; rfl
   clear hq ht
   go_enter Tryz.func78, Tryz.ntmps78
   go_wp2
   go_ret
   exact ⟨rfl, rfl⟩
  have f1 : (t == 1) = false := by simpa using t1
  obtain rfl : q = false := by
   rw [← hq]
   unfold legalB chL
   simp [t1]
  clear hq ht t1
  go_enter Tryz.func78, Tryz.ntmps78
  go_wp2
  go_ret
  exact ⟨rfl, rfl⟩
 obtain rfl : q = false := by
  rw [← hq]
  unfold legalB
  cases hd : decide (p < 11) with
  | false => rfl
  | true =>
   have hp : p < 11 := by simpa using hd
   have : (chL.getD p.toNat []) = [] := by
    have h0 : p.toNat = 0 ∨ p.toNat = 8 := by omega
    rcases h0 with h | h <;> rw [h] <;> rfl
   rw [this]
   simp
 have e1 : (p == 1) = false := by simpa using h1
 have e2 : (p == 2) = false := by simpa using h2
 have e3 : (p == 3) = false := by simpa using h3
 have e4 : (p == 4) = false := by simpa using h4
 have e5 : (p == 5) = false := by simpa using h5
 have e6 : (p == 6) = false := by simpa using h6
 have e7 : (p == 7) = false := by simpa using h7
 have e9 : (p == 9) = false := by simpa using h9
 have e10 : (p == 10) = false := by simpa using h10
 clear hq ht h1 h2 h3 h4 h5 h6 h7 h9 h10
 go_enter Tryz.func78, Tryz.ntmps78
 go_wp2
 go_ret
 exact ⟨rfl, rfl⟩
end Go.Proofs.YthhgpiolcnojfaaGreatDoor

/- herdref13.made: an Intent becomes an instance. Printed by gn_ra2.py. -/
namespace Go.Proofs.YthhgpiolcnojfaaGreatDoor
open Go.RowKit Go.Shelf
attribute [-go_sem] loadVar storeVar Instr.buildSlice sliced run_sliceAt_slice
attribute [local go_sem] load_other store_other

theorem wp_namedQ {Q : Exit → Act → World → Prop} {e : Exit} {a : Act} {w : World} (h : ∀ U, U = w → Q e a U) : Q e a w := h w rfl
section
variable {base : World} {b : Nat} {B : BrainV} {mv iv kv : Value} {W : World}
theorem BO.var (h : BO base b B mv iv kv W) : VarIs W b B (.agg (brT B.f B.g mv iv kv)) :=
 ⟨mv, iv, kv, rfl, h.box, h.rm.row, h.ri.row encIn_len (by decide), h.rk.row encKp_len (by decide)⟩
theorem erase_td {α : Type} (l : List α) (i : Nat) : [] ++ l.take i ++ l.drop (i + 1) = l.eraseIdx i := by rw [List.nil_append, List.eraseIdx_eq_take_drop_succ]
end
end Go.Proofs.YthhgpiolcnojfaaGreatDoor
