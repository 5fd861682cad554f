import Derived.Test.YthhgpiolcnojfaaGreatDoorCam
import Derived.Deep.RegionWith
import Derived.Test.YthhgpiolcnojfaaGreatDoorLax
import Derived.Test.YthhgpiolcnojfaaGreatDoorWd
/- The reference's functions of layer 12: kind, number, and which calls may be. -/
namespace Go.Proofs.YthhgpiolcnojfaaGreatDoor
open Go.RowKit Go.Shelf

set_option maxHeartbeats 400000 in
theorem rkind_any (k : Int) (w : World) : Calls Tryz.prog 41 #[.int .u8 k] w fun e w' => e = .returned (.bool (kindB k)) ∧ w = w' := by
 by_cases h1 : 1 ≤ k
 ·have d1 : decide (1 ≤ k) = true := by simpa using h1
  have e0 : kindB k = decide (k < 8) := by simp [kindB, h1]
  rw [e0]
  go_enter Tryz.func41, Tryz.ntmps41
  go_wp2
  go_ret
  exact ⟨rfl, rfl⟩
 ·have d1 : decide (1 ≤ k) = false := by simpa using h1
  have e0 : kindB k = false := by simp [kindB]; omega
  rw [e0]
  go_enter Tryz.func41, Tryz.ntmps41
  go_wp2
  go_ret
  exact ⟨rfl, rfl⟩
set_option maxHeartbeats 400000 in
theorem rnum_any (n : Int) (w : World) : Calls Tryz.prog 42 #[.int .i64 n] w fun e w' => e = .returned (.bool (numB n)) ∧ w = w' := by
 by_cases h1 : 0 ≤ n
 ·have d1 : decide (0 ≤ n) = true := by simpa using h1
  have e0 : numB n = decide (n ≤ 1099511627776) := by simp [numB, h1]
  rw [e0]
  go_enter Tryz.func42, Tryz.ntmps42
  go_wp2
  go_ret
  exact ⟨rfl, rfl⟩
 ·have d1 : decide (0 ≤ n) = false := by simpa using h1
  have e0 : numB n = false := by simp [numB]; omega
  rw [e0]
  go_enter Tryz.func42, Tryz.ntmps42
  go_wp2
  go_ret
  exact ⟨rfl, rfl⟩
/-- What a round of the reference's Right looks at: the call at a place, by those ahead of it. -/
def refAt (ep nx : Int) (pre : List CallV) (x : CallV) : Bool :=
 decide (1 ≤ wrap64 (x.id - ep * 1048576)) && (decide (wrap64 (x.id - ep * 1048576) < nx) && ((match pre.getLast? with | none => true | some y => decide (y.id < x.id)) && (kindB x.kind && (numB x.key && (numB x.sent && !hasB pre x.kind x.key)))))

def goF (ep nx : Int) : List CallV → List CallV → Bool
 | _, [] => true
 | pre, x :: xs => refAt ep nx pre x && goF ep nx (pre ++ [x]) xs
end Go.Proofs.YthhgpiolcnojfaaGreatDoor

/- The walk of the reference's Right. -/
namespace Go.Proofs.YthhgpiolcnojfaaGreatDoor
open Go.RowKit Go.Shelf

theorem cquiet_left {P : Program} {f : FuncId} {args : Array Value} {w : World} {n : Nat} {v : Value} (h : Calls P f args (w.drewN n) fun e w' => e = .returned v ∧ w.drewN n = w') : Calls P f args (w.drewN n) fun e w'' => e = .returned v ∧ ∃ m, w'' = w.drewN m :=
 h.mono fun _ _ ⟨he, hm⟩ => ⟨he, n, hm.symm⟩
theorem rkind_at (k : Int) (b : Bool) (hb : kindB k = b) (w : World) : Calls Tryz.prog 41 #[.int .u8 k] w fun e w' => e = .returned (.bool b) ∧ w = w' := by rw [← hb]; exact rkind_any k w
theorem rnum_at (n : Int) (b : Bool) (hb : numB n = b) (w : World) : Calls Tryz.prog 42 #[.int .i64 n] w fun e w' => e = .returned (.bool b) ∧ w = w' := by rw [← hb]; exact rnum_any n w
theorem refAt_not {ep nx : Int} {pre : List CallV} {x : CallV} (h : ¬ (1 ≤ wrap64 (x.id - ep * 1048576) ∧ wrap64 (x.id - ep * 1048576) < nx ∧ (∀ y, pre.getLast? = some y → y.id < x.id) ∧ kindB x.kind = true ∧ numB x.key = true ∧ numB x.sent = true ∧ hasB pre x.kind x.key = false)) : refAt ep nx pre x = false := by
 apply Bool.eq_false_iff.2
 intro hr
 apply h
 unfold refAt at hr
 simp only [Bool.and_eq_true, decide_eq_true_eq, Bool.not_eq_true'] at hr
 obtain ⟨a, b, c, d, e, f, g⟩ := hr
 refine ⟨a, b, ?_, d, e, f, g⟩
 intro y hy
 rw [hy] at c
 simpa using c
theorem refAt_yes {ep nx : Int} {pre : List CallV} {x : CallV} (h : 1 ≤ wrap64 (x.id - ep * 1048576) ∧ wrap64 (x.id - ep * 1048576) < nx ∧ (∀ y, pre.getLast? = some y → y.id < x.id) ∧ kindB x.kind = true ∧ numB x.key = true ∧ numB x.sent = true ∧ hasB pre x.kind x.key = false) : refAt ep nx pre x = true := by
 obtain ⟨a, b, c, d, e, f, g⟩ := h
 unfold refAt
 simp only [Bool.and_eq_true, decide_eq_true_eq, Bool.not_eq_true']
 refine ⟨a, b, ?_, d, e, f, g⟩
 split
 ·rfl
 ·rename_i y hy
  simpa using c y hy
theorem goF_step {ep nx : Int} {pre : List CallV} {x : CallV} {xs : List CallV} (h : refAt ep nx pre x = true) : goF ep nx pre (x :: xs) = goF ep nx (pre ++ [x]) xs := by rw [goF, h]; rfl
theorem goF_not {ep nx : Int} {pre : List CallV} {x : CallV} {xs : List CallV} (h : refAt ep nx pre x = false) : goF ep nx pre (x :: xs) = false := by rw [goF, h]; rfl
theorem last_take {l : List CallV} {k : Nat} {y : CallV} (h : l[k]? = some y) : (l.take (k + 1)).getLast? = some y := by
 rw [take_snoc l k y h]; simp

set_option maxHeartbeats 2000000 in
set_option maxRecDepth 100000 in
theorem rright_in (ep nx : Int) (s : Value) (l : List CallV) (w : World) (hn : l.length ≤ 1000000) (hs : Row12 w s l)
  (h1 : 0 ≤ ep) (h2 : ep ≤ 524288) (h3 : 1 ≤ nx) (h4 : nx ≤ 1048576) :
  Calls Tryz.prog 19 #[calls ep nx s] w fun e w' => e = .returned (.bool (goF ep nx [] l)) ∧ Below w.heap.size w w' := by
 unfold calls
 obtain ⟨a, c, rfl, hl1, hl2, hl3, hop⟩ := hs.open
 have HOP := hid hop
 clear hop hs
 have d1 : decide (ep < 0) = false := by simp; omega
 have d2 : decide (524288 < ep) = false := by simp; omega
 have d3 : decide (nx < 1) = false := by simp; omega
 have d4 : decide (1048576 < nx) = false := by simp; omega
 go_enter Tryz.func19, Tryz.ntmps19
 go_wp2
 have hW0 : ∃ W0 : World, W0 = w.alloc (.cells #[.int .i64 ep, .int .i64 nx, .slice a l.length c] 33) := ⟨_, rfl⟩
 obtain ⟨W0, hW0⟩ := hW0
 have HW0 := hid hW0
 go_loopw [3] (fun i wr => ∃ k : Nat, i = .int .i64 k ∧ k ≤ l.length ∧ goF ep nx (l.take k) (l.drop k) = goF ep nx [] l ∧ Below (w.heap.size + 1) W0 wr) (fun i _ => l.length - (intOf i).toNat)
 case atStart => exact ⟨0, rfl, Nat.zero_le _, rfl, by rw [HW0.out]; exact Below.refl _ _⟩
 case round =>
  obtain ⟨k, rfl, hk, hsame, hB⟩ := hrel
  have HSm := hid hsame
  clear hsame
  obtain ⟨hc, hf⟩ := bcell hB
  have hsz := hB.size
  subst hW0
  simp at hsz
  have hB0 : Below w.heap.size w wr := ((Below.refl _ _).alloc (Nat.le_refl _) _).trans (hB.mono (by omega))
  by_cases hlt : k < l.length
  ·obtain ⟨b, off, rfl, hb, hrow⟩ := HOP.out (by omega)
   obtain ⟨x, hx⟩ := get_lt hlt
   obtain ⟨g0, g1, g2, g3⟩ := row4 hrow hx
   have HD := hid (drop_get hx)
   have HX := hid hx
   have HS := hid (take_snoc l k x hx)
   clear hx
   have z0 : w.heap.size < wr.heap.size := by omega
   have z1 : b < wr.heap.size := by omega
   have hBX : Below (w.heap.size + 1) (w.alloc (.cells #[.int .i64 ep, .int .i64 nx, .slice (some ⟨b, off, none⟩) l.length c] 33)) (wr.alloc (.cells #[.int .i64 x.id, .int .u8 x.kind, .int .i64 x.key, .int .i64 x.sent] 40)) := hB.alloc (by omega) _
   obtain ⟨m, hm⟩ : ∃ m, wrap64 (x.id - ep * 1048576) = m := ⟨_, rfl⟩
   have HMM := hid hm
   by_cases e1 : 1 ≤ m
   ·have f1 : decide (m < 1) = false := by simp; omega
    have E1 := hid e1
    by_cases e2 : m < nx
    ·have f2 : decide (nx ≤ m) = false := by simp; omega
     have E2 := hid e2
     by_cases e3 : k = 0
     ·have f3 : decide (0 < k) = false := by simp; omega
      have HL : Hid (∀ y, (l.take k).getLast? = some y → y.id < x.id) := hid (by rw [e3]; intro y hy; simp at hy)
      clear e3
      by_cases e4 : kindB x.kind = true
      ·have HKD := hid e4
       clear e4
       by_cases e5 : numB x.key = true
       ·have HKY := hid e5
        clear e5
        by_cases e6 : numB x.sent = true
        ·have HSN := hid e6
         clear e6
         go_wp2
         go_quiet ((first | (go_at_call 41; exact cquiet_left (rkind_at _ true HKD.out _)) | (go_at_call_of 42 (Value.int .i64 x.key); exact cquiet_left (rnum_at _ true HKY.out _)) | (go_at_call 42; exact cquiet_left (rnum_at _ true HSN.out _))))
         go_wp2
         obtain ⟨wo, rfl⟩ : ∃ wo : World, wo = wr := ⟨_, rfl⟩
         obtain ⟨W2, hW2⟩ : ∃ W2 : World, W2 = (wo.alloc (.cells #[.int .i64 x.id, .int .u8 x.kind, .int .i64 x.key, .int .i64 x.sent] 40)).drewN nq := ⟨_, rfl⟩
         have HW2 := hid hW2
         go_loopw [6] (fun i wr => ∃ j : Nat, i = .int .i64 j ∧ j ≤ k ∧ hasB (l.take j) x.kind x.key = false ∧ Below (wo.heap.size + 1) W2 wr) (fun i _ => k - (intOf i).toNat)
         case atStart => exact ⟨0, rfl, Nat.zero_le _, rfl, by rw [HW2.out]; exact Below.refl _ _⟩
         case round =>
          obtain ⟨j, rfl, hj, hno, hB3⟩ := hrel
          have HN := hid hno
          clear hno
          obtain ⟨hc3, hf3⟩ := bcell hB3
          have hsz3 := hB3.size
          subst hW2
          simp at hsz3
          have hBend : Below (w.heap.size + 1) (w.alloc (.cells #[.int .i64 ep, .int .i64 nx, .slice (some ⟨b, off, none⟩) l.length c] 33)) wr := (below_drewN hBX nq).trans (hB3.mono (by omega))
          have hBend0 : Below w.heap.size w wr := ((Below.refl _ _).alloc (Nat.le_refl _) _).trans (hBend.mono (by omega))
          have z2 : w.heap.size < wo.heap.size + 1 := by omega
          have z3 : b < wo.heap.size + 1 := by omega
          by_cases hjk : j < k
          ·obtain ⟨v, hv⟩ := get_lt (show j < l.length by omega)
           obtain ⟨v0, v1, v2, v3⟩ := row4 hrow hv
           have HV := hid hv
           have HSV := hid (take_snoc l j v hv)
           have HTK : Hid ((l.take (k))[j]? = some v) := hid (by rw [List.getElem?_take, if_pos hjk]; exact hv)
           clear hv
           have s5 : (j : Int) < (l.length : Int) := by omega
           by_cases k1 : v.kind = x.kind
           ·have t1 : (v.kind == x.kind) = true := by simpa using k1
            have K1 := hid k1
            clear k1
            by_cases k2 : v.key = x.key
            ·have t2 : (v.key == x.key) = true := by simpa using k2
             have K2 := hid k2
             clear k2
             go_wp2
             go_quiet (fail)
             go_wp2
             go_ret
             refine ⟨ret_bool ?_, below_drewN hBend0 _⟩
             rw [← HSm.out, HD.out]
             refine (goF_not (refAt_not fun h => ?_)).symm
             have h7 := h.2.2.2.2.2.2
             rw [hasB_at HTK.out K1.out K2.out] at h7
             cases h7
            ·have t2 : (v.key == x.key) = false := by simpa using k2
             have K2 := hid t2
             clear k2
             go_wp2
             go_quiet (fail)
             go_wp2
             go_roundw
             case rel => exact ⟨j + 1, by go_num, by omega, by rw [HSV.out, hasB_snoc, HN.out, K2.out]; simp, below_drewN hB3 _⟩
             case measure => simp [intOf]; omega
           ·have t1 : (v.kind == x.kind) = false := by simpa using k1
            have K1 := hid t1
            clear k1
            go_wp2
            go_quiet (fail)
            go_wp2
            go_roundw
            case rel => exact ⟨j + 1, by go_num, by omega, by rw [HSV.out, hasB_snoc, HN.out, K1.out]; simp, below_drewN hB3 _⟩
            case measure => simp [intOf]; omega
          ·have hje : j = k := by omega
           have HJE := hid hje
           clear hje
           have HNK : Hid (hasB (l.take (k)) x.kind x.key = false) := hid (by rw [← HJE.out]; exact HN.out)
           go_wp2
           go_roundw
           case rel =>
            refine ⟨k + 1, by go_num, by omega, ?_, hBend⟩
            rw [← HSm.out, HD.out, goF_step (refAt_yes ⟨by rw [HMM.out]; exact E1.out, by rw [HMM.out]; exact E2.out, HL.out, HKD.out, HKY.out, HSN.out, HNK.out⟩), HS.out]
           case measure => simp [intOf]; omega
        ·have HSN : Hid (numB x.sent = false) := hid (by simpa using e6)
         clear e6
         go_wp2
         go_quiet ((first | (go_at_call 41; exact cquiet_left (rkind_at _ true HKD.out _)) | (go_at_call_of 42 (Value.int .i64 x.key); exact cquiet_left (rnum_at _ true HKY.out _)) | (go_at_call 42; exact cquiet_left (rnum_at _ false HSN.out _))))
         go_wp2
         go_ret
         refine ⟨ret_bool ?_, below_drewN (hB0.alloc (by omega) _) _⟩
         rw [← HSm.out, HD.out]
         refine (goF_not (refAt_not fun h => ?_)).symm
         rw [HMM.out] at h
         have h6 := h.2.2.2.2.2.1
         rw [HSN.out] at h6; cases h6
       ·have HKY : Hid (numB x.key = false) := hid (by simpa using e5)
        clear e5
        go_wp2
        go_quiet ((first | (go_at_call 41; exact cquiet_left (rkind_at _ true HKD.out _)) | (go_at_call_of 42 (Value.int .i64 x.key); exact cquiet_left (rnum_at _ false HKY.out _))))
        go_wp2
        go_ret
        refine ⟨ret_bool ?_, below_drewN (hB0.alloc (by omega) _) _⟩
        rw [← HSm.out, HD.out]
        refine (goF_not (refAt_not fun h => ?_)).symm
        rw [HMM.out] at h
        have h6 := h.2.2.2.2.1
        rw [HKY.out] at h6; cases h6
      ·have HKD : Hid (kindB x.kind = false) := hid (by simpa using e4)
       clear e4
       go_wp2
       go_quiet ((first | (go_at_call 41; exact cquiet_left (rkind_at _ false HKD.out _))))
       go_wp2
       go_ret
       refine ⟨ret_bool ?_, below_drewN (hB0.alloc (by omega) _) _⟩
       rw [← HSm.out, HD.out]
       refine (goF_not (refAt_not fun h => ?_)).symm
       rw [HMM.out] at h
       have h6 := h.2.2.2.1
       rw [HKD.out] at h6; cases h6
     ·obtain ⟨k', rfl⟩ : ∃ k', k = k' + 1 := ⟨k - 1, by omega⟩
      obtain ⟨y, hy⟩ := get_lt (show k' < l.length by omega)
      obtain ⟨y0, y1, y2, y3⟩ := row4 hrow hy
      have HL0 := hid (last_take hy)
      clear hy e3
      have f3 : decide (0 < k' + 1) = true := by simp
      have s1 : IntKind.i64.wrap (((k' + 1 : Nat) : Int) - 1) = (k' : Int) := by rw [show (((k' + 1 : Nat) : Int) - 1) = (k' : Int) by omega]; exact IntWalk.i64_in _ (by omega)
      have s2 : (k' : Int) < (l.length : Int) := by omega
      by_cases e7 : y.id < x.id
      ·have f4 : decide (x.id ≤ y.id) = false := by simp; omega
       have HL : Hid (∀ y, (l.take (k' + 1)).getLast? = some y → y.id < x.id) := hid (by rw [HL0.out]; intro z hz; cases hz; exact e7)
       by_cases e4 : kindB x.kind = true
       ·have HKD := hid e4
        clear e4
        by_cases e5 : numB x.key = true
        ·have HKY := hid e5
         clear e5
         by_cases e6 : numB x.sent = true
         ·have HSN := hid e6
          clear e6
          go_wp2
          go_quiet ((first | (go_at_call 41; exact cquiet_left (rkind_at _ true HKD.out _)) | (go_at_call_of 42 (Value.int .i64 x.key); exact cquiet_left (rnum_at _ true HKY.out _)) | (go_at_call 42; exact cquiet_left (rnum_at _ true HSN.out _))))
          go_wp2
          obtain ⟨wo, rfl⟩ : ∃ wo : World, wo = wr := ⟨_, rfl⟩
          obtain ⟨W2, hW2⟩ : ∃ W2 : World, W2 = (wo.alloc (.cells #[.int .i64 x.id, .int .u8 x.kind, .int .i64 x.key, .int .i64 x.sent] 40)).drewN nq := ⟨_, rfl⟩
          have HW2 := hid hW2
          go_loopw [6] (fun i wr => ∃ j : Nat, i = .int .i64 j ∧ j ≤ (k' + 1) ∧ hasB (l.take j) x.kind x.key = false ∧ Below (wo.heap.size + 1) W2 wr) (fun i _ => (k' + 1) - (intOf i).toNat)
          case atStart => exact ⟨0, rfl, Nat.zero_le _, rfl, by rw [HW2.out]; exact Below.refl _ _⟩
          case round =>
           obtain ⟨j, rfl, hj, hno, hB3⟩ := hrel
           have HN := hid hno
           clear hno
           obtain ⟨hc3, hf3⟩ := bcell hB3
           have hsz3 := hB3.size
           subst hW2
           simp at hsz3
           have hBend : Below (w.heap.size + 1) (w.alloc (.cells #[.int .i64 ep, .int .i64 nx, .slice (some ⟨b, off, none⟩) l.length c] 33)) wr := (below_drewN hBX nq).trans (hB3.mono (by omega))
           have hBend0 : Below w.heap.size w wr := ((Below.refl _ _).alloc (Nat.le_refl _) _).trans (hBend.mono (by omega))
           have z2 : w.heap.size < wo.heap.size + 1 := by omega
           have z3 : b < wo.heap.size + 1 := by omega
           by_cases hjk : j < (k' + 1)
           ·obtain ⟨v, hv⟩ := get_lt (show j < l.length by omega)
            obtain ⟨v0, v1, v2, v3⟩ := row4 hrow hv
            have HV := hid hv
            have HSV := hid (take_snoc l j v hv)
            have HTK : Hid ((l.take ((k' + 1)))[j]? = some v) := hid (by rw [List.getElem?_take, if_pos hjk]; exact hv)
            clear hv
            have s5 : (j : Int) < (l.length : Int) := by omega
            by_cases k1 : v.kind = x.kind
            ·have t1 : (v.kind == x.kind) = true := by simpa using k1
             have K1 := hid k1
             clear k1
             by_cases k2 : v.key = x.key
             ·have t2 : (v.key == x.key) = true := by simpa using k2
              have K2 := hid k2
              clear k2
              go_wp2
              go_quiet (fail)
              go_wp2
              go_ret
              refine ⟨ret_bool ?_, below_drewN hBend0 _⟩
              rw [← HSm.out, HD.out]
              refine (goF_not (refAt_not fun h => ?_)).symm
              have h7 := h.2.2.2.2.2.2
              rw [hasB_at HTK.out K1.out K2.out] at h7
              cases h7
             ·have t2 : (v.key == x.key) = false := by simpa using k2
              have K2 := hid t2
              clear k2
              go_wp2
              go_quiet (fail)
              go_wp2
              go_roundw
              case rel => exact ⟨j + 1, by go_num, by omega, by rw [HSV.out, hasB_snoc, HN.out, K2.out]; simp, below_drewN hB3 _⟩
              case measure => simp [intOf]; omega
            ·have t1 : (v.kind == x.kind) = false := by simpa using k1
             have K1 := hid t1
             clear k1
             go_wp2
             go_quiet (fail)
             go_wp2
             go_roundw
             case rel => exact ⟨j + 1, by go_num, by omega, by rw [HSV.out, hasB_snoc, HN.out, K1.out]; simp, below_drewN hB3 _⟩
             case measure => simp [intOf]; omega
           ·have hje : j = (k' + 1) := by omega
            have HJE := hid hje
            clear hje
            have HNK : Hid (hasB (l.take ((k' + 1))) x.kind x.key = false) := hid (by rw [← HJE.out]; exact HN.out)
            go_wp2
            go_roundw
            case rel =>
             refine ⟨(k' + 1) + 1, by go_num, by omega, ?_, hBend⟩
             rw [← HSm.out, HD.out, goF_step (refAt_yes ⟨by rw [HMM.out]; exact E1.out, by rw [HMM.out]; exact E2.out, HL.out, HKD.out, HKY.out, HSN.out, HNK.out⟩), HS.out]
            case measure => simp [intOf]; omega
         ·have HSN : Hid (numB x.sent = false) := hid (by simpa using e6)
          clear e6
          go_wp2
          go_quiet ((first | (go_at_call 41; exact cquiet_left (rkind_at _ true HKD.out _)) | (go_at_call_of 42 (Value.int .i64 x.key); exact cquiet_left (rnum_at _ true HKY.out _)) | (go_at_call 42; exact cquiet_left (rnum_at _ false HSN.out _))))
          go_wp2
          go_ret
          refine ⟨ret_bool ?_, below_drewN (hB0.alloc (by omega) _) _⟩
          rw [← HSm.out, HD.out]
          refine (goF_not (refAt_not fun h => ?_)).symm
          rw [HMM.out] at h
          have h6 := h.2.2.2.2.2.1
          rw [HSN.out] at h6; cases h6
        ·have HKY : Hid (numB x.key = false) := hid (by simpa using e5)
         clear e5
         go_wp2
         go_quiet ((first | (go_at_call 41; exact cquiet_left (rkind_at _ true HKD.out _)) | (go_at_call_of 42 (Value.int .i64 x.key); exact cquiet_left (rnum_at _ false HKY.out _))))
         go_wp2
         go_ret
         refine ⟨ret_bool ?_, below_drewN (hB0.alloc (by omega) _) _⟩
         rw [← HSm.out, HD.out]
         refine (goF_not (refAt_not fun h => ?_)).symm
         rw [HMM.out] at h
         have h6 := h.2.2.2.2.1
         rw [HKY.out] at h6; cases h6
       ·have HKD : Hid (kindB x.kind = false) := hid (by simpa using e4)
        clear e4
        go_wp2
        go_quiet ((first | (go_at_call 41; exact cquiet_left (rkind_at _ false HKD.out _))))
        go_wp2
        go_ret
        refine ⟨ret_bool ?_, below_drewN (hB0.alloc (by omega) _) _⟩
        rw [← HSm.out, HD.out]
        refine (goF_not (refAt_not fun h => ?_)).symm
        rw [HMM.out] at h
        have h6 := h.2.2.2.1
        rw [HKD.out] at h6; cases h6
      ·have f4 : decide (x.id ≤ y.id) = true := by simp; omega
       have E7 := hid e7
       go_wp2
       go_quiet (fail)
       go_wp2
       go_ret
       refine ⟨ret_bool ?_, below_drewN (hB0.alloc (by omega) _) _⟩
       rw [← HSm.out, HD.out]
       refine (goF_not (refAt_not fun h => ?_)).symm
       rw [HMM.out] at h
       have h7 := h.2.2.1 y HL0.out
       have h8 := E7.out
       omega
    ·have f2 : decide (nx ≤ m) = true := by simp; omega
     have E2 := hid e2
     go_wp2
     go_quiet (fail)
     go_wp2
     go_ret
     refine ⟨ret_bool ?_, below_drewN (hB0.alloc (by omega) _) _⟩
     rw [← HSm.out, HD.out]
     refine (goF_not (refAt_not fun h => ?_)).symm
     rw [HMM.out] at h
     have h7 := h.2.1
     have h8 := E2.out
     omega
   ·have f1 : decide (m < 1) = true := by simp; omega
    have E1 := hid e1
    go_wp2
    go_quiet (fail)
    go_wp2
    go_ret
    refine ⟨ret_bool ?_, below_drewN (hB0.alloc (by omega) _) _⟩
    rw [← HSm.out, HD.out]
    refine (goF_not (refAt_not fun h => ?_)).symm
    rw [HMM.out] at h
    have h7 := h.1
    have h8 := E1.out
    omega
  ·obtain rfl : k = l.length := by omega
   go_wp2
   go_ret
   refine ⟨ret_bool ?_, hB0⟩
   rw [← HSm.out, List.drop_length]; rfl
end Go.Proofs.YthhgpiolcnojfaaGreatDoor

/- The reference's Right answers as the program's does. -/
namespace Go.Proofs.YthhgpiolcnojfaaGreatDoor
open Go.RowKit Go.Shelf

def lastId (b : Int) (pre : List CallV) : Int := match pre.getLast? with | none => b | some y => y.id
def keysOf (pre : List CallV) : List (Int × Int) := pre.map fun x => (x.kind, x.key)

theorem keysOf_has (pre : List CallV) (k y : Int) : hasB pre k y = false ↔ (k, y) ∉ keysOf pre := by
 unfold hasB keysOf
 rw [List.any_eq_false, List.mem_map]
 constructor
 ·rintro h ⟨x, hx, he⟩
  have := h x hx
  simp only [Prod.mk.injEq] at he
  simp [he.1, he.2] at this
 ·intro h x hx hb
  apply h
  simp only [Bool.and_eq_true, beq_iff_eq] at hb
  exact ⟨x, hx, by rw [hb.1, hb.2]⟩

theorem refAt_iff {ep nx : Int} (h1 : 0 ≤ ep) (h2 : ep ≤ 524288) (h3 : 1 ≤ nx) (h4 : nx ≤ 1048576) {pre : List CallV} {x : CallV} (hx : in64 x.id) (hL : ep * 1048576 ≤ lastId (ep * 1048576) pre) :
  refAt ep nx pre x = true ↔ (kindB x.kind = true ∧ numB x.key = true ∧ numB x.sent = true ∧ lastId (ep * 1048576) pre < x.id ∧ x.id < ep * 1048576 + nx ∧ (x.kind, x.key) ∉ keysOf pre) := by
 obtain ⟨hx1, hx2⟩ := hx
 have hw : (1 ≤ wrap64 (x.id - ep * 1048576) ∧ wrap64 (x.id - ep * 1048576) < nx) ↔ (ep * 1048576 < x.id ∧ x.id < ep * 1048576 + nx) := by
  unfold wrap64
  constructor <;> intro h <;> omega
 have hlast : ((∀ y, pre.getLast? = some y → y.id < x.id) ∧ ep * 1048576 < x.id) ↔ lastId (ep * 1048576) pre < x.id := by
  unfold lastId at hL ⊢
  cases hp : pre.getLast? with
  | none => simp
  | some y =>
   rw [hp] at hL
   simp only at hL ⊢
   constructor
   ·rintro ⟨h, _⟩; exact h y rfl
   ·intro h; exact ⟨fun z hz => by cases hz; exact h, by omega⟩
 constructor
 ·intro h
  by_cases hc : (1 ≤ wrap64 (x.id - ep * 1048576) ∧ wrap64 (x.id - ep * 1048576) < nx ∧ (∀ y, pre.getLast? = some y → y.id < x.id) ∧ kindB x.kind = true ∧ numB x.key = true ∧ numB x.sent = true ∧ hasB pre x.kind x.key = false)
  ·obtain ⟨a, b, c, d, e, f, g⟩ := hc
   have hab := hw.1 ⟨a, b⟩
   exact ⟨d, e, f, hlast.1 ⟨c, hab.1⟩, hab.2, (keysOf_has _ _ _).1 g⟩
  ·rw [refAt_not hc] at h; cases h
 ·rintro ⟨d, e, f, l, m, g⟩
  have hl := hlast.2 l
  have hab := hw.2 ⟨hl.2, m⟩
  exact refAt_yes ⟨hab.1, hab.2, hl.1, d, e, f, (keysOf_has _ _ _).2 g⟩

theorem goF_goR {ep nx : Int} (h1 : 0 ≤ ep) (h2 : ep ≤ 524288) (h3 : 1 ≤ nx) (h4 : nx ≤ 1048576) : ∀ (l pre : List CallV), (∀ x ∈ l, x.wf) → ep * 1048576 ≤ lastId (ep * 1048576) pre →
  goF ep nx pre l = goR (ep * 1048576 + nx) (lastId (ep * 1048576) pre) (keysOf pre) l
 | [], _, _, _ => rfl
 | x :: xs, pre, hwf, hL => by
  have hx := (hwf x (List.mem_cons_self ..)).1
  have hi := refAt_iff h1 h2 h3 h4 hx hL
  by_cases hr : refAt ep nx pre x = true
  ·obtain ⟨a, b, c, d, e, f⟩ := hi.1 hr
   have hl' : lastId (ep * 1048576) (pre ++ [x]) = x.id := by simp [lastId]
   rw [goF_step hr, goF_goR h1 h2 h3 h4 xs (pre ++ [x]) (fun y hy => hwf y (List.mem_cons_of_mem _ hy)) (by rw [hl']; omega), hl',
    goR_step a b c d e f]
   congr 1
   simp [keysOf]
  ·have hr' : refAt ep nx pre x = false := by simpa using hr
   rw [goF_not hr', goR_not]
   rintro ⟨a, b, c, d, e⟩
   rw [Bool.and_eq_true] at b
   exact hr (hi.2 ⟨a, b.1, b.2, c, d, e⟩)

set_option maxHeartbeats 400000 in
set_option maxRecDepth 10000 in
theorem rright_out (ep nx : Int) (s : Value) (w : World) (h : ¬ (0 ≤ ep ∧ ep ≤ 524288 ∧ 1 ≤ nx ∧ nx ≤ 1048576)) :
  Calls Tryz.prog 19 #[calls ep nx s] w fun e w' => e = .returned (.bool false) ∧ Below w.heap.size w w' := by
 unfold calls
 by_cases h1 : 0 ≤ ep
 ·have d1 : decide (ep < 0) = false := by simp; omega
  by_cases h2 : ep ≤ 524288
  ·have d2 : decide (524288 < ep) = false := by simp; omega
   by_cases h3 : 1 ≤ nx
   ·have d3 : decide (nx < 1) = false := by simp; omega
    have d4 : decide (1048576 < nx) = true := by simp; omega
    go_enter Tryz.func19, Tryz.ntmps19
    go_wp2
    go_ret
    exact ⟨rfl, (Below.refl _ _).alloc (Nat.le_refl _) _⟩
   ·have d3 : decide (nx < 1) = true := by simp; omega
    go_enter Tryz.func19, Tryz.ntmps19
    go_wp2
    go_ret
    exact ⟨rfl, (Below.refl _ _).alloc (Nat.le_refl _) _⟩
  ·have d2 : decide (524288 < ep) = true := by simp; omega
   go_enter Tryz.func19, Tryz.ntmps19
   go_wp2
   go_ret
   exact ⟨rfl, (Below.refl _ _).alloc (Nat.le_refl _) _⟩
 ·have d1 : decide (ep < 0) = true := by simp; omega
  go_enter Tryz.func19, Tryz.ntmps19
  go_wp2
  go_ret
  exact ⟨rfl, (Below.refl _ _).alloc (Nat.le_refl _) _⟩

theorem crright_any (ep nx : Int) (s : Value) (l : List CallV) (w : World) (hn : l.length ≤ 1000000) (hwf : ∀ x ∈ l, x.wf) (hs : Row12 w s l) :
  Calls Tryz.prog 19 #[calls ep nx s] w fun e w' => e = .returned (.bool (crightB ⟨ep, nx, l⟩)) ∧ Below w.heap.size w w' := by
 by_cases h : 0 ≤ ep ∧ ep ≤ 524288 ∧ 1 ≤ nx ∧ nx ≤ 1048576
 ·have : crightB ⟨ep, nx, l⟩ = goF ep nx [] l := by
   rw [goF_goR h.1 h.2.1 h.2.2.1 h.2.2.2 l [] hwf (Int.le_refl _)]
   simp [crightB, h, lastId, keysOf]
  rw [this]
  exact rright_in ep nx s l w hn hs h.1 h.2.1 h.2.2.1 h.2.2.2
 ·have : crightB ⟨ep, nx, l⟩ = false := by
   apply Bool.eq_false_iff.2
   intro hb
   exact h (rightB_iff.1 hb).1
  rw [this]
  exact rright_out ep nx s w h
end Go.Proofs.YthhgpiolcnojfaaGreatDoor

/- A part of the proofs about open calls: contracts of functions, or plain facts that they want. -/
namespace Go.Proofs.YthhgpiolcnojfaaGreatDoor
open Go.RowKit Go.Shelf

end Go.Proofs.YthhgpiolcnojfaaGreatDoor

/- The reference's functions of layer 12: Begin, Has, Find, Same. -/
namespace Go.Proofs.YthhgpiolcnojfaaGreatDoor
open Go.RowKit Go.Shelf

theorem hasB_all {l : List CallV} {k : Nat} {kd ky : Int} (h : hasB (l.take k) kd ky = false) (hk : k = l.length) : hasB l kd ky = false := by
 subst hk; rwa [List.take_length] at h
theorem hasB_next {l : List CallV} {k : Nat} {x : CallV} {kd ky : Int} (h : hasB (l.take k) kd ky = false) (hx : l[k]? = some x) (hn : ¬ (x.kind = kd ∧ x.key = ky)) : hasB (l.take (k + 1)) kd ky = false := by
 rw [take_snoc l k x hx, hasB_snoc, h, Bool.false_or]
 apply Bool.eq_false_iff.2
 simpa using hn

set_option maxHeartbeats 1000000 in
set_option maxRecDepth 100000 in
theorem rhas_any (ep nx kd ky : Int) (s : Value) (l : List CallV) (w : World) (hn : l.length ≤ 1000000) (hs : Row12 w s l) :
  Calls Tryz.prog 56 #[calls ep nx s, .int .u8 kd, .int .i64 ky] w fun e w' => e = .returned (.bool (hasB l kd ky)) ∧ Below w.heap.size w w' := by
 unfold calls
 obtain ⟨a, c, rfl, hl1, hl2, hl3, hop⟩ := hs.open
 have HOP := hid hop
 clear hop hs
 go_enter Tryz.func56, Tryz.ntmps56
 go_wp2
 obtain ⟨wo, hwo⟩ : ∃ wo : World, wo = w.alloc (.cells #[.int .i64 ep, .int .i64 nx, .slice a l.length c] 33) := ⟨_, rfl⟩
 have B0 : Hid (wo.heap[w.heap.size]? = some (.cells #[.int .i64 ep, .int .i64 nx, .slice a l.length c] 33)) := hid (by rw [hwo]; exact heap_new w _)
 have Z : Hid (Below w.heap.size w wo) := hid (by rw [hwo]; exact (Below.refl _ _).alloc (Nat.le_refl _) _)
 rw [← hwo]
 clear hwo
 go_loopw [7] (fun i wr => ∃ k : Nat, i = .int .i64 k ∧ k ≤ l.length ∧ hasB (l.take k) kd ky = false ∧ Below wo.heap.size wo wr) (fun i _ => l.length - (intOf i).toNat)
 case atStart => exact ⟨0, rfl, Nat.zero_le _, rfl, Below.refl _ _⟩
 case round =>
  obtain ⟨k, rfl, hk, hno, hB⟩ := hrel
  have HNO := hid hno
  have HB := hid hB
  have HBZ := hid (Z.out.trans (hB.mono Z.out.size))
  clear hno hB
  obtain ⟨b00, b01, b02, b0f, b0l⟩ := blk3 (blk_below B0.out HB.out (blk_lt B0.out))
  by_cases hlt : k < l.length
  ·obtain ⟨b, off, rfl, hb, hrow⟩ := HOP.out (by omega)
   obtain ⟨x, hx⟩ := get_lt hlt
   obtain ⟨g0, g1, g2, g3⟩ := row4 (hrow.below HBZ.out hb) hx
   have HX := hid hx
   have hbz : b < wr.heap.size := by have := HBZ.out.size; omega
   clear hx hrow
   by_cases h1 : x.kind = kd
   ·have t1 : (x.kind == kd) = true := by simpa using h1
    by_cases h2 : x.key = ky
    ·have t2 : (x.key == ky) = true := by simpa using h2
     have HH := hid (hasB_at HX.out h1 h2)
     clear h1 h2
     go_wp2
     go_ret
     exact ⟨ret_bool HH.out.symm, HBZ.out⟩
    ·have t2 : (x.key == ky) = false := by simpa using h2
     have HH := hid (hasB_next HNO.out HX.out (fun h => h2 h.2))
     clear h1 h2
     go_wp2
     go_roundw
     case rel => exact ⟨k + 1, by go_num, by omega, HH.out, HB.out⟩
     case measure => simp [intOf]; omega
   ·have t1 : (x.kind == kd) = false := by simpa using h1
    have HH := hid (hasB_next HNO.out HX.out (fun h => h1 h.1))
    clear h1
    go_wp2
    go_roundw
    case rel => exact ⟨k + 1, by go_num, by omega, HH.out, HB.out⟩
    case measure => simp [intOf]; omega
  ·have HH := hid (hasB_all HNO.out (by omega))
   obtain rfl : k = l.length := by omega
   go_wp2
   go_ret
   exact ⟨ret_bool HH.out.symm, HBZ.out⟩

end Go.Proofs.YthhgpiolcnojfaaGreatDoor

/- The reference's own: calls in memory of their own. -/
namespace Go.Proofs.YthhgpiolcnojfaaGreatDoor
open Go.RowKit Go.Shelf

set_option maxHeartbeats 1000000 in
theorem rown_any (ep nx : Int) (s : Value) (L : List CallV) (w : World) (hn : L.length ≤ 1000000) (hs : Row12 w s L) :
  Calls Tryz.prog 53 #[calls ep nx s] w fun e w' => ∃ v, e = .returned (calls ep nx v) ∧ Own12 w' w.heap.size v L ∧ Below w.heap.size w w' := by
 obtain ⟨i0, hi, hz0, hz1, hz2⟩ := info_parts infoC
 obtain ⟨sa, sc, rfl⟩ := shape_row hs
 obtain ⟨W, hW⟩ : ∃ W, W = ((w.alloc (.cells #[.int .i64 ep, .int .i64 nx, .slice sa L.length sc] 33)).alloc (.cells #[.int .i64 0, .int .i64 0, .slice none 0 0] 33)).alloc (.cells #[] 40) := ⟨_, rfl⟩
 have hB : Below w.heap.size w W := by rw [hW]; exact (((Below.refl _ _).alloc (Nat.le_refl _) _).alloc (by simp) _).alloc (by simp; omega) _
 have hq0 : W.heap[w.heap.size]? = some (.cells #[.int .i64 ep, .int .i64 nx, .slice sa L.length sc] 33) := by rw [hW]; exact blk_alloc (blk_alloc (heap_new _ _) _) _
 have hq1 : W.heap[w.heap.size + 1]? = some (.cells #[.int .i64 0, .int .i64 0, .slice none 0 0] 33) := by rw [hW]; exact blk_alloc (heap_new2 _ _ _) _
 have hown : Own12 W (w.heap.size + 2) (.slice (some ⟨w.heap.size + 2, 0, none⟩) 0 0) ([] : List CallV) := by
  rw [hW]
  have := World.ownsRow_made (e := 40) (size := 4) (base := w.heap.size + 2) ((w.alloc (.cells #[.int .i64 ep, .int .i64 nx, .slice sa L.length sc] 33)).alloc (.cells #[.int .i64 0, .int .i64 0, .slice none 0 0] 33)) #[] 0 (by simp) (by decide) rfl
  simpa [Owns] using this
 have HS := hid (hs.below hB)
 have HB := hid hB
 have Q0 := hid hq0
 have Q1 := hid hq1
 have HOWN := hid hown
 have hsz : W.heap.size = w.heap.size + 3 := by rw [hW]; simp
 have HSZ := hid hsz
 have c1 : ([] : List CallV).length + L.length ≤ maxLen := by unfold maxLen; simp; omega
 have c2 : (([] : List CallV).length + L.length) * 32 ≤ 140737488355328 := by simp; omega
 have c3 : w.heap.size + 2 ≤ W.heap.size := by omega
 have c4 : ∀ o, w.heap.size + 2 ≤ (W.alloc o).heap.size := fun o => by simp; omega
 have C4 := hid c4
 clear hs hB hq0 hq1 hown hsz c4
 unfold calls
 go_enter Tryz.func53, Tryz.ntmps53
 subst hW
 go_wp2_with (at_builtin; go_loud (refine append_rows rfl _ _ 31 rfl (w.heap.size + 2) 40 i0 _ 32 Tryz.underlying31 hi hz0 hz1 hz2 rfl (by decide) encC_len encC_one _ [] rfl HOWN.out _ L rfl HS.out c1 c2 c3 ?_); intro v' w1 hown hgrow; obtain ⟨va, vn, vc, rfl⟩ := hown.shape; have HOW := hid hown; have HGR := hid hgrow; clear hown hgrow; have G0 := hid (blk_grown Q0.out HGR.out (show some w.heap.size ≠ some (w.heap.size + 2) by simp)); have G1 := hid (blk_grown Q1.out HGR.out (show some (w.heap.size + 1) ≠ some (w.heap.size + 2) by simp)); obtain ⟨y0, y1, y2, yf, yl⟩ := blk3 G0.out; obtain ⟨z0, z1, z2, zf, zl⟩ := blk3 G1.out)
 refine bodyPost_ret (res_calls rfl rfl (blk_set (blk_set (blk_set (blk_other G1.out (by simp) _) 0 _) 1 _) 2 _)) rfl ?_
 have hg : Below w.heap.size w w1 := HB.out.grown HGR.out (by have := HSZ.out; omega) (fun r e => by cases e; show w.heap.size ≤ w.heap.size + 1 + 1; omega)
 refine ⟨_, rfl, ?_, ?_⟩
 ·exact Owns.mono ((((Owns.other HOW.out (p := ⟨w.heap.size, 2, none⟩) (by simp) _).other (p := ⟨w.heap.size + 1, 0, none⟩) (by simp) _).other (p := ⟨w.heap.size + 1, 1, none⟩) (by simp) _).other (p := ⟨w.heap.size + 1, 2, none⟩) (by simp) _) (by omega)
 ·exact (((hg.setCell (p := ⟨w.heap.size, 2, none⟩) (by simp) _).setCell (p := ⟨w.heap.size + 1, 0, none⟩) (by simp) _).setCell (p := ⟨w.heap.size + 1, 1, none⟩) (by simp) _).setCell (p := ⟨w.heap.size + 1, 2, none⟩) (by simp) _
end Go.Proofs.YthhgpiolcnojfaaGreatDoor

/- The reference's Close and Late. -/
namespace Go.Proofs.YthhgpiolcnojfaaGreatDoor
open Go.RowKit Go.Shelf

theorem rown_at (ep nx : Int) (s : Value) (L : List CallV) (w : World) (hn : L.length ≤ 1000000) (hs : Row12 w s L) :
  Calls Tryz.prog 53 #[calls ep nx s] w fun e w' => ∃ a c, e = .returned (calls ep nx (.slice a L.length c)) ∧ Own12 w' w.heap.size (.slice a L.length c) L ∧ Below w.heap.size w w' := by
 refine (rown_any ep nx s L w hn hs).mono ?_
 rintro e w' ⟨v, he, ho, hb⟩
 have hrow := own12_row ho
 obtain ⟨a, c, rfl⟩ := shape_row hrow
 exact ⟨a, c, he, ho, hb⟩
theorem crright_at (ep nx : Int) (s : Value) (L : List CallV) (b : Bool) (w : World) (hn : L.length ≤ 1000000) (hwf : ∀ x ∈ L, x.wf) (hs : Row12 w s L) (hb : crightB ⟨ep, nx, L⟩ = b) :
  Calls Tryz.prog 19 #[calls ep nx s] w fun e w' => e = .returned (.bool b) ∧ Below w.heap.size w w' := by
 rw [← hb]; exact crright_any ep nx s L w hn hwf hs

end Go.Proofs.YthhgpiolcnojfaaGreatDoor

/- The reference Late. -/
namespace Go.Proofs.YthhgpiolcnojfaaGreatDoor
open Go.RowKit Go.Shelf

end Go.Proofs.YthhgpiolcnojfaaGreatDoor

/- The reference's Same. -/
namespace Go.Proofs.YthhgpiolcnojfaaGreatDoor
open Go.RowKit Go.Shelf

end Go.Proofs.YthhgpiolcnojfaaGreatDoor
