import Derived.Test.YtgcajfglidflnaaDoorLsm
import Derived.Deep.RegionHeld3
import Derived.Lib.QuietBelow
import Derived.BigQuiet
/- ReapStrays: a stray box is to be ended, and one whose launch is meant is not. Printed by gn_lsr.py. -/
namespace Go.Proofs.YtgcajfglidflnaaDoor
open Go.RowKit Go.Shelf
attribute [-go_sem] loadVar storeVar Instr.buildSlice
attribute [local go_sem] load_other store_other

/-- Is another one of its id, or its token, among the first n? -/
def twB (L : List SeenV) (i : Nat) (x : SeenV) : Nat → Bool
 | 0 => false
 | j + 1 => twB L i x j || (match L[j]? with
  | some z => (j != i) && (z.id == x.id || (z.token == x.token && decide (0 < x.token)))
  | none => false)
theorem twB_not {L : List SeenV} {i : Nat} {x : SeenV} : ∀ {n : Nat}, twB L i x n = false → ∀ j z, j < n → j ≠ i → L[j]? = some z → z.id ≠ x.id ∧ ¬ (z.token = x.token ∧ 0 < x.token)
 | 0, _, _, _, hj, _, _ => absurd hj (Nat.not_lt_zero _)
 | n + 1, h, j, z, hj, hne, hz => by
  unfold twB at h
  rw [Bool.or_eq_false_iff] at h
  rcases Nat.lt_or_ge j n with h1 | h1
  ·exact twB_not h.1 j z h1 hne hz
  ·obtain rfl : j = n := by omega
   have h2 := h.2
   rw [hz] at h2
   have hb : (j != i) = true := by simpa using hne
   simp only [hb, Bool.true_and, Bool.or_eq_false_iff, Bool.and_eq_false_iff, beq_eq_false_iff_ne, decide_eq_false_iff_not] at h2
   exact ⟨h2.1, fun h3 => h2.2.elim (fun h4 => h4 h3.1) (fun h4 => h4 h3.2)⟩
theorem twB_some {L : List SeenV} {i j : Nat} {x z : SeenV} (hz : L[j]? = some z) : twB L i x (j + 1) = (twB L i x j || ((j != i) && (z.id == x.id || (z.token == x.token && decide (0 < x.token))))) := by
 conv => lhs; unfold twB
 rw [hz]
/-- One that is alone, and may be. -/
def AloneP (B : BrainV) (L : List SeenV) (x : SeenV) : Prop := ∃ i, L[i]? = some x ∧ FineS x ∧ (∀ y ∈ B.K, y.id ≠ x.id) ∧ ∀ (j : Nat) (z : SeenV), j ≠ i → L[j]? = some z → z.id ≠ x.id ∧ ¬ (z.token = x.token ∧ 0 < x.token)
theorem seen_cells {W : World} {T : Nat} {x : SeenV} (h : W.heap[T]? = some (.cells #[.int .i64 x.id, .int .i64 x.token, .int .i64 x.version, .int .i64 x.zone, .bool x.on, .bool x.well, .bool x.inn] 44)) :
  W.cell? ⟨T, 0, none⟩ = some (.int .i64 x.id) ∧ W.cell? ⟨T, 1, none⟩ = some (.int .i64 x.token) ∧ W.cell? ⟨T, 2, none⟩ = some (.int .i64 x.version) ∧ W.cell? ⟨T, 3, none⟩ = some (.int .i64 x.zone) ∧ W.cell? ⟨T, 4, none⟩ = some (.bool x.on) ∧ W.cell? ⟨T, 5, none⟩ = some (.bool x.well) ∧ W.cell? ⟨T, 6, none⟩ = some (.bool x.inn) ∧ T < W.heap.size :=
 ⟨blk_cell h 0, blk_cell h 1, blk_cell h 2, blk_cell h 3, blk_cell h 4, blk_cell h 5, blk_cell h 6, blk_lt h⟩
theorem bs_seen1 (x : SeenV) (w : World) : (Instr.buildSlice 31 1 #[(0, .agg #[.int .i64 x.id, .int .i64 x.token, .int .i64 x.version, .int .i64 x.zone, .bool x.on, .bool x.well, .bool x.inn])]).run Tryd.prog w = .ok (.slice (some ⟨w.heap.size, 0, none⟩) 1 1) (w.alloc (.cells #[.int .i64 x.id, .int .i64 x.token, .int .i64 x.version, .int .i64 x.zone, .bool x.on, .bool x.well, .bool x.inn] 44)) := by kernel_rfl
theorem new_cellsS (W : World) (x : SeenV) : ∀ (j : Nat) u, (encSn x)[j]? = some u → (W.alloc (.cells #[.int .i64 x.id, .int .i64 x.token, .int .i64 x.version, .int .i64 x.zone, .bool x.on, .bool x.well, .bool x.inn] 44)).cell? ((⟨W.heap.size, 0, none⟩ : Addr).add j) = some u := by
 intro j u hj
 rw [show ((⟨W.heap.size, 0, none⟩ : Addr).add j) = ⟨W.heap.size, j, none⟩ by unfold Addr.add; split <;> simp_all]
 rw [blk_cell (heap_new W _)]
 simpa [encSn] using hj
set_option maxRecDepth 100000 in
set_option maxHeartbeats 16000000 in
theorem strays_law (B : BrainV) (bv : Array Value) (on : Bool) (frm beh : Int) (sv : Value) (L : List SeenV) (now : Int) (w : World) (hB : BrIs w B (.agg bv)) (hs : RowS w sv L) (hwf : ∀ x ∈ B.K, in8 x.phase) (hC : Changes w) (hL : Limits w) :
  Calls Tryd.prog 4 #[.agg bv, scanV on frm beh sv, .int .i64 now] w fun e w' => e = .returned (.bool true) ∧ Below w.heap.size w w' := by
 obtain ⟨sa, sc, rfl, _⟩ := hs.open
 obtain ⟨W1, hW1⟩ : ∃ W1, W1 = (w.alloc (.cells bv 30)).alloc (.cells #[.bool on, .int .i64 frm, .int .i64 beh, .slice sa L.length sc] 33) := ⟨_, rfl⟩
 have hb1 : Below w.heap.size w W1 := by rw [hW1]; exact ((Below.refl _ _).alloc (Nat.le_refl _) _).alloc (by simp) _
 have n0 : BB W1 w.heap.size bv := by rw [hW1]; exact blk_alloc (heap_new _ _) _
 obtain ⟨mv, iv, kv, e, h1, h2, h3⟩ := hB
 have hv1 : VarIs W1 w.heap.size B (.agg bv) := by cases e; exact ⟨mv, iv, kv, rfl, n0, h1.below hb1, h2.below hb1, h3.below hb1⟩
 have M1 := hid (show SrM w B bv on frm beh sa sc L W1 from ⟨hv1, by rw [hW1]; exact heap_new2 _ _ _, hs.below hb1, hb1⟩)
 have HW1 := hid hW1
 have HC := hid hC
 have HL := hid hL
 have HWF := hid hwf
 clear hs hb1 hW1 hC hL hwf n0 e h1 h2 h3 hv1
 have HWK := hid (fun (W : World) (hb : Below w.heap.size w W) => wakes21_any W (HC.out.below hb) (HL.out.below hb))
 unfold scanV
 go_enter Tryd.func4, Tryd.ntmps4
 go_upto_region 1 with (fail)
 rw [← HW1.out]
 clear HW1
 obtain ⟨q, hq⟩ : ∃ q, greatB B = q := ⟨_, rfl⟩
 have HQ := hid hq
 clear hq
 have hld := M1.out.br.load
 go_wp2_with fail
 refine (great_is q HQ.out M1.out.br.is).mono ?_
 rintro e W2 ⟨rfl, hb⟩
 have M2 := hid (M1.out.below hb)
 clear hb hld M1
 cases q with
 | true =>
  go_wp2_with fail
  refine (HWK.out _ M2.out.bel).mono ?_
  rintro e Wz ⟨rfl, hb⟩
  have HB := hid (Below.trans M2.out.bel (hb.mono M2.out.bel.size))
  clear hb
  go_wp2
  go_ret
  exact ⟨rfl, HB.out⟩
 | false =>
  obtain ⟨rb, hrb⟩ : ∃ q, rightB B = q := ⟨_, rfl⟩
  have HRB := hid hrb
  clear hrb
  have hld := M2.out.br.load
  go_wp2_with fail
  refine (rright_is rb HRB.out M2.out.br.is).mono ?_
  rintro e W3 ⟨rfl, hb⟩
  have M3 := hid (M2.out.below hb)
  clear hb hld M2
  cases rb with
  | false =>
   go_wp2_with fail
   refine (HWK.out _ M3.out.bel).mono ?_
   rintro e Wz ⟨rfl, hb⟩
   have HB := hid (Below.trans M3.out.bel (hb.mono M3.out.bel.size))
   clear hb
   go_wp2
   go_ret
   exact ⟨rfl, HB.out⟩
  | true =>
   obtain ⟨q2, hq2⟩ : ∃ q, decide ((60 : Int) < (L.length : Int)) = q := ⟨_, rfl⟩
   have HQ2 := hid hq2
   clear hq2
   obtain ⟨s0, s1, s2, s3, sl⟩ := M3.out.cells
   go_wp2_with fail
   refine (great21_any on frm beh _ L W3 M3.out.rs q2 HQ2.out).mono ?_
   rintro e W4 ⟨rfl, hb⟩
   have M4 := hid (M3.out.below hb)
   clear hb s0 s1 s2 s3 sl M3
   cases q2 with
   | true =>
    go_wp2_with fail
    refine (HWK.out _ M4.out.bel).mono ?_
    rintro e Wz ⟨rfl, hb⟩
    have HB := hid (Below.trans M4.out.bel (hb.mono M4.out.bel.size))
    clear hb
    go_wp2
    go_ret
    exact ⟨rfl, HB.out⟩
   | false =>
    by_cases h0 : now < 0
    ·have d0 : decide (now < 0) = true := decide_eq_true h0
     go_wp2_with fail
     refine (HWK.out _ M4.out.bel).mono ?_
     rintro e Wz ⟨rfl, hb⟩
     have HB := hid (Below.trans M4.out.bel (hb.mono M4.out.bel.size))
     clear hb
     go_wp2
     go_ret
     exact ⟨rfl, HB.out⟩
    ·by_cases h30 : 1073741824 < now
     ·have d0 : decide (now < 0) = false := decide_eq_false h0
      have d1 : decide ((1073741824 : Int) < now) = true := decide_eq_true h30
      go_wp2_with fail
      refine (HWK.out _ M4.out.bel).mono ?_
      rintro e Wz ⟨rfl, hb⟩
      have HB := hid (Below.trans M4.out.bel (hb.mono M4.out.bel.size))
      clear hb
      go_wp2
      go_ret
      exact ⟨rfl, HB.out⟩
     ·have d0 : decide (now < 0) = false := decide_eq_false h0
      have d1 : decide ((1073741824 : Int) < now) = false := decide_eq_false h30
      have HGN := hid (show goodN now from ⟨by omega, by omega⟩)
      have HR := hid (rightP_iff.1 HRB.out)
      have HG := hid (great_small HQ.out)
      have HL60 := hid (show L.length ≤ 60 by have := HQ2.out; simp at this; omega)
      have HF := hid (show Fine B 40 from ⟨HG.out.1, HG.out.2.1, HWF.out⟩)
      clear h0 h30 HQ HRB HQ2
      obtain ⟨i0, hi, hz0, hz1, hz2⟩ := info_parts infoSn
      have HI := hid (And.intro hi (And.intro hz0 (And.intro hz1 hz2)))
      clear hi hz0 hz1 hz2
      go_wp2_with fail
      clear d0 d1
      go_loopw [8, 7] (fun i v wr => ∃ (n : Nat) (A : List SeenV), n ≤ L.length ∧ i = .int .i64 n ∧ OwnS wr W4.heap.size v A ∧ (∀ x ∈ A, AloneP B L x) ∧ A.length ≤ n ∧ Below W4.heap.size W4 wr) (fun i _ _ => L.length - (intOf i).toNat)
      case atStart => exact ⟨0, [], Nat.zero_le _, rfl, Owns.nil _ _, (fun x hx => by cases hx), Nat.le_refl _, Below.refl _ _⟩
      case round =>
       obtain ⟨n, A, hn, rfl, hown, hAP, hAL, hB⟩ := hrel
       obtain ⟨va, vn, vc, rfl⟩ := Owns.shape hown
       have HBr := hid hB
       have MR := hid (M4.out.below hB)
       have HOW := hid hown
       have HAP := hid hAP
       have HAL := hid hAL
       obtain ⟨s0, s1, s2, s3, sl⟩ := MR.out.cells
       clear hB hown hAP hAL
       by_cases hlt : n < L.length
       ·obtain ⟨_, _, he, _, _, _, hop⟩ := MR.out.rs.open
        cases he
        obtain ⟨b1, o1, hsa, hb1, hr1⟩ := hop (by omega)
        obtain ⟨x, hx⟩ := get_lt hlt
        obtain ⟨g0, g1, g2, g3, g4, g5, g6⟩ := rowS hr1 hx
        have hnL : (n : Int) < (L.length : Int) := by omega
        have HXN := hid hx
        rw [hsa] at s3
        have hal : Below wr.heap.size wr (wr.alloc (.cells #[.int .i64 x.id, .int .i64 x.token, .int .i64 x.version, .int .i64 x.zone, .bool x.on, .bool x.well, .bool x.inn] 44)) := (Below.refl _ _).alloc (Nat.le_refl _) _
        obtain ⟨Y, hY⟩ : ∃ Y, Y = wr.alloc (.cells #[.int .i64 x.id, .int .i64 x.token, .int .i64 x.version, .int .i64 x.zone, .bool x.on, .bool x.well, .bool x.inn] 44) := ⟨_, rfl⟩
        rw [← hY] at hal
        have MY := hid (MR.out.below hal)
        have HXY0 := (show Y.heap[wr.heap.size]? = some (.cells #[.int .i64 x.id, .int .i64 x.token, .int .i64 x.version, .int .i64 x.zone, .bool x.on, .bool x.well, .bool x.inn] 44) by rw [hY]; exact heap_new _ _)
        have HBY := hid (HBr.out.trans (hal.mono HBr.out.size))
        have HOWY := hid (Owns.below HOW.out hal)
        have HY := hid hY
        have HSA := hid hsa
        clear hr1 hx hop hal hY hsa
        go_wp2_with fail
        rw [← HY.out]
        obtain ⟨T9, hT9⟩ : ∃ T, wr.heap.size = T := ⟨_, rfl⟩
        rw [hT9] at HXY0 ⊢
        have HXY := hid HXY0
        clear hT9 HXY0 HY g0 g1 g2 g3 g4 g5 g6 s0 s1 s2 s3 sl
        go_loopw [11, 10] (fun i t wq => ∃ q : Nat, q ≤ L.length ∧ i = .int .i64 q ∧ t = .bool (twB L n x q) ∧ Below Y.heap.size Y wq) (fun i _ _ => L.length - (intOf i).toNat)
        case atStart => exact ⟨0, Nat.zero_le _, rfl, rfl, Below.refl _ _⟩
        case round =>
         obtain ⟨q, hq, rfl, rfl, hB⟩ := hrel
         obtain ⟨wq, hwq⟩ : ∃ W : World, W = wr := ⟨_, rfl⟩
         rw [← hwq] at hB ⊢
         clear hwq
         have HBQ := hid hB
         have MQ := hid (MY.out.below hB)
         have HXQ := hid (blk_below HXY.out hB (blk_lt HXY.out))
         obtain ⟨s0, s1, s2, s3, sl⟩ := MQ.out.cells
         obtain ⟨x0, x1, x2, x3, x4, x5, x6, xl⟩ := seen_cells HXQ.out
         clear hB
         by_cases hqL : q < L.length
         ·obtain ⟨_, _, he, _, _, _, hop⟩ := MQ.out.rs.open
          cases he
          obtain ⟨b2, o2, hsa, hb2, hr2⟩ := hop (by omega)
          obtain ⟨z, hz⟩ := get_lt hqL
          obtain ⟨z0, z1, z2, z3, z4, z5, z6⟩ := rowS hr2 hz
          have hqI : (q : Int) < (L.length : Int) := by omega
          have HZ := hid hz
          rw [hsa] at s3
          clear hr2 hz hop hsa
          cases htw : twB L n x q with
          | true =>
           have HTW := hid htw
           clear htw
           go_wp2_with fail
           go_quiet (fail)
           go_wp2
           go_roundw
           case rel => exact ⟨q + 1, by omega, by go_num, by rw [twB_some HZ.out]; rw [HTW.out]; rfl, below_drewN HBQ.out _⟩
           case measure => simp [intOf]; omega
          | false =>
           have HTW := hid htw
           clear htw
           by_cases hqn : q = n
           ·have dq : ((q : Int) != (n : Int)) = false := by rw [hqn]; simp
            have dq' : (q != n) = false := by rw [hqn]; simp
            have DQ := hid dq'
            clear hqn dq'
            go_wp2_with fail
            go_quiet (fail)
            go_wp2
            go_roundw
            case rel => exact ⟨q + 1, by omega, by go_num, by rw [twB_some HZ.out]; rw [HTW.out, DQ.out]; rfl, below_drewN HBQ.out _⟩
            case measure => simp [intOf]; omega
           ·have dq : ((q : Int) != (n : Int)) = true := by simp; omega
            have dq' : (q != n) = true := by simpa using hqn
            have DQ := hid dq'
            clear hqn dq'
            by_cases h1 : z.id = x.id
            ·have d1 : (z.id == x.id) = true := by simpa using h1
             have D1 := hid d1
             clear h1
             go_wp2_with fail
             go_quiet (fail)
             go_wp2
             go_roundw
             case rel => exact ⟨q + 1, by omega, by go_num, by rw [twB_some HZ.out]; rw [HTW.out, DQ.out, D1.out]; rfl, below_drewN HBQ.out _⟩
             case measure => simp [intOf]; omega
            ·have d1 : (z.id == x.id) = false := by simpa using h1
             have D1 := hid d1
             clear h1
             by_cases h2 : z.token = x.token
             ·have d2 : (z.token == x.token) = true := by simpa using h2
              have D2 := hid d2
              clear h2
              by_cases h3 : 0 < x.token
              ·have d3 : decide ((0 : Int) < x.token) = true := decide_eq_true h3
               have D3 := hid d3
               clear h3
               go_wp2_with fail
               go_quiet (fail)
               go_wp2
               go_roundw
               case rel => exact ⟨q + 1, by omega, by go_num, by rw [twB_some HZ.out]; rw [HTW.out, DQ.out, D1.out, D2.out, D3.out]; rfl, below_drewN HBQ.out _⟩
               case measure => simp [intOf]; omega
              ·have d3 : decide ((0 : Int) < x.token) = false := decide_eq_false h3
               have D3 := hid d3
               clear h3
               go_wp2_with fail
               go_quiet (fail)
               go_wp2
               go_roundw
               case rel => exact ⟨q + 1, by omega, by go_num, by rw [twB_some HZ.out]; rw [HTW.out, DQ.out, D1.out, D2.out, D3.out]; rfl, below_drewN HBQ.out _⟩
               case measure => simp [intOf]; omega
             ·have d2 : (z.token == x.token) = false := by simpa using h2
              have D2 := hid d2
              clear h2
              go_wp2_with fail
              go_quiet (fail)
              go_wp2
              go_roundw
              case rel => exact ⟨q + 1, by omega, by go_num, by rw [twB_some HZ.out]; rw [HTW.out, DQ.out, D1.out, D2.out]; rfl, below_drewN HBQ.out _⟩
              case measure => simp [intOf]; omega
         ·obtain rfl : q = L.length := by omega
          have HXZ := hid (blk_below HXY.out HBQ.out (blk_lt HXY.out))
          have HBYQ := hid (HBY.out.trans (HBQ.out.mono HBY.out.size))
          have HOWQ := hid (Owns.below HOWY.out HBQ.out)
          clear hq
          obtain ⟨tw, htw⟩ : ∃ t, twB L n x L.length = t := ⟨_, rfl⟩
          have HTWF := hid htw
          rw [htw]
          clear htw
          obtain ⟨w9, hw9⟩ : ∃ q : Nat, q = 0 := ⟨_, rfl⟩
          clear hw9 w9
          cases tw with
          | true =>
           by_cases fid : 1 ≤ x.id
           ·have eid : decide ((1 : Int) ≤ x.id) = true := decide_eq_true fid
            by_cases fidm : x.id ≤ 1099511627776
            ·have eidm : decide (x.id ≤ (1099511627776 : Int)) = true := decide_eq_true fidm
             by_cases ft : 0 ≤ x.token
             ·have et : decide ((0 : Int) ≤ x.token) = true := decide_eq_true ft
              by_cases ftm : x.token ≤ 1099511627776
              ·have etm : decide (x.token ≤ (1099511627776 : Int)) = true := decide_eq_true ftm
               by_cases fv : 0 ≤ x.version
               ·have ev : decide ((0 : Int) ≤ x.version) = true := decide_eq_true fv
                by_cases fvm : x.version ≤ 1099511627776
                ·have evm : decide (x.version ≤ (1099511627776 : Int)) = true := decide_eq_true fvm
                 by_cases fz : 0 ≤ x.zone
                 ·have ez : decide ((0 : Int) ≤ x.zone) = true := decide_eq_true fz
                  by_cases fzm : x.zone ≤ 1099511627776
                  ·have ezm : decide (x.zone ≤ (1099511627776 : Int)) = true := decide_eq_true fzm
                   go_wp2
                   go_roundw
                   case rel => exact ⟨n + 1, A, by omega, by go_num, HOWQ.out, HAP.out, by have := HAL.out; omega, HBYQ.out⟩
                   case measure => simp [intOf]; omega
                  ·have ezm : decide (x.zone ≤ (1099511627776 : Int)) = false := decide_eq_false fzm
                   clear fzm
                   go_wp2
                   go_roundw
                   case rel => exact ⟨n + 1, A, by omega, by go_num, HOWQ.out, HAP.out, by have := HAL.out; omega, HBYQ.out⟩
                   case measure => simp [intOf]; omega
                 ·have ez : decide ((0 : Int) ≤ x.zone) = false := decide_eq_false fz
                  clear fz
                  go_wp2
                  go_roundw
                  case rel => exact ⟨n + 1, A, by omega, by go_num, HOWQ.out, HAP.out, by have := HAL.out; omega, HBYQ.out⟩
                  case measure => simp [intOf]; omega
                ·have evm : decide (x.version ≤ (1099511627776 : Int)) = false := decide_eq_false fvm
                 clear fvm
                 go_wp2
                 go_roundw
                 case rel => exact ⟨n + 1, A, by omega, by go_num, HOWQ.out, HAP.out, by have := HAL.out; omega, HBYQ.out⟩
                 case measure => simp [intOf]; omega
               ·have ev : decide ((0 : Int) ≤ x.version) = false := decide_eq_false fv
                clear fv
                go_wp2
                go_roundw
                case rel => exact ⟨n + 1, A, by omega, by go_num, HOWQ.out, HAP.out, by have := HAL.out; omega, HBYQ.out⟩
                case measure => simp [intOf]; omega
              ·have etm : decide (x.token ≤ (1099511627776 : Int)) = false := decide_eq_false ftm
               clear ftm
               go_wp2
               go_roundw
               case rel => exact ⟨n + 1, A, by omega, by go_num, HOWQ.out, HAP.out, by have := HAL.out; omega, HBYQ.out⟩
               case measure => simp [intOf]; omega
             ·have et : decide ((0 : Int) ≤ x.token) = false := decide_eq_false ft
              clear ft
              go_wp2
              go_roundw
              case rel => exact ⟨n + 1, A, by omega, by go_num, HOWQ.out, HAP.out, by have := HAL.out; omega, HBYQ.out⟩
              case measure => simp [intOf]; omega
            ·have eidm : decide (x.id ≤ (1099511627776 : Int)) = false := decide_eq_false fidm
             clear fidm
             go_wp2
             go_roundw
             case rel => exact ⟨n + 1, A, by omega, by go_num, HOWQ.out, HAP.out, by have := HAL.out; omega, HBYQ.out⟩
             case measure => simp [intOf]; omega
           ·have eid : decide ((1 : Int) ≤ x.id) = false := decide_eq_false fid
            clear fid
            go_wp2
            go_roundw
            case rel => exact ⟨n + 1, A, by omega, by go_num, HOWQ.out, HAP.out, by have := HAL.out; omega, HBYQ.out⟩
            case measure => simp [intOf]; omega
          | false =>
           by_cases fid : 1 ≤ x.id
           ·have eid : decide ((1 : Int) ≤ x.id) = true := decide_eq_true fid
            by_cases fidm : x.id ≤ 1099511627776
            ·have eidm : decide (x.id ≤ (1099511627776 : Int)) = true := decide_eq_true fidm
             by_cases ft : 0 ≤ x.token
             ·have et : decide ((0 : Int) ≤ x.token) = true := decide_eq_true ft
              by_cases ftm : x.token ≤ 1099511627776
              ·have etm : decide (x.token ≤ (1099511627776 : Int)) = true := decide_eq_true ftm
               by_cases fv : 0 ≤ x.version
               ·have ev : decide ((0 : Int) ≤ x.version) = true := decide_eq_true fv
                by_cases fvm : x.version ≤ 1099511627776
                ·have evm : decide (x.version ≤ (1099511627776 : Int)) = true := decide_eq_true fvm
                 by_cases fz : 0 ≤ x.zone
                 ·have ez : decide ((0 : Int) ≤ x.zone) = true := decide_eq_true fz
                  by_cases fzm : x.zone ≤ 1099511627776
                  ·have ezm : decide (x.zone ≤ (1099511627776 : Int)) = true := decide_eq_true fzm
                   have HFS := hid (show FineS x from ⟨⟨fid, fidm⟩, ⟨ft, ftm⟩, ⟨fv, fvm⟩, ⟨fz, fzm⟩⟩)
                   clear fid fidm ft ftm fv fvm fz fzm
                   obtain ⟨r, hr⟩ : ∃ r, idxL B.K (fun y => y.id == x.id) = r := ⟨_, rfl⟩
                   have HRR := hid hr
                   have hldb := MQ.out.br.load
                   have HFD := hid (rfind13_at B (.agg bv) x.id r hr wq MQ.out.br.is)
                   have bl3 := MQ.out.br.lt
                   clear hr
                   go_wp2_with fail
                   refine HFD.out.mono ?_
                   rintro e Z ⟨rfl, hb⟩
                   have HXZ2 := hid (blk_below HXZ.out hb (blk_lt HXZ.out))
                   have HBZ := hid (HBYQ.out.trans (hb.mono HBYQ.out.size))
                   have HOWZ := hid (Owns.below HOWQ.out hb)
                   clear hb hldb x0 x1 x2 x3 x4 x5 x6 xl bl3
                   obtain ⟨x0, x1, x2, x3, x4, x5, x6, xl⟩ := seen_cells HXZ2.out
                   by_cases hr0 : r < 0
                   ·have dr : decide (r < 0) = true := decide_eq_true hr0
                    have HNB := hid (show ∀ y ∈ B.K, y.id ≠ x.id from fun y hy => by have := idx_none (L := B.K) (p := fun y => y.id == x.id) (by rw [HRR.out]; exact hr0) y hy; simpa using this)
                    have hbs := bs_seen1 x
                    have hAl : A.length ≤ 60 := by have := HAL.out; have := HL60.out; omega
                    clear hr0
                    go_wp2_with (at_builtin; go_loud (refine append_one rfl _ _ 31 rfl W4.heap.size 44 i0 _ 40 Tryd.underlying31 HI.out.1 HI.out.2.1 HI.out.2.2.1 HI.out.2.2.2 rfl (by decide) encSn_len encSn_one _ A rfl (Owns.below HOWZ.out ((Below.refl _ _).alloc (Nat.le_refl _) _)) ⟨Z.heap.size, 0, none⟩ x rfl (new_cellsS Z x) (by unfold maxLen; omega) (by omega) (by have := HBZ.out.size; simp; omega) ?_); intro v' w1 hown hbel hgrow; have HOWN := hid hown; have HB1 := hid ((HBZ.out.alloc HBZ.out.size _).trans hbel); clear hown hbel hgrow)
                    go_roundw
                    case rel =>
                     refine ⟨n + 1, A ++ [x], by omega, by go_num, HOWN.out, fun y hy => ?_, by have := HAL.out; simp; omega, HB1.out⟩
                     rcases List.mem_append.1 hy with hy | hy
                     ·exact HAP.out y hy
                     ·simp only [List.mem_singleton] at hy
                      subst hy
                      exact ⟨n, HXN.out, HFS.out, HNB.out, fun j z hj hz => twB_not HTWF.out j z (lt_get hz) hj hz⟩
                    case measure => simp [intOf]; omega
                   ·have dr : decide (r < 0) = false := decide_eq_false hr0
                    clear hr0
                    go_wp2
                    go_roundw
                    case rel => exact ⟨n + 1, A, by omega, by go_num, HOWZ.out, HAP.out, by have := HAL.out; omega, HBZ.out⟩
                    case measure => simp [intOf]; omega
                  ·have ezm : decide (x.zone ≤ (1099511627776 : Int)) = false := decide_eq_false fzm
                   clear fzm
                   go_wp2
                   go_roundw
                   case rel => exact ⟨n + 1, A, by omega, by go_num, HOWQ.out, HAP.out, by have := HAL.out; omega, HBYQ.out⟩
                   case measure => simp [intOf]; omega
                 ·have ez : decide ((0 : Int) ≤ x.zone) = false := decide_eq_false fz
                  clear fz
                  go_wp2
                  go_roundw
                  case rel => exact ⟨n + 1, A, by omega, by go_num, HOWQ.out, HAP.out, by have := HAL.out; omega, HBYQ.out⟩
                  case measure => simp [intOf]; omega
                ·have evm : decide (x.version ≤ (1099511627776 : Int)) = false := decide_eq_false fvm
                 clear fvm
                 go_wp2
                 go_roundw
                 case rel => exact ⟨n + 1, A, by omega, by go_num, HOWQ.out, HAP.out, by have := HAL.out; omega, HBYQ.out⟩
                 case measure => simp [intOf]; omega
               ·have ev : decide ((0 : Int) ≤ x.version) = false := decide_eq_false fv
                clear fv
                go_wp2
                go_roundw
                case rel => exact ⟨n + 1, A, by omega, by go_num, HOWQ.out, HAP.out, by have := HAL.out; omega, HBYQ.out⟩
                case measure => simp [intOf]; omega
              ·have etm : decide (x.token ≤ (1099511627776 : Int)) = false := decide_eq_false ftm
               clear ftm
               go_wp2
               go_roundw
               case rel => exact ⟨n + 1, A, by omega, by go_num, HOWQ.out, HAP.out, by have := HAL.out; omega, HBYQ.out⟩
               case measure => simp [intOf]; omega
             ·have et : decide ((0 : Int) ≤ x.token) = false := decide_eq_false ft
              clear ft
              go_wp2
              go_roundw
              case rel => exact ⟨n + 1, A, by omega, by go_num, HOWQ.out, HAP.out, by have := HAL.out; omega, HBYQ.out⟩
              case measure => simp [intOf]; omega
            ·have eidm : decide (x.id ≤ (1099511627776 : Int)) = false := decide_eq_false fidm
             clear fidm
             go_wp2
             go_roundw
             case rel => exact ⟨n + 1, A, by omega, by go_num, HOWQ.out, HAP.out, by have := HAL.out; omega, HBYQ.out⟩
             case measure => simp [intOf]; omega
           ·have eid : decide ((1 : Int) ≤ x.id) = false := decide_eq_false fid
            clear fid
            go_wp2
            go_roundw
            case rel => exact ⟨n + 1, A, by omega, by go_num, HOWQ.out, HAP.out, by have := HAL.out; omega, HBYQ.out⟩
            case measure => simp [intOf]; omega
       ·obtain rfl : n = L.length := by omega
        have HRB4 := HBr
        obtain ⟨W5, hW5⟩ : ∃ W : World, W = wr := ⟨_, rfl⟩
        rw [← hW5] at MR HOW HBr s0 s1 s2 s3 sl ⊢
        clear hW5 HRB4
        have HV5 := hid MR.out.br
        go_upto_region 16 with (fail)
        clear s0 s1 s2 s3 sl
        refine wp_region_cut 7 1 (fun _ => True) (by kernel_rfl) (by kernel_rfl) (by kernel_rfl) ?_
        simp only [List.take_succ_cons, List.take_zero]
        refine wpAnyH_grownD (w0 := W5.drew) (spL _) (relD [] (KeptT 30) [] KeptE) (aliveD []) (ancD []) (spD (n := 7) (m := 7) (l := [fun z _ => z = (.agg bv), fun z _ => z = (.agg bv), fun z _ => z = .agg #[.bool on, .int .i64 frm, .int .i64 beh, .slice sa L.length sc], fun z _ => z = .int .i64 now, fun z w => RecsL w (recordsL B L frm now) z, fun z w => BrEnd W5 (outB B L frm now) z w, fun z w => NewBr W5 z w]) (apps := []) (stab := []) (appsE := []) (stabE := []) ⟨stays_eq _, stays_eq _, stays_eq _, stays_eq _, stays_recsL _, stays_brEnd _ _, stays_new _, trivial⟩ trivial trivial rfl (by decide) (by decide)) (by kernel_rfl) (by kernel_rfl) (by kernel_rfl) (by kernel_rfl) ?steps3 ?fin3 rfl
        case steps3 =>
         refine ⟨?_, ?_, ?_, ?_, ?_, ?_, ?_, trivial⟩
         ·intro a' w' hB hdep hoth K hK
          have hK := growB hB hK
          rw [if_pos (guard_none rfl)]
          have hbw : Below W5.heap.size W5 w' := (below_drewN (Below.refl _ _) 1).trans hB
          have t3 := hoth 3 (notDst_at (by kernel_rfl))
          simp only [List.getElem?_toArray, List.getElem?_cons_succ, List.getElem?_cons_zero] at t3
          have hld := (HV5.out.below hbw).load
          clear hdep hoth
          go_simp
          exact hK _ _ (Below.refl _ _) rfl
         ·intro a' w' hB hdep hoth K hK
          have hK := growB hB hK
          rw [if_pos (guard_none rfl)]
          have hbw : Below W5.heap.size W5 w' := (below_drewN (Below.refl _ _) 1).trans hB
          have t3 := hoth 3 (notDst_at (by kernel_rfl))
          simp only [List.getElem?_toArray, List.getElem?_cons_succ, List.getElem?_cons_zero] at t3
          have hld := (HV5.out.below hbw).load
          clear hdep hoth
          go_simp
          exact hK _ _ (Below.refl _ _) rfl
         ·intro a' w' hB hdep hoth K hK
          have hK := growB hB hK
          rw [if_pos (guard_none rfl)]
          have hbw : Below W5.heap.size W5 w' := (below_drewN (Below.refl _ _) 1).trans hB
          have t4 := hoth 4 (notDst_at (by kernel_rfl))
          simp only [List.getElem?_toArray, List.getElem?_cons_succ, List.getElem?_cons_zero] at t4
          obtain ⟨s0, s1, s2, s3, sl⟩ := (MR.out.below hbw).cells
          clear hdep hoth
          go_simp
          exact hK _ _ (Below.refl _ _) rfl
         ·intro a' w' hB hdep hoth K hK
          have hK := growB hB hK
          rw [if_pos (guard_none rfl)]
          have hbw : Below W5.heap.size W5 w' := (below_drewN (Below.refl _ _) 1).trans hB
          have t2 := hoth 2 (notDst_at (by kernel_rfl))
          simp only [List.getElem?_toArray, List.getElem?_cons_succ, List.getElem?_cons_zero] at t2
          clear hdep hoth
          go_simp
          exact hK _ _ (Below.refl _ _) rfl
         ·intro a' w' hB hdep hoth K hK
          have hK := growB hB hK
          rw [if_pos (guard_none rfl)]
          have hbw : Below W5.heap.size W5 w' := (below_drewN (Below.refl _ _) 1).trans hB
          obtain ⟨v0, g0, e0⟩ := hdep ⟨1, .data⟩ (by simp) rfl
          have g0 := g0 145 rfl (by simp)
          obtain rfl : v0 = .agg bv := e0
          obtain ⟨v1, g1, e1⟩ := hdep ⟨2, .data⟩ (by simp) rfl
          have g1 := g1 146 rfl (by simp)
          obtain rfl : v1 = .agg #[.bool on, .int .i64 frm, .int .i64 beh, .slice sa L.length sc] := e1
          obtain ⟨v2, g2, e2⟩ := hdep ⟨3, .data⟩ (by simp) rfl
          have g2 := g2 147 rfl (by simp)
          obtain rfl : v2 = .int .i64 now := e2
          have hbq := MR.out.bel.trans (hbw.mono MR.out.bel.size)
          have HA := hid (reap_any B bv on frm beh now (.slice sa L.length sc) L w' (HV5.out.below hbw).is (MR.out.rs.below hbw) (HF.out.up (by omega)) HL60.out (by have := HG.out.2.2; omega) (HC.out.below hbq) (HL.out.below hbq))
          clear hdep hoth hbq
          go_simp
          refine HA.out.mono ?_
          rintro e w'' ⟨v, rfl, he, hb⟩
          exact hK v _ hb he
         ·intro a' w' hB hdep hoth K hK
          have hK := growB hB hK
          rw [if_pos (guard_none rfl)]
          have hbw : Below W5.heap.size W5 w' := (below_drewN (Below.refl _ _) 1).trans hB
          obtain ⟨v0, g0, e0⟩ := hdep ⟨0, .data⟩ (by simp) rfl
          have g0 := g0 144 rfl (by simp)
          obtain rfl : v0 = .agg bv := e0
          obtain ⟨v1, g1, e1⟩ := hdep ⟨4, .data⟩ (by simp) rfl
          have g1 := g1 148 rfl (by simp)
          have e1 : RecsL w' (recordsL B L frm now) v1 := e1
          have HA := hid (rall_told (HV5.out.below hbw).is e1 HF.out (by have := HG.out.2.2; omega) HGN.out HL60.out)
          clear hdep hoth e1
          go_simp
          refine HA.out.mono ?_
          rintro e w'' ⟨v, rfl, he, hb⟩
          exact hK v _ hb (he.base hbw.size)
         ·intro a' w' hB hdep hoth K hK
          have hK := growB hB hK
          rw [if_pos (guard_none rfl)]
          have hbw : Below W5.heap.size W5 w' := (below_drewN (Below.refl _ _) 1).trans hB
          clear hdep hoth
          go_simp
          exact hK _ _ ((Below.refl _ _).alloc (Nat.le_refl _) _) ⟨w'.heap.size, rfl, hbw.size, heap_new w' _⟩
        case fin3 =>
         intro vs w' hB hs
         have hbw : Below W5.heap.size W5 w' := (below_drewN (Below.refl _ _) 1).trans hB
         have e5 := hs 5 (by decide) (by decide)
         have e5 : BrEnd W5 _ (vs 5) w' := e5
         obtain ⟨T3, e6, hT, hz⟩ := hs 6 (by decide) (by decide)
         clear hs
         refine cutQ_held (fun _ => True) (fun f => ?_)
         simp only [actOf, dstAt, if_true, List.getElem?_toArray, List.getElem?_cons_succ, List.getElem?_cons_zero, Option.bind_some, Act.put, List.setIfInBounds_toArray, List.set_cons_zero, List.set_cons_succ, List.length_cons, List.length_nil, Nat.reduceAdd]
         rw [e6]
         obtain ⟨u3, hu⟩ : ∃ u, vs 5 = u := ⟨_, rfl⟩
         rw [hu] at e5 ⊢
         obtain ⟨X3, hst, hvar, hbv, hbx, hXo, hXs⟩ := brEnd_store e5 hz rfl hbw hT
         refine wpAnyH_ready (rs := [7]) (by kernel_rfl) (by simp) ?_
         refine AllReadyH.cons rfl (fun K hK => ?_) AllReadyH.nil
         go_simp
         refine hK.out _ _ trivial (fun _ => ?_)
         clear hK K
         refine wpAnyH_done (by kernel_rfl) ?_ _
         obtain ⟨O, hO⟩ : ∃ O, outB B L frm now = O := ⟨_, rfl⟩
         rw [hO] at hvar
         have HOR := hid (show RightP O by rw [← hO]; exact out_right HR.out L frm now)
         have HOF := hid (show O.f 0 = B.f 0 ∧ O.f 1 = B.f 1 ∧ O.f 20 = B.f 20 by rw [← hO]; exact ⟨out_f B L frm now (by omega), out_f B L frm now (by omega), out_f B L frm now (by omega)⟩)
         have HOV := hid hvar
         have M5 := hid (MR.out.below hbx)
         have HST := hid (show ∀ x, AloneP B L x → ∃ y ∈ O.K, y.id = x.id ∧ y.since = now ∧ y.token = x.token ∧ ((0 < x.token ∧ 0 ≤ idxL B.I (fun y => y.token == x.token)) → y.phase ≠ 8 ∧ ∀ z ∈ O.I, z.token ≠ x.token) ∧ (¬ (0 < x.token ∧ 0 ≤ idxL B.I (fun y => y.token == x.token)) → y.phase = 8) from fun x ⟨i, h1, h2, h3, h4⟩ => by rw [← hO]; exact strays_plain HR.out HGN.out h1 h2 h3 h4)
         have HOW3 := hid (Owns.below HOW.out hbx)
         clear hvar hbv hbx hXo hXs hO hz hT hbw hB e5 hu M4 HV5 HF HG HR e6 MR HOW
         go_wp2
         clear hst
         go_loopw [14] (fun i wr => ∃ n : Nat, n ≤ A.length ∧ i = .int .i64 n ∧ Below X3.heap.size X3 wr) (fun i _ => A.length - (intOf i).toNat)
         case atStart => exact ⟨0, Nat.zero_le _, rfl, Below.refl _ _⟩
         case round =>
          obtain ⟨n, hn, rfl, hB⟩ := hrel
          have HBr := hid hB
          have MR := hid (M5.out.below hB)
          have OR := hid (HOV.out.below hB)
          obtain ⟨_, _, he, _, _, _, hop⟩ := (Owns.row (Owns.below HOW3.out hB) encSn_len (by decide)).open
          cases he
          clear hB
          by_cases hlt : n < A.length
          ·obtain ⟨b1, o1, hva, hb1, hr1⟩ := hop (by omega)
           obtain ⟨x, hx⟩ := get_lt hlt
           obtain ⟨g0, g1, g2, g3, g4, g5, g6⟩ := rowS hr1 hx
           have hnL : (n : Int) < (A.length : Int) := by omega
           have HXA := hid (HAP.out x (mem_get hx))
           obtain ⟨y, hym, hyid, hys, hyt, hy1, hy2⟩ := HST.out x HXA.out
           obtain ⟨j, hjr, hj⟩ := find_mem HOR.out.ids hym
           rw [hyid] at hjr
           have HJ := hid hj
           have HYS := hid hys
           have HYT := hid hyt
           have HY1 := hid hy1
           have HY2 := hid hy2
           obtain ⟨Y, hY⟩ : ∃ Y, Y = wr.alloc (.cells #[.int .i64 x.id, .int .i64 x.token, .int .i64 x.version, .int .i64 x.zone, .bool x.on, .bool x.well, .bool x.inn] 44) := ⟨_, rfl⟩
           have hal : Below wr.heap.size wr Y := by rw [hY]; exact (Below.refl _ _).alloc (Nat.le_refl _) _
           have HXY := hid (show Y.heap[wr.heap.size]? = some (.cells #[.int .i64 x.id, .int .i64 x.token, .int .i64 x.version, .int .i64 x.zone, .bool x.on, .bool x.well, .bool x.inn] 44) by rw [hY]; exact heap_new _ _)
           have HFD := hid (rfind13_at O u3 x.id j hjr Y (OR.out.below hal).is)
           have hld7 := (OR.out.below hal).load
           rw [hY] at hld7
           have HAL2 := hid hal
           have HY := hid hY
           have ol := OR.out.lt
           subst hva
           clear hr1 hx hop hal hY hym hyid hys hyt hy1 hy2 hjr hj
           go_wp2_with fail
           rw [← HY.out]
           refine HFD.out.mono ?_
           rintro e Z ⟨rfl, hb⟩
           have hbZ := HAL2.out.trans (hb.mono HAL2.out.size)
           have MZ := hid (MR.out.below hbZ)
           have OZ := hid (OR.out.below hbZ)
           have HBZ := hid (HBr.out.trans (hbZ.mono HBr.out.size))
           have HXZ0 := blk_below HXY.out hb (blk_lt HXY.out)
           obtain ⟨T15, hT15⟩ : ∃ T, wr.heap.size = T := ⟨_, rfl⟩
           rw [hT15] at HXZ0 ⊢
           have HXZ := hid HXZ0
           clear hb hbZ hT15 HXZ0 HXY HAL2 HY HFD hld7 g0 g1 g2 g3 g4 g5 g6 ol
           obtain ⟨x0, x1, x2, x3, x4, x5, x6, xl⟩ := seen_cells HXZ.out
           obtain ⟨_, _, _, tl7, oa, oc, o19, orow⟩ := OZ.out.at
           obtain ⟨_, _, he, _, _, _, hop7⟩ := orow.open
           cases he
           obtain ⟨b7, o7, hoa, hb7, hr7⟩ := hop7 (by have := lt_get HJ.out; omega)
           obtain ⟨y0, y1, y2, y3, y4, y5, y6, y7⟩ := rowK hr7 HJ.out
           have hjl : (j : Int) < (O.K.length : Int) := by have := lt_get HJ.out; omega
           have hj0 : ¬ ((j : Int) < 0) := by omega
           rw [HYS.out] at y5
           rw [HYT.out] at y1
           rw [hoa] at o19
           have dn : (now != now) = false := by simp
           have dt : (x.token != x.token) = false := by simp
           clear orow hop7 hr7 hoa
           go_wp2_with fail
           go_quiet (fail)
           obtain ⟨yp, hyp⟩ : ∃ q, y.phase = q := ⟨_, rfl⟩
           rw [hyp] at y4
           have HYP := hid hyp
           clear hyp
           by_cases ht0 : 0 < x.token
           ·have dt0 : decide (0 < x.token) = true := decide_eq_true ht0
            obtain ⟨r2, hr2⟩ : ∃ r, idxL B.I (fun y => y.token == x.token) = r := ⟨_, rfl⟩
            have HTK := hid (fun k : Nat => rtoken13_at B (.agg bv) x.token r2 hr2 (Z.drewN k) (MZ.out.br.below (below_drewN (Below.refl _ _) k)).is)
            have hldb := fun k : Nat => (MZ.out.br.below (below_drewN (Below.refl _ _) k)).load
            have bl3 := MZ.out.br.lt
            have HR2 := hid hr2
            have HT0 := hid ht0
            clear hr2 ht0
            go_wp2_with fail
            refine (HTK.out _).mono ?_
            rintro e Z2 ⟨rfl, hb⟩
            have hb : Below Z.heap.size Z Z2 := (below_drewN (Below.refl _ _) _).trans hb
            have HB2 := hid (HBZ.out.trans (hb.mono HBZ.out.size))
            have OZ2 := hid (OZ.out.below hb)
            have HXZ2 := hid (blk_below HXZ.out hb (blk_lt HXZ.out))
            have o192 := cell_below o19 hb
            have y42 := cell_below y4 hb
            have hldo := OZ2.out.load
            have ol2 := OZ2.out.lt
            have b72 := Nat.lt_of_lt_of_le hb7 hb.size
            clear hb hldb bl3 x0 x1 x2 x3 x4 x5 x6 xl y0 y1 y2 y3 y4 y5 y6 y7 o19 tl7 HTK
            obtain ⟨x0, x1, x2, x3, x4, x5, x6, xl⟩ := seen_cells HXZ2.out
            by_cases hr0 : 0 ≤ r2
            ·have dr : decide (0 ≤ r2) = true := decide_eq_true hr0
             have hyes := HY1.out ⟨HT0.out, by rw [HR2.out]; exact hr0⟩
             rw [HYP.out] at hyes
             have dp : (yp == (8 : Int)) = false := by simpa using hyes.1
             have hno : idxL O.I (fun y => y.token == x.token) = -1 := idxL_no fun z hz => by simpa using hyes.2 z hz
             have HT2 := hid (rtoken13_at O u3 x.token (-1) hno Z2 OZ2.out.is)
             clear hyes hno hr0
             go_wp2_with fail
             refine HT2.out.mono ?_
             rintro e Z3 ⟨rfl, hb⟩
             have HB3 := hid (HB2.out.trans (hb.mono HB2.out.size))
             clear hb
             go_wp2
             go_roundw
             case rel => exact ⟨n + 1, by omega, by go_num, HB3.out⟩
             case measure => simp [intOf]; omega
            ·have dr : decide (0 ≤ r2) = false := decide_eq_false hr0
             have h8 := HY2.out (fun q => hr0 (by have := q.2; rw [HR2.out] at this; exact this))
             rw [HYP.out] at h8
             subst h8
             clear hr0
             go_wp2_with fail
             go_roundw
             case rel => exact ⟨n + 1, by omega, by go_num, HB2.out⟩
             case measure => simp [intOf]; omega
           ·have dt0 : decide (0 < x.token) = false := decide_eq_false ht0
            have h8 := HY2.out (fun q => ht0 q.1)
            rw [HYP.out] at h8
            subst h8
            clear ht0
            go_wp2_with fail
            go_roundw
            case rel => exact ⟨n + 1, by omega, by go_num, below_drewN HBZ.out _⟩
            case measure => simp [intOf]; omega
          ·obtain rfl : n = A.length := by omega
           clear hop
           go_wp2_with fail
           refine (HWK.out _ MR.out.bel).mono ?_
           rintro e Wz ⟨rfl, hb⟩
           have HBz := hid (Below.trans MR.out.bel (hb.mono MR.out.bel.size))
           clear hb
           go_wp2
           go_ret
           exact ⟨rfl, HBz.out⟩
end Go.Proofs.YtgcajfglidflnaaDoor
