/- herdref13.Right: exact. Printed by gn_rr.py. -/
import Derived.Test.YtgcajfglidflnaaGreatDoorRt
import Derived.Test.YtgcajfglidflnaaGreatDoorEqm
import Derived.BigQuiet
namespace Go.Proofs.YtgcajfglidflnaaGreatDoor
open Go.RowKit Go.Shelf
attribute [-go_sem] loadVar
attribute [local go_sem] load_other2

theorem right_fine {B : BrainV} (h : rightB B = true) : 0 ≤ B.f 0 ∧ B.f 0 ≤ 1099511627776 ∧ 0 ≤ B.f 1 ∧ B.f 1 ≤ 1099511627776 ∧ phasesB B.K = true ∧ riseB (B.f 1) (B.I.map IntentV.token) = true ∧ riseB 1099511627776 (B.K.map KeptV.id) = true := by
 have hf : fineB B = true := by
  unfold rightB at h
  have hr : refB B = true := by
   split at h
   ·exact (Bool.and_eq_true _ _ ▸ h).1
   ·exact (Bool.and_eq_true _ _ ▸ h).1
  unfold refB at hr
  split at hr
  ·exact (Bool.and_eq_true _ _ ▸ hr).1
  ·exact hr
 unfold fineB at hf
 simpa only [Bool.and_eq_true, decide_eq_true_eq] using hf
theorem right_iff {B : BrainV} : rightB B = true ↔ (0 ≤ B.f 0 ∧ B.f 0 ≤ 1099511627776 ∧ 0 ≤ B.f 1 ∧ B.f 1 ≤ 1099511627776 ∧ phasesB B.K = true ∧ riseB (B.f 1) (B.I.map IntentV.token) = true ∧ riseB 1099511627776 (B.K.map KeptV.id) = true) ∧
  (B.f 20 = 1 → 1 ≤ B.f 21 ∧ B.f 21 ≤ 1099511627776 ∧ 1 ≤ B.f 22 ∧ B.f 22 ≤ 1099511627776) ∧ (B.g 2 = true → checkB (fun i => B.f (i + 3)) B.M = true) ∧ (B.g 2 = false → B.I.length = 0 ∧ B.f 20 = 0) := by
 have hfi : fineB B = true ↔ (0 ≤ B.f 0 ∧ B.f 0 ≤ 1099511627776 ∧ 0 ≤ B.f 1 ∧ B.f 1 ≤ 1099511627776 ∧ phasesB B.K = true ∧ riseB (B.f 1) (B.I.map IntentV.token) = true ∧ riseB 1099511627776 (B.K.map KeptV.id) = true) := by
  unfold fineB
  simp only [Bool.and_eq_true, decide_eq_true_eq]
 rw [← hfi]
 have hrf : refB B = true ↔ fineB B = true ∧ (B.f 20 = 1 → 1 ≤ B.f 21 ∧ B.f 21 ≤ 1099511627776 ∧ 1 ≤ B.f 22 ∧ B.f 22 ≤ 1099511627776) := by
  unfold refB
  by_cases h : B.f 20 = 1
  ·simp only [h, if_true, Bool.and_eq_true, decide_eq_true_eq, true_implies]
   constructor
   ·rintro ⟨h1, h2, h3⟩; exact ⟨h1, by have := Int.min_le_left (B.f 21) (B.f 22); have := Int.min_le_right (B.f 21) (B.f 22); have := Int.le_max_left (B.f 21) (B.f 22); have := Int.le_max_right (B.f 21) (B.f 22); omega⟩
   ·rintro ⟨h1, h2⟩; exact ⟨h1, by omega⟩
  ·simp [h]
 unfold rightB
 cases hg : B.g 2
 ·simp only [Bool.false_eq_true, if_false, Bool.and_eq_true, decide_eq_true_eq, hrf, true_implies, false_imp_iff, true_and, and_assoc]
 ·simp only [if_true, Bool.and_eq_true, hrf, true_implies, and_assoc, Bool.true_eq_false, false_imp_iff, and_true]
theorem right_no {B : BrainV} {r : Bool} (hr : rightB B = r) (h : rightB B = true → False) : r = false := by
 rw [← hr, Bool.eq_false_iff]
 exact h
theorem map_at {α β : Type} {l : List α} {k : Nat} {x : α} (f : α → β) (h : l[k]? = some x) : (l.map f)[k]? = some (f x) := by simp [h]
set_option maxRecDepth 100000 in
set_option maxHeartbeats 2000000 in
theorem rright_any (B : BrainV) (mv iv kv : Value) (w : World) (hm : RowOf 1 encI w mv B.M) (hi : RowOf 4 encIn w iv B.I) (hk : RowOf 8 encKp w kv B.K) :
  Calls Tryz.prog 5 #[.agg (brT B.f B.g mv iv kv)] w fun e w' => e = .returned (.bool (rightB B)) ∧ Below w.heap.size w w' := by
 obtain ⟨ia, ic, rfl, ip1, ip2, ip3, hio⟩ := hi.open
 obtain ⟨ka, kc, rfl, kp1, kp2, kp3, hko⟩ := hk.open
 obtain ⟨W1, hW1⟩ : ∃ W1, W1 = w.alloc (.cells (brT B.f B.g mv (.slice ia B.I.length ic) (.slice ka B.K.length kc)) 33) := ⟨_, rfl⟩
 have hb1 : Below w.heap.size w W1 := by rw [hW1]; exact (Below.refl _ _).alloc (Nat.le_refl _) _
 have n1 : BB W1 w.heap.size (brT B.f B.g mv (.slice ia B.I.length ic) (.slice ka B.K.length kc)) := by rw [hW1]; exact heap_new _ _
 have hz : W1.heap.size = w.heap.size + 1 := by rw [hW1]; simp
 obtain ⟨r, hr⟩ : ∃ r, rightB B = r := ⟨_, rfl⟩
 rw [hr]
 have HR := hid hr
 obtain ⟨a0, ha0⟩ : ∃ a, B.f 0 = a := ⟨_, rfl⟩
 obtain ⟨a1, ha1⟩ : ∃ a, B.f 1 = a := ⟨_, rfl⟩
 have HW1 := hid hW1
 have N1 := hid n1
 have HB1 := hid hb1
 have HIO := hid hio
 have HKO := hid hko
 have HA0 := hid ha0
 have HA1 := hid ha1
 have HM1 := hid (hm.below hb1)
 have hl1 : w.heap.size < W1.heap.size := by omega
 have x0 : W1.cell? ⟨w.heap.size, 0, none⟩ = some (.int .i64 a0) := by rw [← ha0]; exact blk_cell n1 0
 have x1 : W1.cell? ⟨w.heap.size, 1, none⟩ = some (.int .i64 a1) := by rw [← ha1]; exact blk_cell n1 1
 have x18 : W1.cell? ⟨w.heap.size, 18, none⟩ = some (.slice ia B.I.length ic) := blk_cell n1 18
 have x19 : W1.cell? ⟨w.heap.size, 19, none⟩ = some (.slice ka B.K.length kc) := blk_cell n1 19
 have X1 := hid x1
 have X18 := hid x18
 have X19 := hid x19
 rw [hW1] at x0 x1 hl1
 clear hm hi hk hio hko n1 hb1 hr ha0 ha1 hW1 x18 x19
 by_cases h0 : a0 < 0
 ·have q0 : decide (a0 < 0) = true := decide_eq_true h0
  obtain rfl : r = false := right_no HR.out (fun e => by have := (right_fine e).1; rw [HA0.out] at this; omega)
  clear h0
  go_enter Tryz.func5, Tryz.ntmps5
  go_wp2
  go_ret
  rw [← HW1.out]
  exact ⟨rfl, HB1.out⟩
 have d1 : decide (a0 < 0) = false := decide_eq_false h0
 clear h0
 by_cases h0 : (1099511627776 : Int) < a0
 ·have q0 : decide ((1099511627776 : Int) < a0) = true := decide_eq_true h0
  obtain rfl : r = false := right_no HR.out (fun e => by have := (right_fine e).2.1; rw [HA0.out] at this; omega)
  clear h0
  go_enter Tryz.func5, Tryz.ntmps5
  go_wp2
  go_ret
  rw [← HW1.out]
  exact ⟨rfl, HB1.out⟩
 have d2 : decide ((1099511627776 : Int) < a0) = false := decide_eq_false h0
 clear h0
 by_cases h0 : a1 < 0
 ·have q0 : decide (a1 < 0) = true := decide_eq_true h0
  obtain rfl : r = false := right_no HR.out (fun e => by have := (right_fine e).2.2.1; rw [HA1.out] at this; omega)
  clear h0
  go_enter Tryz.func5, Tryz.ntmps5
  go_wp2
  go_ret
  rw [← HW1.out]
  exact ⟨rfl, HB1.out⟩
 have d3 : decide (a1 < 0) = false := decide_eq_false h0
 clear h0
 by_cases h0 : (1099511627776 : Int) < a1
 ·have q0 : decide ((1099511627776 : Int) < a1) = true := decide_eq_true h0
  obtain rfl : r = false := right_no HR.out (fun e => by have := (right_fine e).2.2.2.1; rw [HA1.out] at this; omega)
  clear h0
  go_enter Tryz.func5, Tryz.ntmps5
  go_wp2
  go_ret
  rw [← HW1.out]
  exact ⟨rfl, HB1.out⟩
 have d4 : decide ((1099511627776 : Int) < a1) = false := decide_eq_false h0
 clear h0
 go_enter Tryz.func5, Tryz.ntmps5
 go_wp2
 rw [← HW1.out]
 have HA0D := hid (show 0 ≤ B.f 0 ∧ B.f 0 ≤ 1099511627776 ∧ 0 ≤ B.f 1 ∧ B.f 1 ≤ 1099511627776 by rw [HA0.out, HA1.out]; have := of_decide_eq_false d1; have := of_decide_eq_false d2; have := of_decide_eq_false d3; have := of_decide_eq_false d4; omega)
 clear d1 d2 d3 d4 x0 x1
 replace hl1 : w.heap.size < W1.heap.size := by omega
 have hlI : (B.I.map IntentV.token).length = B.I.length := by simp
 have hlK : (B.K.map KeptV.id).length = B.K.length := by simp
 have HLI := hid hlI
 have HLK := hid hlK
 clear hlI hlK
 go_loopw [3, 4] (fun last i wr => ∃ (k : Nat) (z : Int), k ≤ B.I.length ∧ i = .int .i64 k ∧ last = .int .i64 z ∧ RiseL a1 ((B.I.map IntentV.token).take k) z ∧ Below W1.heap.size W1 wr) (fun _ i _ => B.I.length - (intOf i).toNat)
 case atStart => exact ⟨0, 0, Nat.zero_le _, rfl, rfl, RiseL.nil _, Below.refl _ _⟩
 case round =>
  obtain ⟨k, z, hk, rfl, rfl, hrl, hB⟩ := hrel
  have HRL := hid hrl
  have HB := hid hB
  have HBW := hid (HB1.out.trans (hB.mono HB1.out.size))
  have z1 := cell_below X1.out hB
  have z18 := cell_below X18.out hB
  have lr1 : w.heap.size < wr.heap.size := Nat.lt_of_lt_of_le hl1 hB.size
  clear hrl hB
  by_cases hlt : k < B.I.length
  ·obtain ⟨b1, o1, rfl, hb1, hr1⟩ := HIO.out (by omega)
   obtain ⟨x, hx⟩ := get_lt hlt
   obtain ⟨g0, _, _, _⟩ := rowI (hr1.below HBW.out hb1) hx
   have hkL : (k : Int) < (B.I.length : Int) := by omega
   have hb1w : b1 < wr.heap.size := Nat.lt_of_lt_of_le hb1 HBW.out.size
   have HX := hid (map_at IntentV.token hx)
   obtain ⟨t, ht⟩ : ∃ t, x.token = t := ⟨_, rfl⟩
   rw [ht] at g0 HX
   clear hx hr1 ht
   by_cases h1 : t ≤ z
   ·have d1 : decide (t ≤ z) = true := decide_eq_true h1
    obtain rfl : r = false := right_no HR.out (fun e => by have := HRL.out.stop HX.out (.inl h1); rw [← HA1.out, (right_fine e).2.2.2.2.2.1] at this; cases this)
    clear h1
    go_wp2
    go_quiet (fail)
    go_wp2
    go_ret
    exact ⟨rfl, below_drewN HBW.out _⟩
   ·have d1 : decide (t ≤ z) = false := decide_eq_false h1
    by_cases h2 : a1 < t
    ·have d2 : decide (a1 < t) = true := decide_eq_true h2
     obtain rfl : r = false := right_no HR.out (fun e => by have := HRL.out.stop HX.out (.inr h2); rw [← HA1.out, (right_fine e).2.2.2.2.2.1] at this; cases this)
     clear h1 h2
     go_wp2
     go_quiet (fail)
     go_wp2
     go_ret
     exact ⟨rfl, below_drewN HBW.out _⟩
    ·have d2 : decide (a1 < t) = false := decide_eq_false h2
     have HN := hid (show RiseL a1 ((B.I.map IntentV.token).take (k + 1)) t by rw [take_snoc _ k t HX.out]; exact HRL.out.snoc h1 h2)
     clear h1 h2
     go_wp2
     go_quiet (fail)
     go_wp2
     go_roundw
     case rel => exact ⟨k + 1, t, by omega, by go_num, rfl, HN.out, below_drewN HB.out _⟩
     case measure => simp [intOf]; omega
  ·obtain rfl : k = B.I.length := by omega
   have HRI := hid (show riseB a1 (B.I.map IntentV.token) = true by rw [riseB_iff]; have := HRL.out.1; rwa [← HLI.out, List.take_length] at this)
   have z19 := cell_below X19.out HB.out
   have Z19 := hid z19
   go_wp2
   clear z1 z18 z19
   go_loopw [3, 5] (fun last i wq => ∃ (k : Nat) (z : Int), k ≤ B.K.length ∧ i = .int .i64 k ∧ last = .int .i64 z ∧ RiseL 1099511627776 ((B.K.map KeptV.id).take k) z ∧ phasesB (B.K.take k) = true ∧ Below wr.heap.size wr wq) (fun _ i _ => B.K.length - (intOf i).toNat)
   case atStart => exact ⟨0, 0, Nat.zero_le _, rfl, rfl, RiseL.nil _, rfl, Below.refl _ _⟩
   case round =>
    obtain ⟨k, z, hk, rfl, rfl, hrl, hph, hB⟩ := hrel
    have HRL := hid hrl
    have HPH := hid hph
    have HBq := hid hB
    have HBW2 := hid (HBW.out.trans (hB.mono HBW.out.size))
    have z19 := cell_below Z19.out hB
    have lr2 : w.heap.size < wr.heap.size := Nat.lt_of_lt_of_le lr1 hB.size
    clear hrl hB hph
    by_cases hlt : k < B.K.length
    ·obtain ⟨b1, o1, rfl, hb1, hr1⟩ := HKO.out (by omega)
     obtain ⟨x, hx⟩ := get_lt hlt
     obtain ⟨g0, _, _, _, g4, _, _, _⟩ := rowK (hr1.below HBW2.out hb1) hx
     have hkL : (k : Int) < (B.K.length : Int) := by omega
     have hb1w : b1 < wr.heap.size := Nat.lt_of_lt_of_le hb1 HBW2.out.size
     have HX := hid (map_at KeptV.id hx)
     have HXK := hid hx
     obtain ⟨t, ht⟩ : ∃ t, x.id = t := ⟨_, rfl⟩
     obtain ⟨p, hp⟩ : ∃ p, x.phase = p := ⟨_, rfl⟩
     rw [ht] at g0 HX
     rw [hp] at g4
     have HP := hid hp
     clear hx hr1 ht hp
     by_cases h1 : t ≤ z
     ·have d1 : decide (t ≤ z) = true := decide_eq_true h1
      obtain rfl : r = false := right_no HR.out (fun e => by have := HRL.out.stop HX.out (.inl h1); rw [(right_fine e).2.2.2.2.2.2] at this; cases this)
      clear h1
      go_wp2
      go_ret
      exact ⟨rfl, HBW2.out⟩
     ·have d1 : decide (t ≤ z) = false := decide_eq_false h1
      by_cases h2 : (1099511627776 : Int) < t
      ·have d2 : decide ((1099511627776 : Int) < t) = true := decide_eq_true h2
       obtain rfl : r = false := right_no HR.out (fun e => by have := HRL.out.stop HX.out (.inr h2); rw [(right_fine e).2.2.2.2.2.2] at this; cases this)
       clear h1 h2
       go_wp2
       go_ret
       exact ⟨rfl, HBW2.out⟩
      ·have d2 : decide ((1099511627776 : Int) < t) = false := decide_eq_false h2
       have HN := hid (show RiseL 1099511627776 ((B.K.map KeptV.id).take (k + 1)) t by rw [take_snoc _ k t HX.out]; exact HRL.out.snoc h1 h2)
       clear h1 h2
       by_cases h3 : p < 1
       ·have d3 : decide (p < 1) = true := decide_eq_true h3
        obtain rfl : r = false := right_no HR.out (fun e => by have := of_decide_eq_true (right_fine e).2.2.2.2.1 x (mem_get HXK.out); rw [HP.out] at this; omega)
        clear h3
        go_wp2
        go_ret
        exact ⟨rfl, HBW2.out⟩
       ·have d3 : decide (p < 1) = false := decide_eq_false h3
        by_cases h4 : 10 < p
        ·have d4 : decide (10 < p) = true := decide_eq_true h4
         obtain rfl : r = false := right_no HR.out (fun e => by have := of_decide_eq_true (right_fine e).2.2.2.2.1 x (mem_get HXK.out); rw [HP.out] at this; omega)
         clear h3 h4
         go_wp2
         go_ret
         exact ⟨rfl, HBW2.out⟩
        ·have d4 : decide (10 < p) = false := decide_eq_false h4
         have HPN := hid (show phasesB (B.K.take (k + 1)) = true by rw [take_snoc _ k x HXK.out, phasesB_snoc, HPH.out, HP.out]; simp; omega)
         clear h3 h4
         go_wp2
         go_roundw
         case rel => exact ⟨k + 1, t, by omega, by go_num, rfl, HN.out, HPN.out, HBq.out⟩
         case measure => simp [intOf]; omega
    ·obtain rfl : k = B.K.length := by omega
     have HRK := hid (show riseB 1099511627776 (B.K.map KeptV.id) = true by rw [riseB_iff]; have := HRL.out.1; rwa [← HLK.out, List.take_length] at this)
     have HPA := hid (show phasesB B.K = true by have := HPH.out; rwa [List.take_length] at this)
     have D1 := hid (N1.out.below (HB.out.trans (HBq.out.mono HB.out.size)) hl1)
     obtain ⟨v20, hv20⟩ : ∃ v, B.f 20 = v := ⟨_, rfl⟩
     have x20 : wr.cell? ⟨w.heap.size, 20, none⟩ = some (.int .u8 v20) := by rw [← hv20]; exact blk_cell D1.out 20
     obtain ⟨v21, hv21⟩ : ∃ v, B.f 21 = v := ⟨_, rfl⟩
     have x21 : wr.cell? ⟨w.heap.size, 21, none⟩ = some (.int .i64 v21) := by rw [← hv21]; exact blk_cell D1.out 21
     obtain ⟨v22, hv22⟩ : ∃ v, B.f 22 = v := ⟨_, rfl⟩
     have x22 : wr.cell? ⟨w.heap.size, 22, none⟩ = some (.int .i64 v22) := by rw [← hv22]; exact blk_cell D1.out 22
     have x23 : wr.cell? ⟨w.heap.size, 23, none⟩ = some (.int .i64 (B.f 23)) := blk_cell D1.out 23
     have x24 : wr.cell? ⟨w.heap.size, 24, none⟩ = some (.bool (B.g 24)) := blk_cell D1.out 24
     have x25 : wr.cell? ⟨w.heap.size, 25, none⟩ = some (.int .i64 (B.f 25)) := blk_cell D1.out 25
     have x26 : wr.cell? ⟨w.heap.size, 26, none⟩ = some (.int .i64 (B.f 26)) := blk_cell D1.out 26
     obtain ⟨Y, hY⟩ : ∃ Y, Y = wr.alloc (.cells #[.int .u8 v20, .int .i64 v21, .int .i64 v22, .int .i64 (B.f 23), .bool (B.g 24), .int .i64 (B.f 25), .int .i64 (B.f 26)] 31) := ⟨_, rfl⟩
     have hbY : Below wr.heap.size wr Y := by rw [hY]; exact (Below.refl _ _).alloc (Nat.le_refl _) _
     have HEY := hid (HBW2.out.trans (hbY.mono HBW2.out.size))
     have BY := hid (D1.out.below hbY lr2)
     have hld := load_mid BY.out
     obtain ⟨g2, hg2⟩ : ∃ b, B.g 2 = b := ⟨_, rfl⟩
     have y2 : Y.cell? ⟨w.heap.size, 2, none⟩ = some (.bool g2) := by rw [← hg2]; exact blk_cell BY.out 2
     have y18 : Y.cell? ⟨w.heap.size, 18, none⟩ = some (.slice ia B.I.length ic) := blk_cell BY.out 18
     have y20 : Y.cell? ⟨w.heap.size, 20, none⟩ = some (.int .u8 v20) := by rw [← hv20]; exact blk_cell BY.out 20
     have lY := blk_lt BY.out
     obtain ⟨c, hc⟩ : ∃ c, checkB (fun i => B.f (i + 3)) B.M = c := ⟨_, rfl⟩
     have hck := check7_any (fun i => B.f (i + 3)) (B.g 16) mv B.M Y (HM1.out.below (HB.out.trans (HBq.out.mono HB.out.size) |>.trans (hbY.mono (HB.out.trans (HBq.out.mono HB.out.size)).size)))
     rw [hc] at hck
     have HCK := hid hck
     have HV20 := hid hv20
     have HV21 := hid hv21
     have HV22 := hid hv22
     have HG2 := hid hg2
     have HCC := hid hc
     have HY := hid hY
     rw [hY] at hld y2 y18 y20 lY
     have HIFF := hid (show r = true ↔ (v20 = 1 → 1 ≤ v21 ∧ v21 ≤ 1099511627776 ∧ 1 ≤ v22 ∧ v22 ≤ 1099511627776) ∧ (g2 = true → c = true) ∧ (g2 = false → B.I.length = 0 ∧ v20 = 0) by
      rw [← HR.out, right_iff, HV20.out, HV21.out, HV22.out, HG2.out, HCC.out]
      constructor
      ·rintro ⟨_, h⟩; exact h
      ·intro h
       exact ⟨⟨HA0D.out.1, HA0D.out.2.1, HA0D.out.2.2.1, HA0D.out.2.2.2, HPA.out, by rw [HA1.out]; exact HRI.out, HRK.out⟩, h⟩)
     clear hY hbY hck hv20 hv21 hv22 hc hg2
     by_cases h1 : v20 = 1
     ·have e1 : (v20 == 1) = true := by simpa using h1
      by_cases h2 : v21 < 1
      ·have e2 : decide (v21 < 1) = true := decide_eq_true h2
       obtain rfl : r = false := by rw [Bool.eq_false_iff]; intro e; have := (HIFF.out.1 e).1 h1; omega
       clear h1 h2
       go_wp2
       go_ret
       rw [← HY.out]
       exact ⟨rfl, HEY.out⟩
      have u0 : decide (v21 < 1) = false := decide_eq_false h2
      have U0 := hid h2
      clear h2
      by_cases h2 : (1099511627776 : Int) < v21
      ·have e2 : decide ((1099511627776 : Int) < v21) = true := decide_eq_true h2
       obtain rfl : r = false := by rw [Bool.eq_false_iff]; intro e; have := (HIFF.out.1 e).1 h1; omega
       clear h1 h2
       go_wp2
       go_ret
       rw [← HY.out]
       exact ⟨rfl, HEY.out⟩
      have u1 : decide ((1099511627776 : Int) < v21) = false := decide_eq_false h2
      have U1 := hid h2
      clear h2
      by_cases h2 : v22 < 1
      ·have e2 : decide (v22 < 1) = true := decide_eq_true h2
       obtain rfl : r = false := by rw [Bool.eq_false_iff]; intro e; have := (HIFF.out.1 e).1 h1; omega
       clear h1 h2
       go_wp2
       go_ret
       rw [← HY.out]
       exact ⟨rfl, HEY.out⟩
      have u2 : decide (v22 < 1) = false := decide_eq_false h2
      have U2 := hid h2
      clear h2
      by_cases h2 : (1099511627776 : Int) < v22
      ·have e2 : decide ((1099511627776 : Int) < v22) = true := decide_eq_true h2
       obtain rfl : r = false := by rw [Bool.eq_false_iff]; intro e; have := (HIFF.out.1 e).1 h1; omega
       clear h1 h2
       go_wp2
       go_ret
       rw [← HY.out]
       exact ⟨rfl, HEY.out⟩
      have u3 : decide ((1099511627776 : Int) < v22) = false := decide_eq_false h2
      have U3 := hid h2
      clear h2
      have HRF := hid (show v20 = 1 → 1 ≤ v21 ∧ v21 ≤ 1099511627776 ∧ 1 ≤ v22 ∧ v22 ≤ 1099511627776 from fun _ => by have := U0.out; have := U1.out; have := U2.out; have := U3.out; omega)
      have H1 := hid h1
      have e3 : (v20 == 0) = false := by rw [h1]; rfl
      have H3 := hid (show ¬ v20 = 0 from by rw [h1]; decide)
      clear h1
      cases g2 with
      | false =>
       by_cases h4 : B.I.length = 0
       ·have e4 : ((B.I.length : Int) == 0) = true := by rw [h4]; rfl
        have hrr : r = decide (v20 = 0) := by
         rw [Bool.eq_iff_iff, HIFF.out, decide_eq_true_eq]
         exact ⟨fun h => (h.2.2 rfl).2, fun h => ⟨HRF.out, (fun h => by cases h), fun _ => ⟨h4, h⟩⟩⟩
        obtain rfl : r = false := by rw [hrr]; first | exact decide_eq_true H3.out | exact decide_eq_false H3.out
        clear h4 hrr
        go_wp2
        go_ret
        rw [← HY.out]
        exact ⟨rfl, HEY.out⟩
       ·have e4 : ((B.I.length : Int) == 0) = false := by rw [beq_eq_false_iff_ne]; omega
        obtain rfl : r = false := by rw [Bool.eq_false_iff]; intro e; exact h4 ((HIFF.out.1 e).2.2 rfl).1
        clear h4
        go_wp2
        go_ret
        rw [← HY.out]
        exact ⟨rfl, HEY.out⟩
      | true =>
       obtain rfl : c = r := by
        rw [Bool.eq_iff_iff, HIFF.out]
        exact ⟨fun h => ⟨HRF.out, (fun _ => h), fun h => by cases h⟩, fun h => h.2.1 rfl⟩
       go_wp2_with fail
       rw [← HY.out]
       refine HCK.out.mono ?_
       rintro e Z ⟨rfl, hz⟩
       have HZ := hid (HEY.out.trans (hz.mono HEY.out.size))
       clear hz
       cases c
       all_goals
        simp only [okN, Bool.false_eq_true, if_false, if_true]
        go_wp2
        go_ret
        exact ⟨rfl, HZ.out⟩
     ·have e1 : (v20 == 1) = false := by simpa using h1
      have HRF := hid (show v20 = 1 → 1 ≤ v21 ∧ v21 ≤ 1099511627776 ∧ 1 ≤ v22 ∧ v22 ≤ 1099511627776 from fun h => absurd h h1)
      clear h1
      by_cases h3 : v20 = 0
      ·have e3 : (v20 == 0) = true := by simpa using h3
       have H3 := hid h3
       clear h3
       cases g2 with
       | false =>
        by_cases h4 : B.I.length = 0
        ·have e4 : ((B.I.length : Int) == 0) = true := by rw [h4]; rfl
         have hrr : r = decide (v20 = 0) := by
          rw [Bool.eq_iff_iff, HIFF.out, decide_eq_true_eq]
          exact ⟨fun h => (h.2.2 rfl).2, fun h => ⟨HRF.out, (fun h => by cases h), fun _ => ⟨h4, h⟩⟩⟩
         obtain rfl : r = true := by rw [hrr]; first | exact decide_eq_true H3.out | exact decide_eq_false H3.out
         clear h4 hrr
         go_wp2
         go_ret
         rw [← HY.out]
         exact ⟨rfl, HEY.out⟩
        ·have e4 : ((B.I.length : Int) == 0) = false := by rw [beq_eq_false_iff_ne]; omega
         obtain rfl : r = false := by rw [Bool.eq_false_iff]; intro e; exact h4 ((HIFF.out.1 e).2.2 rfl).1
         clear h4
         go_wp2
         go_ret
         rw [← HY.out]
         exact ⟨rfl, HEY.out⟩
       | true =>
        obtain rfl : c = r := by
         rw [Bool.eq_iff_iff, HIFF.out]
         exact ⟨fun h => ⟨HRF.out, (fun _ => h), fun h => by cases h⟩, fun h => h.2.1 rfl⟩
        go_wp2_with fail
        rw [← HY.out]
        refine HCK.out.mono ?_
        rintro e Z ⟨rfl, hz⟩
        have HZ := hid (HEY.out.trans (hz.mono HEY.out.size))
        clear hz
        cases c
        all_goals
         simp only [okN, Bool.false_eq_true, if_false, if_true]
         go_wp2
         go_ret
         exact ⟨rfl, HZ.out⟩
      ·have e3 : (v20 == 0) = false := by simpa using h3
       have H3 := hid h3
       clear h3
       cases g2 with
       | false =>
        by_cases h4 : B.I.length = 0
        ·have e4 : ((B.I.length : Int) == 0) = true := by rw [h4]; rfl
         have hrr : r = decide (v20 = 0) := by
          rw [Bool.eq_iff_iff, HIFF.out, decide_eq_true_eq]
          exact ⟨fun h => (h.2.2 rfl).2, fun h => ⟨HRF.out, (fun h => by cases h), fun _ => ⟨h4, h⟩⟩⟩
         obtain rfl : r = false := by rw [hrr]; first | exact decide_eq_true H3.out | exact decide_eq_false H3.out
         clear h4 hrr
         go_wp2
         go_ret
         rw [← HY.out]
         exact ⟨rfl, HEY.out⟩
        ·have e4 : ((B.I.length : Int) == 0) = false := by rw [beq_eq_false_iff_ne]; omega
         obtain rfl : r = false := by rw [Bool.eq_false_iff]; intro e; exact h4 ((HIFF.out.1 e).2.2 rfl).1
         clear h4
         go_wp2
         go_ret
         rw [← HY.out]
         exact ⟨rfl, HEY.out⟩
       | true =>
        obtain rfl : c = r := by
         rw [Bool.eq_iff_iff, HIFF.out]
         exact ⟨fun h => ⟨HRF.out, (fun _ => h), fun h => by cases h⟩, fun h => h.2.1 rfl⟩
        go_wp2_with fail
        rw [← HY.out]
        refine HCK.out.mono ?_
        rintro e Z ⟨rfl, hz⟩
        have HZ := hid (HEY.out.trans (hz.mono HEY.out.size))
        clear hz
        cases c
        all_goals
         simp only [okN, Bool.false_eq_true, if_false, if_true]
         go_wp2
         go_ret
         exact ⟨rfl, HZ.out⟩
theorem rright_at (B : BrainV) (b : Bool) (hb : rightB B = b) (mv iv kv : Value) (w : World) (hm : RowOf 1 encI w mv B.M) (hi : RowOf 4 encIn w iv B.I) (hk : RowOf 8 encKp w kv B.K) :
  Calls Tryz.prog 5 #[.agg (brT B.f B.g mv iv kv)] w fun e w' => e = .returned (.bool b) ∧ Below w.heap.size w w' := by
 rw [← hb]; exact rright_any B mv iv kv w hm hi hk
end Go.Proofs.YtgcajfglidflnaaGreatDoor
