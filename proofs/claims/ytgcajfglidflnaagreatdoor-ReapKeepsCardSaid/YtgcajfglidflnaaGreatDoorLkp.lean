import Derived.Test.YtgcajfglidflnaaGreatDoorShr
import Derived.Test.YtgcajfglidflnaaGreatDoorLsm
import Derived.Test.YtgcajfglidflnaaGreatDoorRpq
/- ReapKeeps: behind a whole listing what is shown is kept, what is not shown is not. Printed by gn_lkp.py. -/
namespace Go.Proofs.YtgcajfglidflnaaGreatDoor
open Go.RowKit Go.Shelf
attribute [-go_sem] loadVar storeVar Instr.buildSlice
attribute [local go_sem] load_other store_other

/-- What the law goes by. -/
structure KpM (w : World) (B : BrainV) (bv : Array Value) (C : CloudV) (a : Option Addr) (c : Nat) (W : World) : Prop where
 cl : W.heap[w.heap.size]? = some (.cells #[.slice a C.boxes.length c, .int .i64 C.floor, .int .i64 C.drain, .int .i64 C.now, .bool C.tight] 24)
 br : VarIs W (w.heap.size + 1) B (.agg bv)
 rs : RowOf 11 encBx W (.slice a C.boxes.length c) C.boxes
 bel : Below w.heap.size w W
theorem KpM.below {w W W' : World} {B : BrainV} {bv : Array Value} {C : CloudV} {a : Option Addr} {c : Nat} (h : KpM w B bv C a c W) (hb : Below W.heap.size W W') : KpM w B bv C a c W' :=
 ⟨blk_below h.cl hb (blk_lt h.cl), h.br.below hb, h.rs.below hb, h.bel.trans (hb.mono h.bel.size)⟩
theorem any_snoc {α : Type} {p : α → Bool} {L : List α} {q : Nat} {x : α} (h : L[q]? = some x) : (L.take (q + 1)).any p = ((L.take q).any p || p x) := by rw [take_snoc L q x h, List.any_append]; simp
theorem recsL_nil {w : World} {v : Value} (h : RecsL w [] v) : ∃ a c, v = .slice a 0 c := by
 obtain ⟨R, h1, h2, _⟩ := h
 cases R with
 | nil => obtain ⟨a, c, rfl, _⟩ := h2.open; exact ⟨a, c, rfl⟩
 | cons => simp at h1
theorem allC_fine {C : CloudV} (h : CloudR C) : ∀ x ∈ allC C.boxes, FineS x := fun x hx => by
 obtain ⟨h1, h2, h3, h4, h5⟩ := allC_in h hx
 unfold numP at h3 h4 h5
 simp only [Bool.and_eq_true, decide_eq_true_eq] at h3 h4 h5
 exact ⟨⟨h1, by omega⟩, h3, h4, h5⟩
set_option maxRecDepth 100000 in
set_option maxHeartbeats 16000000 in
theorem keeps_law (C : CloudV) (s : Value) (B : BrainV) (bv : Array Value) (now : Int) (w : World) (hcs : RowOf 11 encBx w s C.boxes) (hB : BrIs w B (.agg bv)) (hwf : ∀ x ∈ B.K, in8 x.phase) (hC : Changes w) (hL : Limits w) :
  Calls Tryz.prog 3 #[.agg (cloudA C s), .agg bv, .int .i64 now] w fun e w' => e = .returned (.bool true) ∧ Below w.heap.size w w' := by
 obtain ⟨a, c, rfl, _⟩ := hcs.open
 unfold cloudA
 obtain ⟨W1, hW1⟩ : ∃ W1, W1 = (w.alloc (.cells #[.slice a C.boxes.length c, .int .i64 C.floor, .int .i64 C.drain, .int .i64 C.now, .bool C.tight] 24)).alloc (.cells bv 33) := ⟨_, rfl⟩
 have hb1 : Below w.heap.size w W1 := by rw [hW1]; exact ((Below.refl _ _).alloc (Nat.le_refl _) _).alloc (by simp) _
 have n0 : BB W1 (w.heap.size + 1) bv := by rw [hW1]; exact heap_new2 _ _ _
 obtain ⟨mv, iv, kv, e, h1, h2, h3⟩ := hB
 have hv1 : VarIs W1 (w.heap.size + 1) B (.agg bv) := by cases e; exact ⟨mv, iv, kv, rfl, n0, h1.below hb1, h2.below hb1, h3.below hb1⟩
 have M1 := hid (show KpM w B bv C a c W1 from ⟨by rw [hW1]; exact blk_alloc (heap_new _ _) _, hv1, hcs.below hb1, hb1⟩)
 have HW1 := hid hW1
 have HC := hid hC
 have HL := hid hL
 have HWF := hid hwf
 clear hcs hb1 hW1 hC hL hwf n0 e h1 h2 h3 hv1
 have HWK := hid (fun (W : World) (hb : Below w.heap.size w W) => wakes21_any W (HC.out.below hb) (HL.out.below hb))
 go_enter Tryz.func3, Tryz.ntmps3
 go_upto_region 1 with (fail)
 rw [← HW1.out]
 clear HW1
 obtain ⟨q, hq⟩ : ∃ q, greatB B = q := ⟨_, rfl⟩
 have HQ := hid hq
 clear hq
 have hld := M1.out.br.load
 have bl := M1.out.br.lt
 go_wp2_with fail
 refine (great_is q HQ.out M1.out.br.is).mono ?_
 rintro e W2 ⟨rfl, hb⟩
 have M2 := hid (M1.out.below hb)
 clear hb hld bl M1
 cases q with
 | true =>
  go_wp2_with fail
  refine (HWK.out _ M2.out.bel).mono ?_
  rintro e Wz ⟨rfl, hb⟩
  have HB := hid (Below.trans M2.out.bel (hb.mono M2.out.bel.size))
  clear hb
  go_wp2
  go_ret
  exact ⟨rfl, HB.out⟩
 | false =>
  obtain ⟨rb, hrb⟩ : ∃ q, rightB B = q := ⟨_, rfl⟩
  have HRB := hid hrb
  clear hrb
  have hld := M2.out.br.load
  have bl := M2.out.br.lt
  go_wp2_with fail
  refine (rright_is rb HRB.out M2.out.br.is).mono ?_
  rintro e W3 ⟨rfl, hb⟩
  have M3 := hid (M2.out.below hb)
  clear hb hld bl M2
  cases rb with
  | false =>
   go_wp2_with fail
   refine (HWK.out _ M3.out.bel).mono ?_
   rintro e Wz ⟨rfl, hb⟩
   have HB := hid (Below.trans M3.out.bel (hb.mono M3.out.bel.size))
   clear hb
   go_wp2
   go_ret
   exact ⟨rfl, HB.out⟩
  | true =>
   obtain ⟨q2, hq2⟩ : ∃ q : Bool, (q = true ↔ CloudR C) := by
    by_cases h : CloudR C
    ·exact ⟨true, by simp [h]⟩
    ·exact ⟨false, by simp [h]⟩
   have HQ2 := hid hq2
   clear hq2
   obtain ⟨c0, c1, c2, c3, c4, cf, cl⟩ := blk5 M3.out.cl
   have HRC := rright08_any C _ q2 HQ2.out W3 M3.out.rs
   unfold cloudA at HRC
   have HRC := hid HRC
   go_wp2_with fail
   refine HRC.out.mono ?_
   rintro e W4 ⟨rfl, hb⟩
   have M4 := hid (M3.out.below hb)
   clear hb c0 c1 c2 c3 c4 cf cl M3 HRC
   cases q2 with
   | false =>
    go_wp2_with fail
    refine (HWK.out _ M4.out.bel).mono ?_
    rintro e Wz ⟨rfl, hb⟩
    have HB := hid (Below.trans M4.out.bel (hb.mono M4.out.bel.size))
    clear hb
    go_wp2
    go_ret
    exact ⟨rfl, HB.out⟩
   | true =>
    by_cases h0 : now < 1
    ·have d0 : decide (now < 1) = true := decide_eq_true h0
     go_wp2_with fail
     refine (HWK.out _ M4.out.bel).mono ?_
     rintro e Wz ⟨rfl, hb⟩
     have HB := hid (Below.trans M4.out.bel (hb.mono M4.out.bel.size))
     clear hb
     go_wp2
     go_ret
     exact ⟨rfl, HB.out⟩
    ·by_cases h30 : 1073741824 < now
     ·have d0 : decide (now < 1) = false := decide_eq_false h0
      have d1 : decide ((1073741824 : Int) < now) = true := decide_eq_true h30
      go_wp2_with fail
      refine (HWK.out _ M4.out.bel).mono ?_
      rintro e Wz ⟨rfl, hb⟩
      have HB := hid (Below.trans M4.out.bel (hb.mono M4.out.bel.size))
      clear hb
      go_wp2
      go_ret
      exact ⟨rfl, HB.out⟩
     ·have d0 : decide (now < 1) = false := decide_eq_false h0
      have d1 : decide ((1073741824 : Int) < now) = false := decide_eq_false h30
      have HGN := hid (show goodN now from ⟨by omega, by omega⟩)
      have HR := hid (rightP_iff.1 HRB.out)
      have HG := hid (great_small HQ.out)
      have HCR := hid (HQ2.out.1 rfl)
      have HF := hid (show Fine B 40 from ⟨HG.out.1, HG.out.2.1, HWF.out⟩)
      clear h0 h30 HQ HRB HQ2
      obtain ⟨c0, c1, c2, c3, c4, cf, cl⟩ := blk5 M4.out.cl
      have HLS := listed_any C _ now W4 HCR.out M4.out.rs
      unfold cloudA at HLS
      obtain ⟨L, hLC⟩ : ∃ L, allC C.boxes = L := ⟨_, rfl⟩
      rw [hLC] at HLS
      have HLS := hid HLS
      have HLC := hid hLC
      have HLF := hid (show ∀ x ∈ L, FineS x by rw [← hLC]; exact allC_fine HCR.out)
      have HL60 := hid (show L.length ≤ 60 by rw [← hLC]; exact Nat.le_trans (allC_len _) HCR.out.len)
      clear hLC
      go_wp2_with fail
      refine HLS.out.mono ?_
      rintro e V ⟨beh, sv, rfl, ho, hb⟩
      clear c0 c1 c2 c3 c4 cf cl HLS d0 d1
      obtain ⟨sa, sc, rfl, _⟩ := (Owns.row ho encSn_len (by decide)).open
      unfold scanV
      obtain ⟨W5, hW5⟩ : ∃ W5, W5 = V.alloc (.cells #[.bool false, .int .i64 now, .int .i64 beh, .slice sa L.length sc] 39) := ⟨_, rfl⟩
      have hal : Below V.heap.size V W5 := by rw [hW5]; exact (Below.refl _ _).alloc (Nat.le_refl _) _
      have M5 := hid (M4.out.below (hb.trans (hal.mono hb.size)))
      have R5 := hid ((Owns.row ho encSn_len (by decide)).below hal)
      have s5 : W5.heap[V.heap.size]? = some (.cells #[.bool false, .int .i64 now, .int .i64 beh, .slice sa L.length sc] 39) := by rw [hW5]; exact heap_new _ _
      have HW5 := hid hW5
      clear ho hb hal hW5
      go_upto_region 4 with (fail)
      rw [← HW5.out]
      clear HW5
      obtain ⟨T7, hT7⟩ : ∃ T, V.heap.size = T := ⟨_, rfl⟩
      rw [hT7] at s5 ⊢
      have S5 := hid s5
      clear hT7 s5
      obtain ⟨c0, c1, c2, c3, c4, _, _⟩ := blk5 M5.out.cl
      obtain ⟨s0, s1, s2, s3, _, _⟩ := blk4 S5.out
      have HJ := hid (show ∀ X, Below W5.heap.size W5 X → X.cell? ⟨w.heap.size, 0, none⟩ = some (.slice a C.boxes.length c) ∧ X.cell? ⟨w.heap.size, 1, none⟩ = some (.int .i64 C.floor) ∧ X.cell? ⟨w.heap.size, 2, none⟩ = some (.int .i64 C.drain) ∧ X.cell? ⟨w.heap.size, 3, none⟩ = some (.int .i64 C.now) ∧ X.cell? ⟨w.heap.size, 4, none⟩ = some (.bool C.tight) ∧ X.cell? ⟨T7, 0, none⟩ = some (.bool false) ∧ X.cell? ⟨T7, 3, none⟩ = some (.slice sa L.length sc) from fun X hb => ⟨cell_below c0 hb, cell_below c1 hb, cell_below c2 hb, cell_below c3 hb, cell_below c4 hb, cell_below s0 hb, cell_below s3 hb⟩)
      have HA := hid (show ∀ X, Below W5.heap.size W5 X → Calls Tryz.prog 10 #[.agg #[.slice a C.boxes.length c, .int .i64 C.floor, .int .i64 C.drain, .int .i64 C.now, .bool C.tight]] X fun e w' => ∃ v, e = .returned v ∧ OwnS w' X.heap.size v L ∧ Below X.heap.size X w' from fun X hb => by
       have := all09_any C _ X HCR.out (M5.out.rs.below hb)
       unfold cloudA at this
       rw [HLC.out] at this
       exact this)
      have HS := hid (fun (X : World) (tv : Value) (hb : Below W5.heap.size W5 X) (ht : RowS X tv L) => same09_any L (.slice sa L.length sc) tv X (R5.out.below hb) ht)
      clear c0 c1 c2 c3 c4 s0 s1 s2 s3
      have HBD := hid (below_drewN (Below.refl W5.heap.size W5) 1)
      have Q0 := hid (HJ.out W5.drew HBD.out)
      go_region_held3 (fun w' => w'.cell? ⟨w.heap.size, 0, none⟩ = some (.slice a C.boxes.length c) ∧ w'.cell? ⟨w.heap.size, 1, none⟩ = some (.int .i64 C.floor) ∧ w'.cell? ⟨w.heap.size, 2, none⟩ = some (.int .i64 C.drain) ∧ w'.cell? ⟨w.heap.size, 3, none⟩ = some (.int .i64 C.now) ∧ w'.cell? ⟨w.heap.size, 4, none⟩ = some (.bool C.tight) ∧ w'.cell? ⟨T7, 0, none⟩ = some (.bool false) ∧ w'.cell? ⟨T7, 3, none⟩ = some (.slice sa L.length sc)) (first | (with_reducible exact Q3.out) | (with_reducible exact Q2.out) | (with_reducible exact Q0.out)) (first
       | (go_at_call 10; refine (HA.out _ HBD.out).mono ?_; rintro e y1 ⟨tv, rfl, hto, hby⟩; have HTV := hid (Owns.row hto encSn_len (by decide)); have HBD1 := hid (HBD.out.trans hby); have Q2 := hid (HJ.out y1 HBD1.out); clear hto hby)
       | (go_at_call 9; refine (HS.out _ _ HBD1.out HTV.out).mono ?_; rintro e W6 ⟨rfl, hby⟩; have HBD2 := hid (HBD1.out.trans (hby.mono HBD1.out.size)); have Q3 := hid (HJ.out W6 HBD2.out); clear hby))
      have M6 := hid (M5.out.below HBD2.out)
      have S6 := hid (blk_below S5.out HBD2.out (blk_lt S5.out))
      have R6 := hid (R5.out.below HBD2.out)
      clear HJ HA HS HBD Q0 Q2 Q3 HTV HBD1 HBD2 M5 R5 S5
      have hld := M6.out.br.load
      have bl := M6.out.br.lt
      obtain ⟨s0, s1, s2, s3, sf, sl⟩ := blk4 S6.out
      have HRC := hid (reap_any B bv false now beh now (.slice sa L.length sc) L W6 M6.out.br.is R6.out (HF.out.up (by omega)) HL60.out (by have := HG.out.2.2; omega) (HC.out.below M6.out.bel) (HL.out.below M6.out.bel))
      go_wp2_with fail
      refine HRC.out.mono ?_
      rintro e W7 ⟨lv, rfl, hrl, hb⟩
      have M7 := hid (M6.out.below hb)
      have S7 := hid (blk_below S6.out hb (blk_lt S6.out))
      have R7 := hid (R6.out.below hb)
      have HRL := hid hrl
      clear hb hrl hld bl s0 s1 s2 s3 sf sl HRC M6 S6 R6
      have hld := M7.out.br.load
      have bl := M7.out.br.lt
      have HAL := hid (rall_told M7.out.br.is HRL.out HF.out (by have := HG.out.2.2; omega) HGN.out HL60.out)
      go_wp2_with fail
      refine HAL.out.mono ?_
      rintro e W8 ⟨u3, rfl, he, hb⟩
      obtain ⟨O, hO⟩ : ∃ O, outB B L now now = O := ⟨_, rfl⟩
      rw [hO] at he
      obtain ⟨ov, hov⟩ : ∃ ov, u3 = .agg ov := by obtain ⟨_, _, _, h, _⟩ := he; exact ⟨_, h⟩
      subst hov
      obtain ⟨W9, hW9⟩ : ∃ W9, W9 = W8.alloc (.cells zeroBr 33) := ⟨_, rfl⟩
      have hal9 : Below W8.heap.size W8 W9 := by rw [hW9]; exact (Below.refl _ _).alloc (Nat.le_refl _) _
      have hz9 : W9.heap[W8.heap.size]? = some (.cells zeroBr 33) := by rw [hW9]; exact heap_new _ _
      obtain ⟨X3, hst, hvar, hbv, hbx, hXo, hXs⟩ := brEnd_store (he.below hal9) hz9 rfl (hb.trans (hal9.mono hb.size)) hb.size
      rw [hW9] at hst
      unfold zeroBr brT at hst
      dsimp only at hst
      have M9 := hid (M7.out.below hbx)
      have S9 := hid (blk_below S7.out hbx (blk_lt S7.out))
      have R9 := hid (R7.out.below hbx)
      have HOV := hid hvar
      have HOR := hid (show RightP O by rw [← hO]; exact out_right HR.out L now now)
      have HKP := hid (show (∀ x ∈ L, ∃ y ∈ O.K, y.id = x.id) ∧ (∀ k ∈ B.K, (∃ y ∈ O.K, y.id = k.id) ↔ ((∃ x ∈ L, x.id = k.id) ∨ now ≤ k.since)) ∧ itemsL O L now now = [] by rw [← hO]; exact keeps_plain HR.out HGN.out HLF.out)
      have HOF := hid (show Fine O 100 by
       have h1 := out_few HR.out (l := L) (frm := now) HGN.out
       rw [hO] at h1
       have h2 := (Fine.allL HF.out (itemsL B L now now)).2.2
       have h3 : applyL B (itemsL B L now now) = O := hO
       rw [h3] at h2
       exact ⟨by have := HG.out.1; omega, by have := HG.out.2.1; have := HL60.out; omega, h2⟩)
      have HOM := hid (show O.M.length ≤ 100000 by rw [← hO]; exact applyL_M (by omega) _ (by have := HG.out.2.2; omega))
      obtain ⟨T10, hT10⟩ : ∃ T, W8.heap.size = T := ⟨_, rfl⟩
      have HT10 := hid hT10
      clear hT10
      clear he hb hal9 hz9 hW9 hvar hbv hbx hXo hXs hld bl HAL M7 S7 R7 HRL hO
      go_upto_region 8 with (fail)
      rw [HT10.out] at HOV ⊢
      clear hst HT10
      go_wp2
      go_loopw [11] (fun i wr => ∃ n : Nat, n ≤ L.length ∧ i = .int .i64 n ∧ Below X3.heap.size X3 wr) (fun i _ => L.length - (intOf i).toNat)
      case atStart => exact ⟨0, Nat.zero_le _, rfl, Below.refl _ _⟩
      case round =>
       obtain ⟨n, hn, rfl, hB⟩ := hrel
       have HBr := hid hB
       have MR := hid (M9.out.below hB)
       have SR := hid (blk_below S9.out hB (blk_lt S9.out))
       have RR := hid (R9.out.below hB)
       have OR := hid (HOV.out.below hB)
       clear hB
       obtain ⟨s0, s1, s2, s3, sf, sl⟩ := blk4 SR.out
       by_cases hlt : n < L.length
       ·obtain ⟨_, _, he, _, _, _, hop⟩ := RR.out.open
        cases he
        obtain ⟨b1, o1, hsa, hb1, hr1⟩ := hop (by omega)
        obtain ⟨x, hx⟩ := get_lt hlt
        obtain ⟨g0, g1, g2, g3, g4, g5, g6⟩ := rowS hr1 hx
        have hnL : (n : Int) < (L.length : Int) := by omega
        obtain ⟨y, hym, hyid⟩ := HKP.out.1 x (mem_get hx)
        obtain ⟨j, hjr, hjy⟩ := find_mem HOR.out.ids hym
        rw [hyid] at hjr
        rw [hsa] at s3
        have HALL := hid (show ∀ W, Below wr.heap.size wr W → Below wr.heap.size wr W ∧ W.cell? ⟨T7, 3, none⟩ = some (.slice (some ⟨b1, o1, none⟩) L.length sc) ∧ W.cell? ⟨b1, o1 + n * 7, none⟩ = some (.int .i64 x.id) ∧ (loadVar 33 ⟨T10, 0, none⟩).run Tryz.prog W = .ok (.agg ov) W from fun W hb => ⟨hb, cell_below s3 hb, cell_below g0 hb, (OR.out.below hb).load⟩)
        have HFD := hid (fun (W : World) (hb : Below wr.heap.size wr W) => rfind13_at O (.agg ov) x.id j hjr W (OR.out.below hb).is)
        have hj0 : ¬ ((j : Int) < 0) := by omega
        clear hop hr1 hx hym hyid hjr hjy hsa g1 g2 g3 g4 g5 g6
        go_wp2_with fail
        clear s0 s1 s2 s3 sf sl g0
        go_region_held3 (fun W => Below wr.heap.size wr W ∧ W.cell? ⟨T7, 3, none⟩ = some (.slice (some ⟨b1, o1, none⟩) L.length sc) ∧ W.cell? ⟨b1, o1 + n * 7, none⟩ = some (.int .i64 x.id) ∧ (loadVar 33 ⟨T10, 0, none⟩).run Tryz.prog W = .ok (.agg ov) W) (first | exact HALL.out _ (below_drewN (Below.refl _ _) 1) | (go_split_ands; exact HALL.out _ (below_call (by assumption) hbt1))) ((go_at_call 13; go_split_ands; refine (HFD.out _ (by assumption)).mono ?_; rintro e x1 ⟨rfl, hbt1⟩))
        go_split_ands
        have HBQ := hid (show Below wr.heap.size wr x1 by assumption)
        go_wp2
        go_roundw
        case rel => exact ⟨n + 1, by omega, by go_num, HBr.out.trans (HBQ.out.mono HBr.out.size)⟩
        case measure => simp [intOf]; omega
       ·obtain rfl : n = L.length := by omega
        obtain ⟨W10, hW10⟩ : ∃ W : World, W = wr := ⟨_, rfl⟩
        rw [← hW10] at MR SR RR OR HBr s0 s1 s2 s3 sf sl ⊢
        clear hW10
        go_wp2
        clear s0 s1 s2 s3 sf sl
        go_loopw [12] (fun i wr => ∃ n : Nat, n ≤ B.K.length ∧ i = .int .i64 n ∧ Below W10.heap.size W10 wr) (fun i _ => B.K.length - (intOf i).toNat)
        case atStart => exact ⟨0, Nat.zero_le _, rfl, Below.refl _ _⟩
        case round =>
         obtain ⟨n, hn, rfl, hB⟩ := hrel
         have HBr2 := hid hB
         have M2 := hid (MR.out.below hB)
         have S2 := hid (blk_below SR.out hB (blk_lt SR.out))
         have R2 := hid (RR.out.below hB)
         have O2 := hid (OR.out.below hB)
         clear hB
         obtain ⟨bf0, bf1, bf20, bl, ka, kc, b19, brow⟩ := M2.out.br.at
         by_cases hlt : n < B.K.length
         ·obtain ⟨_, _, he, _, _, _, hop⟩ := brow.open
          cases he
          obtain ⟨b2, o2, rfl, hb2, hr2⟩ := hop (by omega)
          obtain ⟨k, hk⟩ := get_lt hlt
          have hnL : (n : Int) < (B.K.length : Int) := by omega
          have HKN := hid hk
          have HR2 := hid hr2
          have HB2 := hid hb2
          have HB19 := hid b19
          have HKK := hid (HKP.out.2.1 k (mem_get hk))
          clear hop hr2 hk brow hb2
          go_wp2
          clear bf0 bf1 bf20 bl b19
          go_loopw [14, 13] (fun i t wq => ∃ q : Nat, q ≤ L.length ∧ i = .int .i64 q ∧ t = .bool ((L.take q).any fun x => x.id == k.id) ∧ Below wr.heap.size wr wq) (fun i _ _ => L.length - (intOf i).toNat)
          case atStart => exact ⟨0, Nat.zero_le _, rfl, rfl, Below.refl _ _⟩
          case round =>
           obtain ⟨q, hq, rfl, rfl, hB⟩ := hrel
           obtain ⟨wq, hwq⟩ : ∃ W : World, W = wr := ⟨_, rfl⟩
           rw [← hwq] at hB ⊢
           clear hwq
           have HBQ := hid hB
           have OQ := hid (O2.out.below hB)
           have b19 := cell_below HB19.out hB
           obtain ⟨k0, k1, k2, k3, k4, k5, k6, k7⟩ := rowK (HR2.out.below hB HB2.out) HKN.out
           have hl2 : b2 < wq.heap.size := Nat.lt_of_lt_of_le HB2.out hB.size
           obtain ⟨s0, s1, s2, s3, sf, sl⟩ := blk4 (blk_below S2.out hB (blk_lt S2.out))
           have bl := (M2.out.br.below hB).lt
           have RQ := hid (R2.out.below hB)
           clear hB k1 k2 k3 k4 k6 k7
           obtain ⟨tb, htb⟩ : ∃ t, ((L.take q).any fun x => x.id == k.id) = t := ⟨_, rfl⟩
           rw [htb]
           have HTB := hid htb
           clear htb
           by_cases hqL : q < L.length
           ·obtain ⟨_, _, he, _, _, _, hop⟩ := RQ.out.open
            cases he
            obtain ⟨b1, o1, hsa, hb1, hr1⟩ := hop (by omega)
            obtain ⟨x, hx⟩ := get_lt hqL
            obtain ⟨g0, g1, g2, g3, g4, g5, g6⟩ := rowS hr1 hx
            have hqI : (q : Int) < (L.length : Int) := by omega
            have HX := hid hx
            rw [hsa] at s3
            clear hop hr1 hx hsa g1 g2 g3 g4 g5 g6 k5
            cases tb with
            | true =>
             go_wp2_with fail
             go_quiet (fail)
             go_wp2
             go_roundw
             case rel => exact ⟨q + 1, by omega, by go_num, by rw [any_snoc HX.out]; rw [HTB.out]; rfl, below_drewN HBQ.out _⟩
             case measure => simp [intOf]; omega
            | false =>
             go_wp2_with fail
             go_quiet (fail)
             go_wp2
             go_roundw
             case rel => exact ⟨q + 1, by omega, by go_num, by rw [any_snoc HX.out]; rw [HTB.out]; rfl, below_drewN HBQ.out _⟩
             case measure => simp [intOf]; omega
           ·obtain rfl : q = L.length := by omega
            obtain ⟨r, hr⟩ : ∃ r, idxL O.K (fun y => y.id == k.id) = r := ⟨_, rfl⟩
            have HRR := hid hr
            have hsh : (∃ x ∈ L, x.id = k.id) ↔ tb = true := by
             have := HTB.out
             rw [List.take_length] at this
             rw [← this]
             simp
            have hfo : 0 ≤ r ↔ ∃ y ∈ O.K, y.id = k.id := by
             constructor
             ·intro h0
              rcases idxL_cases O.K (fun y => y.id == k.id) with ⟨h1, _⟩ | ⟨z, y, _, hy, hp, _⟩
              ·omega
              ·exact ⟨y, mem_get hy, by simpa using hp⟩
             ·rintro ⟨y, hy, he⟩
              obtain ⟨z, hz, _⟩ := find_mem HOR.out.ids hy
              rw [he] at hz
              omega
            have HFO := hid (hfo.trans (HKK.out.trans (or_congr_left hsh)))
            clear hr hsh hfo
            cases tb with
            | true =>
             have dr : decide (0 ≤ r) = true := decide_eq_true (HFO.out.2 (.inl rfl))
             have HFD := hid (fun (W : World) (hb : Below wq.heap.size wq W) => rfind13_at O (.agg ov) k.id r HRR.out W (OQ.out.below hb).is)
             have HQ19 := hid b19
             have HK0 := hid k0
             go_wp2_with fail
             clear b19 k0 k5
             refine wp_region_held_drew (S := fun _ => True) (by kernel_rfl) trivial (fun _ => ?_)
             refine wpAnyH_grownG (w0 := wq.drew) (spL [fun z _ => z = .agg ov, fun z _ => z = .pointer (some ⟨w.heap.size + 1, 19, none⟩), fun z _ => z = .slice (some ⟨b2, o2, none⟩) B.K.length kc, fun z _ => z = .int .i64 (n : Int), fun z _ => z = .pointer (some ⟨b2, o2 + n * 8, none⟩), fun z _ => z = .pointer (some ⟨b2, o2 + n * 8, none⟩), fun z _ => z = .int .i64 k.id, fun z _ => z = .int .i64 r, fun z _ => z = .bool true, fun z _ => z = .bool true, fun z _ => z = .bool true, fun z _ => z = undef, fun z _ => z = undef, fun z _ => z = undef, fun z _ => z = undef, fun z _ => z = undef, fun z _ => z = undef, fun z _ => z = undef, fun z _ => z = undef, fun z _ => z = .bool true, fun z _ => z = .bool false]) (spL_stays ⟨stays_eq _, stays_eq _, stays_eq _, stays_eq _, stays_eq _, stays_eq _, stays_eq _, stays_eq _, stays_eq _, stays_eq _, stays_eq _, stays_eq _, stays_eq _, stays_eq _, stays_eq _, stays_eq _, stays_eq _, stays_eq _, stays_eq _, stays_eq _, stays_eq _, trivial⟩) (by kernel_rfl) (by kernel_rfl) ?steps21 ?fin21 rfl
             case steps21 =>
              refine ⟨?_, ?_, ?_, ?_, ?_, ?_, ?_, ?_, ?_, ?_, ?_, ?_, ?_, ?_, ?_, ?_, ?_, ?_, ?_, ?_, ?_, trivial⟩
              ·intro a' w' hB hdep hoth K hK
               rw [if_pos (guard_none rfl)]
               have hbw : Below wq.heap.size wq w' := (below_drewN (Below.refl _ _) 1).trans hB
               have t10 := hoth 10 (notDst_at (by kernel_rfl))
               simp only [List.getElem?_toArray, List.getElem?_cons_succ, List.getElem?_cons_zero] at t10
               have hld := (OQ.out.below hbw).load
               clear hdep hoth
               go_simp
               exact hK _ _ (Below.refl _ _) rfl
              ·intro a' w' hB hdep hoth K hK
               rw [if_pos (guard_none rfl)]
               have hbw : Below wq.heap.size wq w' := (below_drewN (Below.refl _ _) 1).trans hB
               have t4 := hoth 4 (notDst_at (by kernel_rfl))
               simp only [List.getElem?_toArray, List.getElem?_cons_succ, List.getElem?_cons_zero] at t4
               clear hdep hoth
               go_simp
               exact hK _ _ (Below.refl _ _) rfl
              ·intro a' w' hB hdep hoth K hK
               rw [if_pos (guard_none rfl)]
               have hbw : Below wq.heap.size wq w' := (below_drewN (Below.refl _ _) 1).trans hB
               obtain ⟨vx0, gx0, ex0⟩ := hdep ⟨1, .data⟩ (by simp) rfl
               have gx0 := gx0 110 rfl (by simp)
               obtain rfl : vx0 = .pointer (some ⟨w.heap.size + 1, 19, none⟩) := ex0
               have y19 := cell_below HQ19.out hbw
               have lo3 : w.heap.size + 1 < w'.heap.size := Nat.lt_of_lt_of_le bl hbw.size
               clear hdep hoth
               go_simp
               exact hK _ _ (Below.refl _ _) rfl
              ·intro a' w' hB hdep hoth K hK
               rw [if_pos (guard_none rfl)]
               have hbw : Below wq.heap.size wq w' := (below_drewN (Below.refl _ _) 1).trans hB
               have t12 := hoth 12 (notDst_at (by kernel_rfl))
               simp only [List.getElem?_toArray, List.getElem?_cons_succ, List.getElem?_cons_zero] at t12
               clear hdep hoth
               go_simp
               exact hK _ _ (Below.refl _ _) rfl
              ·intro a' w' hB hdep hoth K hK
               rw [if_pos (guard_none rfl)]
               have hbw : Below wq.heap.size wq w' := (below_drewN (Below.refl _ _) 1).trans hB
               obtain ⟨vx0, gx0, ex0⟩ := hdep ⟨2, .data⟩ (by simp) rfl
               have gx0 := gx0 111 rfl (by simp)
               obtain rfl : vx0 = .slice (some ⟨b2, o2, none⟩) B.K.length kc := ex0
               obtain ⟨vx1, gx1, ex1⟩ := hdep ⟨3, .data⟩ (by simp) rfl
               have gx1 := gx1 112 rfl (by simp)
               obtain rfl : vx1 = .int .i64 (n : Int) := ex1
               clear hdep hoth
               go_simp
               exact hK _ _ (Below.refl _ _) rfl
              ·intro a' w' hB hdep hoth K hK
               rw [if_pos (guard_none rfl)]
               have hbw : Below wq.heap.size wq w' := (below_drewN (Below.refl _ _) 1).trans hB
               obtain ⟨vx0, gx0, ex0⟩ := hdep ⟨4, .data⟩ (by simp) rfl
               have gx0 := gx0 113 rfl (by simp)
               obtain rfl : vx0 = .pointer (some ⟨b2, o2 + n * 8, none⟩) := ex0
               clear hdep hoth
               go_simp
               exact hK _ _ (Below.refl _ _) rfl
              ·intro a' w' hB hdep hoth K hK
               rw [if_pos (guard_none rfl)]
               have hbw : Below wq.heap.size wq w' := (below_drewN (Below.refl _ _) 1).trans hB
               obtain ⟨vx0, gx0, ex0⟩ := hdep ⟨5, .data⟩ (by simp) rfl
               have gx0 := gx0 114 rfl (by simp)
               obtain rfl : vx0 = .pointer (some ⟨b2, o2 + n * 8, none⟩) := ex0
               have g0 := cell_below HK0.out hbw
               have l3 : b2 < w'.heap.size := Nat.lt_of_lt_of_le hl2 hbw.size
               clear hdep hoth
               go_simp
               exact hK _ _ (Below.refl _ _) rfl
              ·intro a' w' hB hdep hoth K hK
               rw [if_pos (guard_none rfl)]
               have hbw : Below wq.heap.size wq w' := (below_drewN (Below.refl _ _) 1).trans hB
               obtain ⟨vx0, gx0, ex0⟩ := hdep ⟨0, .data⟩ (by simp) rfl
               have gx0 := gx0 109 rfl (by simp)
               obtain rfl : vx0 = .agg ov := ex0
               obtain ⟨vx1, gx1, ex1⟩ := hdep ⟨6, .data⟩ (by simp) rfl
               have gx1 := gx1 115 rfl (by simp)
               obtain rfl : vx1 = .int .i64 k.id := ex1
               have HA := hid (HFD.out _ hbw)
               clear hdep hoth
               go_simp
               refine HA.out.mono ?_
               rintro e w'' ⟨rfl, hb⟩
               exact hK _ _ hb rfl
              ·intro a' w' hB hdep hoth K hK
               rw [if_pos (guard_none rfl)]
               have hbw : Below wq.heap.size wq w' := (below_drewN (Below.refl _ _) 1).trans hB
               obtain ⟨vx0, gx0, ex0⟩ := hdep ⟨7, .data⟩ (by simp) rfl
               have gx0 := gx0 116 rfl (by simp)
               obtain rfl : vx0 = .int .i64 r := ex0
               clear hdep hoth
               go_simp
               exact hK _ _ (Below.refl _ _) rfl
              ·intro a' w' hB hdep hoth K hK
               rw [if_pos (guard_none rfl)]
               have hbw : Below wq.heap.size wq w' := (below_drewN (Below.refl _ _) 1).trans hB
               have t13 := hoth 13 (notDst_at (by kernel_rfl))
               simp only [List.getElem?_toArray, List.getElem?_cons_succ, List.getElem?_cons_zero] at t13
               clear hdep hoth
               go_simp
               exact hK _ _ (Below.refl _ _) rfl
              ·intro a' w' hB hdep hoth K hK
               rw [if_pos (guard_none rfl)]
               have hbw : Below wq.heap.size wq w' := (below_drewN (Below.refl _ _) 1).trans hB
               obtain ⟨vx0, gx0, ex0⟩ := hdep ⟨9, .data⟩ (by simp) rfl
               have gx0 := gx0 118 rfl (by simp)
               obtain rfl : vx0 = .bool true := ex0
               clear hdep hoth
               go_simp
               exact hK _ _ (Below.refl _ _) rfl
              ·intro a' w' hB hdep hoth K hK
               obtain ⟨vg, gg, eg⟩ := hdep ⟨10, .guard⟩ (by simp) rfl
               have gg := gg 119 rfl (by simp)
               obtain rfl : vg = .bool true := eg
               rw [guard_is rfl rfl gg]
               rw [if_neg (by decide)]
               exact hK _ _ (Below.refl _ _) rfl
              ·intro a' w' hB hdep hoth K hK
               obtain ⟨vg, gg, eg⟩ := hdep ⟨10, .guard⟩ (by simp) rfl
               have gg := gg 119 rfl (by simp)
               obtain rfl : vg = .bool true := eg
               rw [guard_is rfl rfl gg]
               rw [if_neg (by decide)]
               exact hK _ _ (Below.refl _ _) rfl
              ·intro a' w' hB hdep hoth K hK
               obtain ⟨vg, gg, eg⟩ := hdep ⟨10, .guard⟩ (by simp) rfl
               have gg := gg 119 rfl (by simp)
               obtain rfl : vg = .bool true := eg
               rw [guard_is rfl rfl gg]
               rw [if_neg (by decide)]
               exact hK _ _ (Below.refl _ _) rfl
              ·intro a' w' hB hdep hoth K hK
               obtain ⟨vg, gg, eg⟩ := hdep ⟨10, .guard⟩ (by simp) rfl
               have gg := gg 119 rfl (by simp)
               obtain rfl : vg = .bool true := eg
               rw [guard_is rfl rfl gg]
               rw [if_neg (by decide)]
               exact hK _ _ (Below.refl _ _) rfl
              ·intro a' w' hB hdep hoth K hK
               obtain ⟨vg, gg, eg⟩ := hdep ⟨10, .guard⟩ (by simp) rfl
               have gg := gg 119 rfl (by simp)
               obtain rfl : vg = .bool true := eg
               rw [guard_is rfl rfl gg]
               rw [if_neg (by decide)]
               exact hK _ _ (Below.refl _ _) rfl
              ·intro a' w' hB hdep hoth K hK
               obtain ⟨vg, gg, eg⟩ := hdep ⟨10, .guard⟩ (by simp) rfl
               have gg := gg 119 rfl (by simp)
               obtain rfl : vg = .bool true := eg
               rw [guard_is rfl rfl gg]
               rw [if_neg (by decide)]
               exact hK _ _ (Below.refl _ _) rfl
              ·intro a' w' hB hdep hoth K hK
               obtain ⟨vg, gg, eg⟩ := hdep ⟨10, .guard⟩ (by simp) rfl
               have gg := gg 119 rfl (by simp)
               obtain rfl : vg = .bool true := eg
               rw [guard_is rfl rfl gg]
               rw [if_neg (by decide)]
               exact hK _ _ (Below.refl _ _) rfl
              ·intro a' w' hB hdep hoth K hK
               obtain ⟨vg, gg, eg⟩ := hdep ⟨10, .guard⟩ (by simp) rfl
               have gg := gg 119 rfl (by simp)
               obtain rfl : vg = .bool true := eg
               rw [guard_is rfl rfl gg]
               rw [if_neg (by decide)]
               exact hK _ _ (Below.refl _ _) rfl
              ·intro a' w' hB hdep hoth K hK
               rw [if_pos (guard_none rfl)]
               have hbw : Below wq.heap.size wq w' := (below_drewN (Below.refl _ _) 1).trans hB
               obtain ⟨vx0, gx0, ex0⟩ := hdep ⟨10, .data⟩ (by simp) rfl
               have gx0 := gx0 119 rfl (by simp)
               obtain rfl : vx0 = .bool true := ex0
               clear hdep hoth
               go_simp
               exact hK _ _ (Below.refl _ _) rfl
              ·intro a' w' hB hdep hoth K hK
               rw [if_pos (guard_none rfl)]
               have hbw : Below wq.heap.size wq w' := (below_drewN (Below.refl _ _) 1).trans hB
               obtain ⟨vx0, gx0, ex0⟩ := hdep ⟨8, .data⟩ (by simp) rfl
               have gx0 := gx0 117 rfl (by simp)
               obtain rfl : vx0 = .bool true := ex0
               obtain ⟨vx1, gx1, ex1⟩ := hdep ⟨19, .data⟩ (by simp) rfl
               have gx1 := gx1 128 rfl (by simp)
               obtain rfl : vx1 = .bool true := ex1
               clear hdep hoth
               go_simp
               exact hK _ _ (Below.refl _ _) rfl
             case fin21 =>
              intro vs w' hB hs
              have hbw : Below wq.heap.size wq w' := (below_drewN (Below.refl _ _) 1).trans hB
              have e20 : vs 20 = .bool false := hs 20 (by decide)
              clear hs
              simp only [actOf, dstAt, if_true, List.getElem?_toArray, List.getElem?_cons_succ, List.getElem?_cons_zero, Option.bind_some, Act.put, List.setIfInBounds_toArray, List.set_cons_zero, List.set_cons_succ, List.length_cons, List.length_nil, Nat.reduceAdd]
              rw [e20]
              clear e20 hB
              have HBE := hid hbw
              clear hbw
              go_wp2
              go_roundw
              case rel => exact ⟨n + 1, by omega, by go_num, HBr2.out.trans ((HBQ.out.trans (HBE.out.mono HBQ.out.size)).mono HBr2.out.size)⟩
              case measure => simp [intOf]; omega
            | false =>
             by_cases hsn : now ≤ k.since
             ·have ds : decide (now ≤ k.since) = true := decide_eq_true hsn
              have dr : decide (0 ≤ r) = true := decide_eq_true (HFO.out.2 (.inr hsn))
              clear hsn
              have HALL := hid (show ∀ W, Below wq.heap.size wq W → Below wq.heap.size wq W ∧ W.cell? ⟨w.heap.size + 1, 19, none⟩ = some (.slice (some ⟨b2, o2, none⟩) B.K.length kc) ∧ W.cell? ⟨b2, o2 + n * 8, none⟩ = some (.int .i64 k.id) ∧ W.cell? ⟨b2, o2 + n * 8 + 5, none⟩ = some (.int .i64 k.since) ∧ (loadVar 33 ⟨T10, 0, none⟩).run Tryz.prog W = .ok (.agg ov) W from fun W hb => ⟨hb, cell_below b19 hb, cell_below k0 hb, cell_below k5 hb, (OQ.out.below hb).load⟩)
              have HFD := hid (fun (W : World) (hb : Below wq.heap.size wq W) => rfind13_at O (.agg ov) k.id r HRR.out W (OQ.out.below hb).is)
              go_wp2_with fail
              clear b19 k0 k5
              go_region_held3 (fun W => Below wq.heap.size wq W ∧ W.cell? ⟨w.heap.size + 1, 19, none⟩ = some (.slice (some ⟨b2, o2, none⟩) B.K.length kc) ∧ W.cell? ⟨b2, o2 + n * 8, none⟩ = some (.int .i64 k.id) ∧ W.cell? ⟨b2, o2 + n * 8 + 5, none⟩ = some (.int .i64 k.since) ∧ (loadVar 33 ⟨T10, 0, none⟩).run Tryz.prog W = .ok (.agg ov) W) (first | exact HALL.out _ (below_drewN (Below.refl _ _) 1) | (go_split_ands; exact HALL.out _ (below_call (by assumption) hbt1))) ((go_at_call 13; go_split_ands; refine (HFD.out _ (by assumption)).mono ?_; rintro e x1 ⟨rfl, hbt1⟩))
              go_split_ands
              have HBE := hid (show Below wq.heap.size wq x1 by assumption)
              go_wp2
              go_roundw
              case rel => exact ⟨n + 1, by omega, by go_num, HBr2.out.trans ((HBQ.out.trans (HBE.out.mono HBQ.out.size)).mono HBr2.out.size)⟩
              case measure => simp [intOf]; omega
             ·have ds : decide (now ≤ k.since) = false := decide_eq_false hsn
              have dr : decide (0 ≤ r) = false := decide_eq_false (fun h => (HFO.out.1 h).elim (fun h => by cases h) hsn)
              clear hsn
              have HALL := hid (show ∀ W, Below wq.heap.size wq W → Below wq.heap.size wq W ∧ W.cell? ⟨w.heap.size + 1, 19, none⟩ = some (.slice (some ⟨b2, o2, none⟩) B.K.length kc) ∧ W.cell? ⟨b2, o2 + n * 8, none⟩ = some (.int .i64 k.id) ∧ W.cell? ⟨b2, o2 + n * 8 + 5, none⟩ = some (.int .i64 k.since) ∧ (loadVar 33 ⟨T10, 0, none⟩).run Tryz.prog W = .ok (.agg ov) W from fun W hb => ⟨hb, cell_below b19 hb, cell_below k0 hb, cell_below k5 hb, (OQ.out.below hb).load⟩)
              have HFD := hid (fun (W : World) (hb : Below wq.heap.size wq W) => rfind13_at O (.agg ov) k.id r HRR.out W (OQ.out.below hb).is)
              go_wp2_with fail
              clear b19 k0 k5
              go_region_held3 (fun W => Below wq.heap.size wq W ∧ W.cell? ⟨w.heap.size + 1, 19, none⟩ = some (.slice (some ⟨b2, o2, none⟩) B.K.length kc) ∧ W.cell? ⟨b2, o2 + n * 8, none⟩ = some (.int .i64 k.id) ∧ W.cell? ⟨b2, o2 + n * 8 + 5, none⟩ = some (.int .i64 k.since) ∧ (loadVar 33 ⟨T10, 0, none⟩).run Tryz.prog W = .ok (.agg ov) W) (first | exact HALL.out _ (below_drewN (Below.refl _ _) 1) | (go_split_ands; exact HALL.out _ (below_call (by assumption) hbt1))) ((go_at_call 13; go_split_ands; refine (HFD.out _ (by assumption)).mono ?_; rintro e x1 ⟨rfl, hbt1⟩))
              go_split_ands
              have HBE := hid (show Below wq.heap.size wq x1 by assumption)
              go_wp2
              go_roundw
              case rel => exact ⟨n + 1, by omega, by go_num, HBr2.out.trans ((HBQ.out.trans (HBE.out.mono HBQ.out.size)).mono HBr2.out.size)⟩
              case measure => simp [intOf]; omega
         ·obtain rfl : n = B.K.length := by omega
          obtain ⟨s0, s1, s2, s3, sf, sl⟩ := blk4 S2.out
          have hld := O2.out.load
          have ol := O2.out.lt
          have HRC := hid (reap_any O ov false now beh now (.slice sa L.length sc) L wr O2.out.is R2.out HOF.out HL60.out HOM.out (HC.out.below M2.out.bel) (HL.out.below M2.out.bel))
          go_wp2_with fail
          refine HRC.out.mono ?_
          rintro e W11 ⟨lv, rfl, hrl, hb⟩
          rw [rec_nil HGN.out HKP.out.2.2] at hrl
          obtain ⟨la, lc, rfl⟩ := recsL_nil hrl
          have M11 := hid (M2.out.below hb)
          have O11 := hid (O2.out.below hb)
          clear hb hrl hld ol s0 s1 s2 s3 sf sl HRC bf0 bf1 bf20 bl b19 brow
          have hld := O11.out.load
          have ol := O11.out.lt
          go_wp2_with fail
          refine (rright_is true (rightP_iff.2 HOR.out) O11.out.is).mono ?_
          rintro e W12 ⟨rfl, hb⟩
          have M12 := hid (M11.out.below hb)
          clear hb hld ol
          go_wp2_with fail
          refine (HWK.out _ M12.out.bel).mono ?_
          rintro e Wz ⟨rfl, hb⟩
          have HBz := hid (Below.trans M12.out.bel (hb.mono M12.out.bel.size))
          clear hb
          go_wp2
          go_ret
          exact ⟨rfl, HBz.out⟩
end Go.Proofs.YtgcajfglidflnaaGreatDoor
