/- The walk of CallClose at calls that may be. -/
import Derived.Test.YtmphehlpakoheaaCs0
namespace Go.Proofs.Ytmphehlpakoheaa
open Go.RowKit Go.Shelf

set_option maxHeartbeats 8000000 in
set_option maxRecDepth 100000 in
theorem close_good (C : CallsV) (v : Value) (at' now : Int) (w : World) (hl : C.opens.length ≤ 60) (hwf : ∀ x ∈ C.opens, x.wf) (hC : rightB C = true) (hn0 : 0 < C.opens.length) (hnx : C.next < 1048576) (h0 : 0 ≤ now) (h1 : now ≤ 1099511627776) (hr : Row12 w v C.opens) :
    Calls Try.prog 3 #[calls C.epoch C.next v, .int .i64 at', .int .i64 now] w fun e w' => e = .returned (.bool true) ∧ Below w.heap.size w w' := by
  have HR := hid hr
  have HWF := hid hwf
  have HC := hid hC
  obtain ⟨ca, cc, rfl, hl1, hl2, hl3, hop⟩ := hr.open
  obtain ⟨b, off, rfl, hb, hrow0⟩ := hop hn0
  have HROW := hid hrow0
  obtain ⟨j, hj, hpk⟩ := pick_idx at' C.opens.length hn0 (by omega)
  obtain ⟨x, hx⟩ := get_lt hj
  obtain ⟨D, hD⟩ : ∃ D, D = C.opens.eraseIdx j := ⟨_, rfl⟩
  have HD := hid hD
  have hDl : (D.length : Int) = (C.opens.length : Int) - 1 := by rw [hD]; exact close_len hj
  have HXX := hid hx
  have d0 : decide ((60 : Int) < (C.opens.length : Int)) = false := by simp; omega
  have d1 : ((C.opens.length : Int) == 0) = false := by rw [beq_eq_false_iff_ne]; omega
  have d2 : decide (1048576 ≤ C.next) = false := by simp; omega
  have d3 : decide (now < 0) = false := by simpa using h0
  have d4 : decide (1099511627776 < now) = false := by simpa using h1
  have CL : Hid (∀ W, Row12 W (.slice (some ⟨b, off, none⟩) C.opens.length cc) C.opens → Calls Try.prog 11 #[calls C.epoch C.next (.slice (some ⟨b, off, none⟩) C.opens.length cc), .int .i64 x.id] W fun e w' => ∃ a c, e = .returned (.agg #[.int .i64 C.epoch, .int .i64 C.next, .slice a D.length c]) ∧ Row12 w' (.slice a D.length c) D ∧ Below W.heap.size W w') := hid (fun W hr => by rw [hD]; exact cs_close1 C _ j x W hC hx hr hl)
  have HAD : Hid (hasB D x.kind x.key = false) := hid (by rw [hD]; exact close_had hC hx)
  have HAC : Hid (hasB C.opens x.kind x.key = true) := hid (hasB_at hx rfl rfl)
  have HRD : Hid (rightB ⟨C.epoch, C.next, D⟩ = true) := hid (by rw [hD]; exact close_right hC hx)
  have HOE : Hid (openErr ⟨C.epoch, C.next, D⟩ x.kind x.key now = 0) := hid (by rw [hD]; exact close_open hC hx hnx h0 h1)
  have HID := hid (close_id hC hx)
  clear hop hr hwf hC hrow0 hx hD
  have B0 := hid (heap_new w (.cells #[.int .i64 C.epoch, .int .i64 C.next, .slice (some ⟨b, off, none⟩) C.opens.length cc] 24))
  have Z0 : Below w.heap.size w (w.alloc (.cells #[.int .i64 C.epoch, .int .i64 C.next, .slice (some ⟨b, off, none⟩) C.opens.length cc] 24)) := (Below.refl _ _).alloc (Nat.le_refl _) _
  have Z := hid Z0
  replace HR := hid (RowOf.below HR.out Z0)
  clear Z0
  unfold calls
  go_enter Try.func3, Try.ntmps3
  obtain ⟨b00, b01, b02, b0f, b0l⟩ := blk3 B0.out
  go_wp2_with fail
  clear b00 b01 b02 b0f b0l
  refine (lt_great C _ _ _ _ _ d0).mono ?_
  rintro e v1 ⟨he, hb⟩
  subst he
  have hz := hb.size
  replace B0 := hid (blk_below B0.out hb (blk_lt B0.out))
  have hq : Below (w.alloc (.cells #[.int .i64 C.epoch, .int .i64 C.next, .slice (some ⟨b, off, none⟩) C.opens.length cc] 24)).heap.size (w.alloc (.cells #[.int .i64 C.epoch, .int .i64 C.next, .slice (some ⟨b, off, none⟩) C.opens.length cc] 24)) v1 := hb
  replace HR := hid (RowOf.below HR.out hq)
  replace Z := hid (Z.out.trans (hq.mono Z.out.size))
  clear hb hz hq
  obtain ⟨b00, b01, b02, b0f, b0l⟩ := blk3 B0.out
  go_wp2_with fail
  clear b00 b01 b02 b0f b0l
  refine (lt_right C _ _ _ HC.out HWF.out HR.out hl).mono ?_
  rintro e v2 ⟨he, hb⟩
  subst he
  have hz := hb.size
  replace B0 := hid (blk_below B0.out hb (blk_lt B0.out))
  have hq : Below v1.heap.size v1 v2 := hb
  replace HR := hid (RowOf.below HR.out hq)
  replace Z := hid (Z.out.trans (hq.mono Z.out.size))
  clear hb hz hq
  obtain ⟨b00, b01, b02, b0f, b0l⟩ := blk3 B0.out
  go_wp2_with fail
  clear b00 b01 b02 b0f b0l
  have hz0 : (C.opens.length : Int) ≠ 0 := by omega
  have hj' : (j : Int) < (C.opens.length : Int) := by omega
  obtain ⟨b00, b01, b02, b0f, b0l⟩ := blk3 B0.out
  go_quiet (fail)
  clear b00 b01 b02 b0f b0l
  obtain ⟨v3, hdrew⟩ : ∃ W : World, W = v2.drewN nq := ⟨_, rfl⟩
  have hq : Below v2.heap.size v2 v3 := by rw [hdrew]; exact below_drewN (Below.refl _ _) _
  rw [← hdrew]
  replace B0 := hid (blk_below B0.out hq (blk_lt B0.out))
  replace HR := hid (RowOf.below HR.out hq)
  replace Z := hid (Z.out.trans (hq.mono Z.out.size))
  clear hq hdrew
  obtain ⟨g0, g1, g2, g3⟩ := row4 (RowAt.below HROW.out Z.out hb) HXX.out
  have hbz : b < v3.heap.size := by have := Z.out.size; omega
  obtain ⟨b00, b01, b02, b0f, b0l⟩ := blk3 B0.out
  go_wp2_with fail
  clear b00 b01 b02 b0f b0l
  clear g0 g1 g2 g3 hbz
  refine (CL.out _ (RowOf.below HR.out ((Below.refl _ _).alloc (Nat.le_refl _) _))).mono ?_
  rintro e v4 ⟨da, dc, he, hrd, hb⟩
  subst he
  have hz := hb.size
  simp only [World.size_alloc] at hz
  replace B0 := hid (blk_below (blk_alloc B0.out _) hb (by have := blk_lt B0.out; simp; omega))
  have X0 := hid (blk_below (heap_new v3 _) hb (by simp))
  have hq : Below v3.heap.size v3 v4 := ((Below.refl _ _).alloc (Nat.le_refl _) _).trans (hb.mono (by simp))
  replace HR := hid (RowOf.below HR.out hq)
  have RD := hid hrd
  replace Z := hid (Z.out.trans (hq.mono Z.out.size))
  clear hb hz hq hrd
  obtain ⟨b00, b01, b02, b0f, b0l⟩ := blk3 B0.out
  obtain ⟨x00, x01, x02, x03, x0f, x0l⟩ := blk4 X0.out
  go_wp2_with fail
  clear b00 b01 b02 b0f b0l
  clear x00 x01 x02 x03 x0f x0l
  refine (cs_has ⟨C.epoch, C.next, D⟩ _ x.kind x.key false _ (RowOf.below RD.out ((Below.refl _ _).alloc (Nat.le_refl _) _)) (by simp only; omega) HAD.out).mono ?_
  rintro e v5 ⟨he, hb⟩
  subst he
  have hz := hb.size
  simp only [World.size_alloc] at hz
  replace B0 := hid (blk_below (blk_alloc B0.out _) hb (by have := blk_lt B0.out; simp; omega))
  replace X0 := hid (blk_below (blk_alloc X0.out _) hb (by have := blk_lt X0.out; simp; omega))
  have D0 := hid (blk_below (heap_new v4 _) hb (by simp))
  have hq : Below v4.heap.size v4 v5 := ((Below.refl _ _).alloc (Nat.le_refl _) _).trans (hb.mono (by simp))
  replace HR := hid (RowOf.below HR.out hq)
  replace RD := hid (RowOf.below RD.out hq)
  replace Z := hid (Z.out.trans (hq.mono Z.out.size))
  clear hb hz hq
  obtain ⟨b00, b01, b02, b0f, b0l⟩ := blk3 B0.out
  obtain ⟨x00, x01, x02, x03, x0f, x0l⟩ := blk4 X0.out
  obtain ⟨d00, d01, d02, d0f, d0l⟩ := blk3 D0.out
  go_wp2_with fail
  clear b00 b01 b02 b0f b0l
  clear x00 x01 x02 x03 x0f x0l
  clear d00 d01 d02 d0f d0l
  refine (cs_has C _ x.kind x.key true _ HR.out hl HAC.out).mono ?_
  rintro e v6 ⟨he, hb⟩
  subst he
  have hz := hb.size
  replace B0 := hid (blk_below B0.out hb (blk_lt B0.out))
  replace X0 := hid (blk_below X0.out hb (blk_lt X0.out))
  replace D0 := hid (blk_below D0.out hb (blk_lt D0.out))
  have hq : Below v5.heap.size v5 v6 := hb
  replace HR := hid (RowOf.below HR.out hq)
  replace RD := hid (RowOf.below RD.out hq)
  replace Z := hid (Z.out.trans (hq.mono Z.out.size))
  clear hb hz hq
  obtain ⟨b00, b01, b02, b0f, b0l⟩ := blk3 B0.out
  obtain ⟨x00, x01, x02, x03, x0f, x0l⟩ := blk4 X0.out
  obtain ⟨d00, d01, d02, d0f, d0l⟩ := blk3 D0.out
  go_wp2_with fail
  clear b00 b01 b02 b0f b0l
  clear x00 x01 x02 x03 x0f x0l
  clear d00 d01 d02 d0f d0l
  obtain ⟨wo, hwo⟩ : ∃ wo : World, wo = v6 := ⟨_, rfl⟩
  rw [← hwo] at B0 X0 D0 HR RD Z
  rw [← hwo]
  clear hwo
  obtain ⟨da', dc', hde, hd1, hd2, hd3, hdop⟩ := RD.out.open
  cases hde
  have HDOP := hid hdop
  clear hdop
  go_loopw [9, 10] (fun i kk wr => ∃ m : Nat, i = .int .i64 m ∧ m ≤ D.length ∧ Below wo.heap.size wo wr) (fun i _ _ => D.length - (intOf i).toNat)
  case atStart => exact ⟨0, rfl, Nat.zero_le _, Below.refl _ _⟩
  case round =>
    obtain ⟨m, rfl, hm, hB⟩ := hrel
    have HB := hid hB
    clear hB
    have HBZ := hid (Z.out.trans (HB.out.mono Z.out.size))
    by_cases hlt : m < D.length
    · obtain ⟨b', off', rfl, hb', hrow'⟩ := HDOP.out (by omega)
      obtain ⟨y, hy⟩ := get_lt hlt
      obtain ⟨e0, e1, e2, e3⟩ := row4 (hrow'.below HB.out hb') hy
      have HY := hid hy
      have hm' : (m : Int) < (D.length : Int) := by omega
      have hne := neq_run y y
      rw [sameX_iff.2 rfl] at hne
      have hB1 : b < wr.heap.size := by have := HBZ.out.size; omega
      have hB2 : b' < wr.heap.size := by have := HB.out.size; omega
      clear hy hrow'
      obtain ⟨b00, b01, b02, b0f, b0l⟩ := blk3 (blk_below B0.out HB.out (blk_lt B0.out))
      obtain ⟨d00, d01, d02, d0f, d0l⟩ := blk3 (blk_below D0.out HB.out (blk_lt D0.out))
      by_cases hmj : m < j
      · have hge : decide (j ≤ m) = false := by simp; omega
        have hge' : ¬ j ≤ m := by omega
        have hy1 : C.opens[m]? = some y := by rw [← close_lo hmj, ← HD.out]; exact HY.out
        obtain ⟨g0, g1, g2, g3⟩ := row4 (RowAt.below HROW.out HBZ.out hb) hy1
        have hmc : (m : Int) < (C.opens.length : Int) := by omega
        clear hy1 hmj
        go_wp2_with fail
        go_quiet (fail)
        go_wp2
        go_roundw
        case rel => exact ⟨m + 1, by go_num, by omega, below_drewN HB.out _⟩
        case measure => simp [intOf]; omega
      · have hge : decide (j ≤ m) = true := by simp; omega
        have hge' : j ≤ m := by omega
        obtain ⟨mk, hmk⟩ : ∃ mk : Nat, m + 1 = mk := ⟨_, rfl⟩
        have hy1 : C.opens[mk]? = some y := by rw [← hmk, ← close_hi hmj, ← HD.out]; exact HY.out
        obtain ⟨g0, g1, g2, g3⟩ := row4 (RowAt.below HROW.out HBZ.out hb) hy1
        have hmc : (mk : Int) < (C.opens.length : Int) := by omega
        have HMK := hid (show (m : Int) + 1 = (mk : Int) by omega)
        clear hy1 hmj hmk
        go_wp2_with fail
        rw [HMK.out]
        go_quiet (fail)
        go_wp2
        go_roundw
        case rel => exact ⟨m + 1, by go_num, by omega, below_drewN HB.out _⟩
        case measure => simp [intOf]; omega
    · replace B0 := hid (blk_below B0.out HB.out (blk_lt B0.out))
      replace D0 := hid (blk_below D0.out HB.out (blk_lt D0.out))
      replace X0 := hid (blk_below X0.out HB.out (blk_lt X0.out))
      replace HR := hid (RowOf.below HR.out HB.out)
      replace RD := hid (RowOf.below RD.out HB.out)
      clear Z
      have Z := HBZ
      have hml : decide ((m : Int) < (D.length : Int)) = false := by simp; omega
      obtain ⟨b00, b01, b02, b0f, b0l⟩ := blk3 B0.out
      obtain ⟨x00, x01, x02, x03, x0f, x0l⟩ := blk4 X0.out
      obtain ⟨d00, d01, d02, d0f, d0l⟩ := blk3 D0.out
      go_wp2_with fail
      clear b00 b01 b02 b0f b0l
      clear x00 x01 x02 x03 x0f x0l
      clear d00 d01 d02 d0f d0l
      refine (cs_open_ok ⟨C.epoch, C.next, D⟩ _ x.kind x.key now _ RD.out (by simp only; omega) HOE.out).mono ?_
      rintro e v7 ⟨oa, oc, he, hod, hb⟩
      simp only [calls] at he
      subst he
      have hz := hb.size
      replace B0 := hid (blk_below B0.out hb (blk_lt B0.out))
      replace X0 := hid (blk_below X0.out hb (blk_lt X0.out))
      replace D0 := hid (blk_below D0.out hb (blk_lt D0.out))
      have hq : Below wr.heap.size wr v7 := hb
      replace HR := hid (RowOf.below HR.out hq)
      replace RD := hid (RowOf.below RD.out hq)
      have OD := hid hod
      replace Z := hid (Z.out.trans (hq.mono Z.out.size))
      clear hb hz hq hod
      obtain ⟨b00, b01, b02, b0f, b0l⟩ := blk3 B0.out
      obtain ⟨x00, x01, x02, x03, x0f, x0l⟩ := blk4 X0.out
      obtain ⟨d00, d01, d02, d0f, d0l⟩ := blk3 D0.out
      go_wp2_with fail
      clear b00 b01 b02 b0f b0l
      clear x00 x01 x02 x03 x0f x0l
      clear d00 d01 d02 d0f d0l
      refine (cs_open_had C _ j x now _ HXX.out (RowOf.below HR.out ((Below.refl _ _).alloc (Nat.le_refl _) _)) hl).mono ?_
      rintro e v8 ⟨fa, fc, he, hb⟩
      simp only [calls] at he
      subst he
      have hz := hb.size
      simp only [World.size_alloc] at hz
      replace B0 := hid (blk_below (blk_alloc B0.out _) hb (by have := blk_lt B0.out; simp; omega))
      replace X0 := hid (blk_below (blk_alloc X0.out _) hb (by have := blk_lt X0.out; simp; omega))
      replace D0 := hid (blk_below (blk_alloc D0.out _) hb (by have := blk_lt D0.out; simp; omega))
      have O0 := hid (blk_below (heap_new v7 _) hb (by simp))
      have hq : Below v7.heap.size v7 v8 := ((Below.refl _ _).alloc (Nat.le_refl _) _).trans (hb.mono (by simp))
      replace HR := hid (RowOf.below HR.out hq)
      replace RD := hid (RowOf.below RD.out hq)
      replace OD := hid (Owns.below OD.out hq)
      replace Z := hid (Z.out.trans (hq.mono Z.out.size))
      clear hb hz hq
      obtain ⟨b00, b01, b02, b0f, b0l⟩ := blk3 B0.out
      obtain ⟨x00, x01, x02, x03, x0f, x0l⟩ := blk4 X0.out
      obtain ⟨d00, d01, d02, d0f, d0l⟩ := blk3 D0.out
      obtain ⟨o00, o01, o02, o0f, o0l⟩ := blk3 O0.out
      go_wp2_with fail
      clear b00 b01 b02 b0f b0l
      clear x00 x01 x02 x03 x0f x0l
      clear d00 d01 d02 d0f d0l
      clear o00 o01 o02 o0f o0l
      refine (cs_find ⟨C.epoch, C.next, D⟩ _ x.kind x.key now _ HRD.out (RowOf.below (own12_row OD.out) ((Below.refl _ _).alloc (Nat.le_refl _) _)) (by simp only; omega)).mono ?_
      rintro e v9 ⟨he, hb⟩
      simp only [encS, newX] at he
      subst he
      have hz := hb.size
      simp only [World.size_alloc] at hz
      replace B0 := hid (blk_below (blk_alloc B0.out _) hb (by have := blk_lt B0.out; simp; omega))
      replace X0 := hid (blk_below (blk_alloc X0.out _) hb (by have := blk_lt X0.out; simp; omega))
      replace D0 := hid (blk_below (blk_alloc D0.out _) hb (by have := blk_lt D0.out; simp; omega))
      replace O0 := hid (blk_below (blk_alloc O0.out _) hb (by have := blk_lt O0.out; simp; omega))
      have hq : Below v8.heap.size v8 v9 := ((Below.refl _ _).alloc (Nat.le_refl _) _).trans (hb.mono (by simp))
      replace HR := hid (RowOf.below HR.out hq)
      replace RD := hid (RowOf.below RD.out hq)
      replace OD := hid (Owns.below OD.out hq)
      replace Z := hid (Z.out.trans (hq.mono Z.out.size))
      clear hb hz hq
      have f1 := HID.out
      have f2 : (now == now) = true := by simp
      obtain ⟨b00, b01, b02, b0f, b0l⟩ := blk3 B0.out
      obtain ⟨x00, x01, x02, x03, x0f, x0l⟩ := blk4 X0.out
      obtain ⟨d00, d01, d02, d0f, d0l⟩ := blk3 D0.out
      obtain ⟨o00, o01, o02, o0f, o0l⟩ := blk3 O0.out
      go_wp2_with fail
      clear b00 b01 b02 b0f b0l
      clear x00 x01 x02 x03 x0f x0l
      clear d00 d01 d02 d0f d0l
      clear o00 o01 o02 o0f o0l
      refine (cs_right ⟨C.epoch, C.next + 1, D ++ [newX ⟨C.epoch, C.next, D⟩ x.kind x.key now]⟩ _ _ (open_right HRD.out HOE.out) (RowOf.below (own12_row OD.out) ((Below.refl _ _).alloc (Nat.le_refl _) _)) (by simp; omega)).mono ?_
      rintro e v10 ⟨he, hb⟩
      subst he
      have hz := hb.size
      simp only [World.size_alloc] at hz
      replace B0 := hid (blk_below (blk_alloc B0.out _) hb (by have := blk_lt B0.out; simp; omega))
      replace X0 := hid (blk_below (blk_alloc X0.out _) hb (by have := blk_lt X0.out; simp; omega))
      replace D0 := hid (blk_below (blk_alloc D0.out _) hb (by have := blk_lt D0.out; simp; omega))
      replace O0 := hid (blk_below (blk_alloc O0.out _) hb (by have := blk_lt O0.out; simp; omega))
      have hq : Below v9.heap.size v9 v10 := ((Below.refl _ _).alloc (Nat.le_refl _) _).trans (hb.mono (by simp))
      replace HR := hid (RowOf.below HR.out hq)
      replace RD := hid (RowOf.below RD.out hq)
      replace OD := hid (Owns.below OD.out hq)
      replace Z := hid (Z.out.trans (hq.mono Z.out.size))
      clear hb hz hq
      obtain ⟨b00, b01, b02, b0f, b0l⟩ := blk3 B0.out
      obtain ⟨x00, x01, x02, x03, x0f, x0l⟩ := blk4 X0.out
      obtain ⟨d00, d01, d02, d0f, d0l⟩ := blk3 D0.out
      obtain ⟨o00, o01, o02, o0f, o0l⟩ := blk3 O0.out
      go_wp2_with fail
      clear b00 b01 b02 b0f b0l
      clear x00 x01 x02 x03 x0f x0l
      clear d00 d01 d02 d0f d0l
      clear o00 o01 o02 o0f o0l
      refine (wakes_any _).mono ?_
      rintro e v11 ⟨he, hb⟩
      subst he
      have hz := hb.size
      replace B0 := hid (blk_below B0.out hb (blk_lt B0.out))
      replace X0 := hid (blk_below X0.out hb (blk_lt X0.out))
      replace D0 := hid (blk_below D0.out hb (blk_lt D0.out))
      replace O0 := hid (blk_below O0.out hb (blk_lt O0.out))
      have hq : Below v10.heap.size v10 v11 := hb
      replace HR := hid (RowOf.below HR.out hq)
      replace RD := hid (RowOf.below RD.out hq)
      replace OD := hid (Owns.below OD.out hq)
      replace Z := hid (Z.out.trans (hq.mono Z.out.size))
      clear hb hz hq
      go_wp2
      go_ret
      exact ⟨rfl, Z.out⟩
end Go.Proofs.Ytmphehlpakoheaa
