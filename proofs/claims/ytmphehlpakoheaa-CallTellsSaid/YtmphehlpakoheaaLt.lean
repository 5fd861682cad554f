/- The walk of CallLate at calls that may be. -/
import Derived.Test.YtmphehlpakoheaaLt0
import Derived.Deep.RegionHeld3
namespace Go.Proofs.Ytmphehlpakoheaa
open Go.RowKit Go.Shelf

set_option maxHeartbeats 4000000 in
set_option maxRecDepth 100000 in
theorem late_good (C : CallsV) (v : Value) (now tm : Int) (w : World) (hl : C.opens.length ≤ 60) (hwf : ∀ x ∈ C.opens, x.wf) (hC : rightB C = true) (h0 : 0 ≤ now) (h1 : now ≤ 1099511627776) (h2 : 0 ≤ tm) (h3 : tm ≤ 1099511627776) (hr : Row12 w v C.opens) :
    Calls Try.prog 6 #[calls C.epoch C.next v, .int .i64 now, .int .i64 tm] w fun e w' => e = .returned (.bool true) ∧ Below w.heap.size w w' := by
  have HR := hid hr
  have HWF := hid hwf
  have HC := hid hC
  obtain ⟨ca, cc, rfl, hl1, hl2, hl3, hop⟩ := hr.open
  have HOP := hid hop
  have hsent := right_sent hC
  have HSE := hid hsent
  clear hop hr hwf hC hsent
  have d0 : decide ((60 : Int) < (C.opens.length : Int)) = false := by simp; omega
  have d1 : decide (now < 0) = false := by simpa using h0
  have d2 : decide (1099511627776 < now) = false := by simpa using h1
  have d3 : decide (tm < 0) = false := by simpa using h2
  have d4 : decide (1099511627776 < tm) = false := by simpa using h3
  have B0 := hid (heap_new w (.cells #[.int .i64 C.epoch, .int .i64 C.next, .slice ca C.opens.length cc] 24))
  have Z0 : Below w.heap.size w (w.alloc (.cells #[.int .i64 C.epoch, .int .i64 C.next, .slice ca C.opens.length cc] 24)) := (Below.refl _ _).alloc (Nat.le_refl _) _
  have Z := hid Z0
  replace HR := hid (RowOf.below HR.out Z0)
  clear Z0
  unfold calls
  go_enter Try.func6, Try.ntmps6
  obtain ⟨b00, b01, b02, b0f, b0l⟩ := blk3 B0.out
  go_wp2_with fail
  clear b00 b01 b02 b0f b0l
  refine (lt_great C _ _ _ _ _ d0).mono ?_
  rintro e v1 ⟨he, hb⟩
  subst he
  have hz := hb.size
  replace B0 := hid (blk_below B0.out hb (blk_lt B0.out))
  have hq : Below (w.alloc (.cells #[.int .i64 C.epoch, .int .i64 C.next, .slice ca C.opens.length cc] 24)).heap.size (w.alloc (.cells #[.int .i64 C.epoch, .int .i64 C.next, .slice ca C.opens.length cc] 24)) v1 := hb
  replace HR := hid (RowOf.below HR.out hq)
  replace Z := hid (Z.out.trans (hq.mono Z.out.size))
  clear hb hz hq
  obtain ⟨b00, b01, b02, b0f, b0l⟩ := blk3 B0.out
  go_wp2_with fail
  clear b00 b01 b02 b0f b0l
  refine (lt_right C _ _ _ HC.out HWF.out HR.out hl).mono ?_
  rintro e v2 ⟨he, hb⟩
  subst he
  have hz := hb.size
  replace B0 := hid (blk_below B0.out hb (blk_lt B0.out))
  have hq : Below v1.heap.size v1 v2 := hb
  replace HR := hid (RowOf.below HR.out hq)
  replace Z := hid (Z.out.trans (hq.mono Z.out.size))
  clear hb hz hq
  obtain ⟨b00, b01, b02, b0f, b0l⟩ := blk3 B0.out
  go_wp2_with fail
  clear b00 b01 b02 b0f b0l
  refine (lt_late C _ now tm _ HR.out hl HC.out h0 h1 h2 h3).mono ?_
  rintro e v3 ⟨da, dc, he, hrd, hb⟩
  simp only [calls] at he
  subst he
  have hz := hb.size
  replace B0 := hid (blk_below B0.out hb (blk_lt B0.out))
  have hq : Below v2.heap.size v2 v3 := hb
  replace HR := hid (RowOf.below HR.out hq)
  have RD := hid hrd
  replace Z := hid (Z.out.trans (hq.mono Z.out.size))
  clear hb hz hq hrd
  obtain ⟨b00, b01, b02, b0f, b0l⟩ := blk3 B0.out
  go_wp2_with fail
  clear b00 b01 b02 b0f b0l
  obtain ⟨D, hD⟩ : ∃ D, D = C.opens.filter (keepP now tm) := ⟨_, rfl⟩
  have HD := hid hD
  have hDl : D.length ≤ C.opens.length := by rw [hD]; exact List.length_filter_le _ _
  rw [← hD] at RD
  rw [← hD]
  obtain ⟨da', dc', hde, hd1, hd2, hd3, hdop⟩ := RD.out.open
  cases hde
  have HDOP := hid hdop
  clear hdop hD
  obtain ⟨wo, hwo⟩ : ∃ wo : World, wo = v3.alloc (.cells #[.int .i64 C.epoch, .int .i64 C.next, .slice da D.length dc] 24) := ⟨_, rfl⟩
  have D0 : Hid (wo.heap[v3.heap.size]? = some (.cells #[.int .i64 C.epoch, .int .i64 C.next, .slice da D.length dc] 24)) := hid (by rw [hwo]; exact heap_new v3 _)
  have hq : Below v3.heap.size v3 wo := by rw [hwo]; exact (Below.refl _ _).alloc (Nat.le_refl _) _
  replace B0 := hid (blk_below B0.out hq (blk_lt B0.out))
  have hro := RowOf.below RD.out hq
  have hrc := RowOf.below HR.out hq
  clear RD HR
  have RD := hid hro
  have HR := hid hrc
  replace Z := hid (Z.out.trans (hq.mono Z.out.size))
  have HZD : Hid (v3.heap.size < wo.heap.size) := hid (blk_lt D0.out)
  have HQ := hid hq
  clear hq hro hrc
  rw [← hwo]
  clear hwo
  go_loopw [8, 9] (fun kk i wr => ∃ (k j : Nat), i = .int .i64 j ∧ kk = .int .i64 k ∧ j ≤ C.opens.length ∧ k = ((C.opens.take j).filter (keepP now tm)).length ∧ Below wo.heap.size wo wr) (fun _ i _ => C.opens.length - (intOf i).toNat)
  case atStart => exact ⟨0, 0, rfl, rfl, Nat.zero_le _, by simp, Below.refl _ _⟩
  case round =>
    obtain ⟨k, j, rfl, rfl, hj, hk, hB⟩ := hrel
    have HK := hid hk
    clear hk
    have HB := hid hB
    clear hB
    have E0 := hid (blk_below B0.out HB.out (blk_lt B0.out))
    have F0 := hid (blk_below D0.out HB.out (blk_lt D0.out))
    have HBC := hid (Z.out.trans (HB.out.mono Z.out.size))
    have HBD := hid (HQ.out.trans (HB.out.mono HQ.out.size))
    obtain ⟨b00, b01, b02, b0f, b0l⟩ := blk3 E0.out
    obtain ⟨f00, f01, f02, f0f, f0l⟩ := blk3 F0.out
    have hj64 : (j : Int) + 1 ≤ 61 := by omega
    by_cases hlt : j < C.opens.length
    · obtain ⟨x, hx⟩ := get_lt hlt
      obtain ⟨b, off, rfl, hb, hrow⟩ := HOP.out (by omega)
      obtain ⟨g0, g1, g2, g3⟩ := row4 (hrow.below HBC.out hb) hx
      obtain ⟨hs0, hs1⟩ := HSE.out x (mem_get hx)
      have hw : wrap64 (now - x.sent) = now - x.sent := by unfold wrap64; omega
      have HX := hid hx
      clear hx hrow
      by_cases hp : keepP now tm x = true
      · have hge : decide (tm ≤ now - x.sent) = false := by unfold keepP at hp; simp at hp ⊢; omega
        have hdk : D[k]? = some x := by rw [HD.out, HK.out]; exact filter_at _ _ _ _ HX.out hp
        have hkd : k < D.length := lt_get hdk
        obtain ⟨b', off', rfl, hb', hrow'⟩ := HDOP.out (by omega)
        obtain ⟨e0, e1, e2, e3⟩ := row4 (hrow'.below HBD.out hb') hdk
        have hne := neq_run x x
        rw [sameX_iff.2 rfl] at hne
        have hdl : decide ((D.length : Int) ≤ (k : Int)) = false := by simp; omega
        have hkd' : (k : Int) < (D.length : Int) := by omega
        have HKY := hid (filter_yes (keepP now tm) HX.out hp)
        have hB1 : b < wr.heap.size := by have := HBC.out.size; omega
        have hB2 : b' < wr.heap.size := by have := HBD.out.size; omega
        clear hp hdk hrow'
        go_wp2_with fail
        go_quiet (fail)
        go_wp2
        go_roundw
        case rel => exact ⟨k + 1, j + 1, by go_num, by go_num, by omega, by rw [HKY.out, ← HK.out], below_drewN HB.out _⟩
        case measure => simp [intOf]; omega
      · have hge : decide (tm ≤ now - x.sent) = true := by unfold keepP at hp; simp at hp ⊢; omega
        have HKN := hid (filter_no (keepP now tm) HX.out (by simpa using hp))
        clear hp
        go_wp2
        go_roundw
        case rel => exact ⟨k, j + 1, by go_num, rfl, by omega, by rw [HKN.out]; exact HK.out, HB.out⟩
        case measure => simp [intOf]; omega
    · have hjl : j = C.opens.length := by omega
      subst hjl
      obtain rfl : k = D.length := by rw [HK.out, HD.out, List.take_length]
      have hlt' : decide ((C.opens.length : Int) < (C.opens.length : Int)) = false := by simp
      have hkk : ((D.length : Int) == (D.length : Int)) = true := by simp
      have hnn : (C.next == C.next) = true := by simp
      have keepS : ∀ W W', Below W.heap.size W W' → (W.cell? ⟨v3.heap.size, 0, none⟩ = some (.int .i64 C.epoch) ∧ W.cell? ⟨v3.heap.size, 1, none⟩ = some (.int .i64 C.next) ∧ W.cell? ⟨v3.heap.size, 2, none⟩ = some (.slice da D.length dc) ∧ W.cell? ⟨w.heap.size, 1, none⟩ = some (.int .i64 C.next) ∧ Hid (W.heap[v3.heap.size]? = some (.cells #[.int .i64 C.epoch, .int .i64 C.next, .slice da D.length dc] 24)) ∧ Hid (W.heap[w.heap.size]? = some (.cells #[.int .i64 C.epoch, .int .i64 C.next, .slice ca C.opens.length cc] 24)) ∧ Hid (Row12 W (.slice da D.length dc) D) ∧ Hid (Below w.heap.size w W)) → (W'.cell? ⟨v3.heap.size, 0, none⟩ = some (.int .i64 C.epoch) ∧ W'.cell? ⟨v3.heap.size, 1, none⟩ = some (.int .i64 C.next) ∧ W'.cell? ⟨v3.heap.size, 2, none⟩ = some (.slice da D.length dc) ∧ W'.cell? ⟨w.heap.size, 1, none⟩ = some (.int .i64 C.next) ∧ Hid (W'.heap[v3.heap.size]? = some (.cells #[.int .i64 C.epoch, .int .i64 C.next, .slice da D.length dc] 24)) ∧ Hid (W'.heap[w.heap.size]? = some (.cells #[.int .i64 C.epoch, .int .i64 C.next, .slice ca C.opens.length cc] 24)) ∧ Hid (Row12 W' (.slice da D.length dc) D) ∧ Hid (Below w.heap.size w W')) := by
        rintro W W' hb ⟨c0, c1, c2, c3, k0, k1, k2, k3⟩
        have q0 := blk_below k0.out hb (blk_lt k0.out)
        have q1 := blk_below k1.out hb (blk_lt k1.out)
        obtain ⟨m0, m1, m2, mf, ml⟩ := blk3 q0
        obtain ⟨n0, n1, n2, nf, nl⟩ := blk3 q1
        exact ⟨m0, m1, m2, n1, hid q0, hid q1, hid (RowOf.below k2.out hb), hid (k3.out.trans (hb.mono k3.out.size))⟩
      have KS := hid keepS
      have hLL : ∀ W, Row12 W (.slice da D.length dc) D → Calls Try.prog 23 #[calls C.epoch C.next (.slice da D.length dc), .int .i64 now, .int .i64 tm] W fun e w' => ∃ a c, e = .returned (.agg #[.int .i64 C.epoch, .int .i64 C.next, .slice a D.length c]) ∧ Hid (Row12 w' (.slice a D.length c) D) ∧ Below W.heap.size W w' := by
        intro W hr
        rw [HD.out] at hr ⊢
        exact lt_late2 C _ now tm W hr hl HC.out h0 h1 h2 h3
      have LL := hid hLL
      have SM : Hid (∀ W a c, Row12 W (.slice a D.length c) D → Row12 W (.slice da D.length dc) D → Calls Try.prog 25 #[calls C.epoch C.next (.slice a D.length c), calls C.epoch C.next (.slice da D.length dc)] W fun e w' => e = .returned (.bool true) ∧ Below W.heap.size W w') := hid (fun W a c h h' => lt_same _ _ D _ _ W h h' (by omega))
      have hdrow := hid ((HQ.out.trans (HB.out.mono HQ.out.size)))
      have hs0 : (wr.cell? ⟨v3.heap.size, 0, none⟩ = some (.int .i64 C.epoch) ∧ wr.cell? ⟨v3.heap.size, 1, none⟩ = some (.int .i64 C.next) ∧ wr.cell? ⟨v3.heap.size, 2, none⟩ = some (.slice da D.length dc) ∧ wr.cell? ⟨w.heap.size, 1, none⟩ = some (.int .i64 C.next) ∧ Hid (wr.heap[v3.heap.size]? = some (.cells #[.int .i64 C.epoch, .int .i64 C.next, .slice da D.length dc] 24)) ∧ Hid (wr.heap[w.heap.size]? = some (.cells #[.int .i64 C.epoch, .int .i64 C.next, .slice ca C.opens.length cc] 24)) ∧ Hid (Row12 wr (.slice da D.length dc) D) ∧ Hid (Below w.heap.size w wr)) := ⟨f00, f01, f02, b01, F0, E0, hid (RowOf.below RD.out HB.out), HBC⟩
      have HS0 := hid hs0
      clear keepS hLL hs0
      go_wp2_with fail
      go_region_held3 (fun W => (W.cell? ⟨v3.heap.size, 0, none⟩ = some (.int .i64 C.epoch) ∧ W.cell? ⟨v3.heap.size, 1, none⟩ = some (.int .i64 C.next) ∧ W.cell? ⟨v3.heap.size, 2, none⟩ = some (.slice da D.length dc) ∧ W.cell? ⟨w.heap.size, 1, none⟩ = some (.int .i64 C.next) ∧ Hid (W.heap[v3.heap.size]? = some (.cells #[.int .i64 C.epoch, .int .i64 C.next, .slice da D.length dc] 24)) ∧ Hid (W.heap[w.heap.size]? = some (.cells #[.int .i64 C.epoch, .int .i64 C.next, .slice ca C.opens.length cc] 24)) ∧ Hid (Row12 W (.slice da D.length dc) D) ∧ Hid (Below w.heap.size w W))) (first | exact HS0.out | exact KS.out _ _ (below_drewN (Below.refl _ _) 1) HS0.out | (go_split_ands; refine KS.out _ _ hbl ⟨?_, ?_, ?_, ?_, ?_, ?_, ?_, ?_⟩ <;> assumption)| (go_split_ands; refine KS.out _ _ hb2 ⟨?_, ?_, ?_, ?_, ?_, ?_, ?_, ?_⟩ <;> assumption)| (go_split_ands; refine KS.out _ _ hb3 ⟨?_, ?_, ?_, ?_, ?_, ?_, ?_, ?_⟩ <;> assumption)) (first | (go_at_call 23; go_split_ands; refine (LL.out _ (by assumption)).mono ?_; rintro e w1 ⟨la, lc, rfl, hrl, hbl⟩) | (go_at_call 25; go_split_ands; refine (SM.out _ _ _ (by assumption) (by assumption)).mono ?_; rintro e w2 ⟨rfl, hb2⟩) | (go_at_call 10; refine (wakes_any _).mono ?_; rintro e w3 ⟨rfl, hb3⟩))
      go_wp2
      go_split_ands
      go_ret
      exact ⟨rfl, (show Hid (Below w.heap.size w _) by assumption)⟩
end Go.Proofs.Ytmphehlpakoheaa
