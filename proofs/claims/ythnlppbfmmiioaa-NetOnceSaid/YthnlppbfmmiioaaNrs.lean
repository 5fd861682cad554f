/- The reference: whether the same is on its way. -/
import Derived.Test.YthnlppbfmmiioaaNs
import Derived.Deep.RegionHeld3
namespace Go.Proofs.Ythnlppbfmmiioaa
open Go.RowKit Go.Shelf

theorem told_at (m q : TellM) (L M : List SeenV) (b : Bool) (w : World) (hL : L.length ≤ 1000000) (hM : M.length ≤ 1000000) (hs : RowN w m.sv L) (ht : RowN w q.sv M) (hb : toldB (m.val L) (q.val M) = b) :
    Calls Try.prog 21 #[aggT m, aggT q] w fun e w' => e = .returned (.bool b) ∧ Below w.heap.size w w' := by
  rw [← hb]; exact told_any m q L M w hL hM hs ht

set_option maxHeartbeats 4000000 in
set_option maxRecDepth 100000 in
theorem rnsame_any (va vt ua ut : Value) (n m : NetV) (w : World) (hn : NetIs w va vt n) (hm : NetIs w ua ut m) (hl : netOk n) (hk : netOk m) :
    Calls Try.prog 14 #[netv va vt, netv ua ut] w fun e w' => e = .returned (.bool (nsameB n m)) ∧ Below w.heap.size w w' := by
  obtain ⟨wo, hwo⟩ : ∃ wo, wo = ((w.alloc (.cells #[va, vt] 25)).alloc (.cells #[ua, ut] 25)) := ⟨_, rfl⟩
  have Z0 : Below w.heap.size w wo := by rw [hwo]; exact ((Below.refl _ _).alloc (Nat.le_refl _) _).alloc (by simp) _
  have Z := hid Z0
  have B0 : Hid (wo.heap[w.heap.size]? = some (.cells #[va, vt] 25)) := hid (by rw [hwo]; exact blk_alloc (heap_new w (.cells #[va, vt] 25)) (.cells #[ua, ut] 25))
  have D0 : Hid (wo.heap[w.heap.size + 1]? = some (.cells #[ua, ut] 25)) := hid (by rw [hwo]; exact heap_new2 w (.cells #[va, vt] 25) (.cells #[ua, ut] 25))
  have hn1 := hn.below Z0
  have hm1 := hm.below Z0
  clear Z0
  obtain ⟨ha, ms, hr, hms⟩ := hn1
  obtain ⟨ha', ns, hr', hns⟩ := hm1
  obtain ⟨aa, ac, rfl, hl1, hl2, hl3, hop⟩ := ha.open
  obtain ⟨ba, bc, rfl, hm1, hm2, hm3, hoq⟩ := ha'.open
  obtain ⟨ta, tc, rfl, hn1, hn2, hn3, htp⟩ := hr.open
  obtain ⟨tb, td, rfl, hk1, hk2, hk3, htq⟩ := hr'.open
  have HOPA := hid hop
  have HOQA := hid hoq
  have HOP := hid htp
  have HOQ := hid htq
  have HMS := hid hms
  have HNS := hid hns
  have c1 : n.asks.length ≤ 1000 := hl.1
  have c2 : ms.length ≤ 1000 := by rw [hms.1]; exact hl.2.1
  have HL := hid hl.2.2
  have HK := hid hk.2.2
  clear hn hm ha ha' hr hr' hop hoq htp htq hms hns hl hk
  by_cases hla : n.asks.length = m.asks.length
  · have HLA := hid hla
    have q1 : m.asks.length ≤ n.asks.length ∧ n.asks.length ≤ m.asks.length := by omega
    rw [← hla] at D0 hwo ⊢
    rw [← hla] at HOQA
    clear hla
    by_cases hlt : ms.length = ns.length
    · have HLT := hid hlt
      have q2 : ns.length ≤ ms.length ∧ ms.length ≤ ns.length := by omega
      rw [← hlt] at D0 hwo ⊢
      rw [← hlt] at HOQ
      clear hlt
      unfold netv
      have HWO := hid hwo
      clear hwo
      go_enter Try.func14, Try.ntmps14
      go_wp2
      rw [← HWO.out]
      go_loopw [5] (fun i wr => ∃ k : Nat, k ≤ n.asks.length ∧ i = .int .i64 k ∧ n.asks.take k = m.asks.take k ∧ Below wo.heap.size wo wr) (fun i _ => n.asks.length - (intOf i).toNat)
      case atStart => exact ⟨0, Nat.zero_le _, rfl, rfl, Below.refl _ _⟩
      case round =>
        obtain ⟨k, hk, rfl, htk, hB⟩ := hrel
        have HT := hid htk
        have HB := hid hB
        clear htk hB
        have ZR := hid (Z.out.trans (HB.out.mono Z.out.size))
        obtain ⟨k0, k1, kf, kl⟩ := blk2 (blk_below B0.out HB.out (blk_lt B0.out))
        obtain ⟨j0, j1, jf, jl⟩ := blk2 (blk_below D0.out HB.out (blk_lt D0.out))
        by_cases hlt : k < n.asks.length
        · obtain ⟨b1, o1, rfl, hb1, hr1⟩ := HOPA.out (by omega)
          obtain ⟨b2, o2, rfl, hb2, hr2⟩ := HOQA.out (by omega)
          obtain ⟨x, hx⟩ := get_lt hlt
          obtain ⟨y, hy⟩ := get_lt (show k < m.asks.length by omega)
          obtain ⟨g0, g1, g2, g3, g4, g5⟩ := rowA (hr1.below HB.out hb1) hx
          obtain ⟨h0, h1, h2, h3, h4, h5⟩ := rowA (hr2.below HB.out hb2) hy
          have HX := hid hx
          have HY := hid hy
          have HS := hid (take_snoc n.asks k x hx)
          have HS' := hid (take_snoc m.asks k y hy)
          have hkL : (k : Int) < (n.asks.length : Int) := by omega
          clear hx hy
          have hne := neqA_run x y
          by_cases hxy : x = y
          · rw [sameA_iff.2 hxy] at hne
            have HXY := hid hxy
            clear hxy
            go_wp2
            go_quiet (fail)
            go_wp2
            go_roundw
            case rel => exact ⟨k + 1, by omega, by go_num, by rw [HS.out, HS'.out, HT.out, HXY.out], below_drewN HB.out _⟩
            case measure => simp [intOf]; omega
          · have : sameA x y = false := by apply Bool.eq_false_iff.2; intro h; exact hxy (sameA_iff.1 h)
            rw [this] at hne
            have hv : nsameB n m = false := by unfold nsameB; rw [eqA_false_at HX.out HY.out hxy]; rfl
            have HV := hid hv
            clear hxy this hv
            go_wp2
            go_quiet (fail)
            go_wp2
            go_ret
            exact ⟨ret_bool HV.out.symm, below_drewN ZR.out _⟩
        · obtain rfl : k = n.asks.length := by omega
          have HEA : Hid (n.asks = m.asks) := hid (by have := HT.out; rw [List.take_length, HLA.out, List.take_length] at this; exact this)
          go_wp2
          clear k0 k1 kf kl j0 j1 jf jl
          obtain ⟨wq, hwq⟩ : ∃ wq : World, wq = wr := ⟨_, rfl⟩
          rw [← hwq] at HB ZR ⊢
          clear hwq
          go_loopw [6] (fun i wr => ∃ k : Nat, k ≤ ms.length ∧ i = .int .i64 k ∧ n.tells.take k = m.tells.take k ∧ Below wo.heap.size wo wr) (fun i _ => ms.length - (intOf i).toNat)
          case atStart => exact ⟨0, Nat.zero_le _, rfl, rfl, HB.out⟩
          case round =>
            clear HB ZR HT
            obtain ⟨k, hk, rfl, htk, hB⟩ := hrel
            have HT := hid htk
            have HB := hid hB
            clear htk hB
            have ZR := hid (Z.out.trans (HB.out.mono Z.out.size))
            have B1 := hid (blk_below B0.out HB.out (blk_lt B0.out))
            have D1 := hid (blk_below D0.out HB.out (blk_lt D0.out))
            obtain ⟨k0, k1, kf, kl⟩ := blk2 B1.out
            obtain ⟨j0, j1, jf, jl⟩ := blk2 D1.out
            by_cases hlt : k < ms.length
            · obtain ⟨b1, o1, rfl, hb1, hr1⟩ := HOP.out (by omega)
              obtain ⟨b2, o2, rfl, hb2, hr2⟩ := HOQ.out (by omega)
              obtain ⟨x, hx⟩ := get_lt hlt
              obtain ⟨y, hy⟩ := get_lt (show k < ns.length by omega)
              obtain ⟨tx, htx, hrx, hvx⟩ := tell_at HMS.out hx
              obtain ⟨ty, hty, hry, hvy⟩ := tell_at HNS.out hy
              obtain ⟨xa, xc, hxs⟩ := shape_row hrx
              obtain ⟨ya, yc, hys⟩ := shape_row hry
              obtain ⟨xcall, xkind, xcode, xid, xsv, xmore⟩ := x
              obtain ⟨ycall, ykind, ycode, yid, ysv, ymore⟩ := y
              simp only at hxs hys
              subst hxs
              subst hys
              obtain ⟨gg0', gg1', gg2', gg3', gg4', gg5'⟩ := rowT (hr1.below HB.out hb1) hx
              obtain ⟨hh0', hh1', hh2', hh3', hh4', hh5'⟩ := rowT (hr2.below HB.out hb2) hy
              have gg0 := hid gg0'
              have gg1 := hid gg1'
              have gg2 := hid gg2'
              have gg3 := hid gg3'
              have gg4 := hid gg4'
              have gg5 := hid gg5'
              have hh0 := hid hh0'
              have hh1 := hid hh1'
              have hh2 := hid hh2'
              have hh3 := hid hh3'
              have hh4 := hid hh4'
              have hh5 := hid hh5'
              have HX := hid htx
              have HY := hid hty
              have hsx := HL.out tx (mem_get htx)
              have hsy := HK.out ty (mem_get hty)
              have HVX := hid hvx
              have HVY := hid hvy
              have RXS := hid (RowOf.below hrx HB.out)
              have RYS := hid (RowOf.below hry HB.out)
              have hkL : (k : Int) < (ms.length : Int) := by omega
              clear hx hy htx hty hvx hvy hrx hry gg0' gg1' gg2' gg3' gg4' gg5' hh0' hh1' hh2' hh3' hh4' hh5'
              obtain ⟨tb', htb⟩ : ∃ tb, toldB (TellM.val ⟨xcall, xkind, xcode, xid, .slice xa tx.seen.length xc, xmore⟩ tx.seen) (TellM.val ⟨ycall, ykind, ycode, yid, .slice ya ty.seen.length yc, ymore⟩ ty.seen) = tb := ⟨_, rfl⟩
              have HTB := hid htb
              clear htb
              go_wp2_with fail
              clear k0 k1 kf kl j0 j1 jf jl
              obtain ⟨Ev, hEvdef⟩ : ∃ Ev : World → Prop, Ev = fun W => W.heap[w.heap.size]? = some (.cells #[.slice aa n.asks.length ac, .slice (some ⟨b1, o1, none⟩) ms.length tc] 25) ∧ W.heap[w.heap.size + 1]? = some (.cells #[.slice ba n.asks.length bc, .slice (some ⟨b2, o2, none⟩) ms.length td] 25) ∧ RowN W (.slice xa tx.seen.length xc) tx.seen ∧ RowN W (.slice ya ty.seen.length yc) ty.seen ∧ Below wo.heap.size wo W ∧ W.cell? ⟨b1, o1 + k * 6, none⟩ = some (.int .i64 xcall) ∧ W.cell? ⟨b1, o1 + k * 6 + 1, none⟩ = some (.int .u8 xkind) ∧ W.cell? ⟨b1, o1 + k * 6 + 2, none⟩ = some (.int .u8 xcode) ∧ W.cell? ⟨b1, o1 + k * 6 + 3, none⟩ = some (.int .i64 xid) ∧ W.cell? ⟨b1, o1 + k * 6 + 4, none⟩ = some (.slice xa tx.seen.length xc) ∧ W.cell? ⟨b1, o1 + k * 6 + 5, none⟩ = some (.bool xmore) ∧ W.cell? ⟨b2, o2 + k * 6, none⟩ = some (.int .i64 ycall) ∧ W.cell? ⟨b2, o2 + k * 6 + 1, none⟩ = some (.int .u8 ykind) ∧ W.cell? ⟨b2, o2 + k * 6 + 2, none⟩ = some (.int .u8 ycode) ∧ W.cell? ⟨b2, o2 + k * 6 + 3, none⟩ = some (.int .i64 yid) ∧ W.cell? ⟨b2, o2 + k * 6 + 4, none⟩ = some (.slice ya ty.seen.length yc) ∧ W.cell? ⟨b2, o2 + k * 6 + 5, none⟩ = some (.bool ymore) ∧ Below w.heap.size w W := ⟨_, rfl⟩
              have hEv0 : Ev wr := by rw [hEvdef]; exact ⟨B1.out, D1.out, RXS.out, RYS.out, HB.out, gg0.out, gg1.out, gg2.out, gg3.out, gg4.out, gg5.out, hh0.out, hh1.out, hh2.out, hh3.out, hh4.out, hh5.out, ZR.out⟩
              have hEvk : ∀ W W', Below W.heap.size W W' → Ev W → Ev W' := by
                rw [hEvdef]
                rintro W W' hb ⟨q0, q1, q2, q3, q4, q5, q6, q7, q8, q9, q10, q11, q12, q13, q14, q15, q16, q17⟩
                exact ⟨blk_below q0 hb (blk_lt q0), blk_below q1 hb (blk_lt q1), RowOf.below q2 hb, RowOf.below q3 hb, q4.trans (hb.mono q4.size), cell_below q5 hb, cell_below q6 hb, cell_below q7 hb, cell_below q8 hb, cell_below q9 hb, cell_below q10 hb, cell_below q11 hb, cell_below q12 hb, cell_below q13 hb, cell_below q14 hb, cell_below q15 hb, cell_below q16 hb, q17.trans (hb.mono q17.size)⟩
              have hEv_RXS : ∀ W, Ev W → RowN W (.slice xa tx.seen.length xc) tx.seen := by
                rw [hEvdef]
                rintro W ⟨q0, q1, q2, q3, q4, q5, q6, q7, q8, q9, q10, q11, q12, q13, q14, q15, q16, q17⟩
                exact q2
              have hEv_RYS : ∀ W, Ev W → RowN W (.slice ya ty.seen.length yc) ty.seen := by
                rw [hEvdef]
                rintro W ⟨q0, q1, q2, q3, q4, q5, q6, q7, q8, q9, q10, q11, q12, q13, q14, q15, q16, q17⟩
                exact q3
              have hEv_HB : ∀ W, Ev W → Below wo.heap.size wo W := by
                rw [hEvdef]
                rintro W ⟨q0, q1, q2, q3, q4, q5, q6, q7, q8, q9, q10, q11, q12, q13, q14, q15, q16, q17⟩
                exact q4
              have hEv_ZR : ∀ W, Ev W → Below w.heap.size w W := by
                rw [hEvdef]
                rintro W ⟨q0, q1, q2, q3, q4, q5, q6, q7, q8, q9, q10, q11, q12, q13, q14, q15, q16, q17⟩
                exact q17
              have hEv_B1 : ∀ W, Ev W → W.heap[w.heap.size]? = some (.cells #[.slice aa n.asks.length ac, .slice (some ⟨b1, o1, none⟩) ms.length tc] 25) := by
                rw [hEvdef]
                rintro W ⟨q0, q1, q2, q3, q4, q5, q6, q7, q8, q9, q10, q11, q12, q13, q14, q15, q16, q17⟩
                exact q0
              have hEv_D1 : ∀ W, Ev W → W.heap[w.heap.size + 1]? = some (.cells #[.slice ba n.asks.length bc, .slice (some ⟨b2, o2, none⟩) ms.length td] 25) := by
                rw [hEvdef]
                rintro W ⟨q0, q1, q2, q3, q4, q5, q6, q7, q8, q9, q10, q11, q12, q13, q14, q15, q16, q17⟩
                exact q1
              have hEvc : ∀ W, Ev W → W.cell? ⟨w.heap.size, 0, none⟩ = some (.slice aa n.asks.length ac) ∧ W.cell? ⟨w.heap.size, 1, none⟩ = some (.slice (some ⟨b1, o1, none⟩) ms.length tc) ∧ W.cell? ⟨w.heap.size + 1, 0, none⟩ = some (.slice ba n.asks.length bc) ∧ W.cell? ⟨w.heap.size + 1, 1, none⟩ = some (.slice (some ⟨b2, o2, none⟩) ms.length td) ∧ W.cell? ⟨b1, o1 + k * 6, none⟩ = some (.int .i64 xcall) ∧ W.cell? ⟨b1, o1 + k * 6 + 1, none⟩ = some (.int .u8 xkind) ∧ W.cell? ⟨b1, o1 + k * 6 + 2, none⟩ = some (.int .u8 xcode) ∧ W.cell? ⟨b1, o1 + k * 6 + 3, none⟩ = some (.int .i64 xid) ∧ W.cell? ⟨b1, o1 + k * 6 + 4, none⟩ = some (.slice xa tx.seen.length xc) ∧ W.cell? ⟨b1, o1 + k * 6 + 5, none⟩ = some (.bool xmore) ∧ W.cell? ⟨b2, o2 + k * 6, none⟩ = some (.int .i64 ycall) ∧ W.cell? ⟨b2, o2 + k * 6 + 1, none⟩ = some (.int .u8 ykind) ∧ W.cell? ⟨b2, o2 + k * 6 + 2, none⟩ = some (.int .u8 ycode) ∧ W.cell? ⟨b2, o2 + k * 6 + 3, none⟩ = some (.int .i64 yid) ∧ W.cell? ⟨b2, o2 + k * 6 + 4, none⟩ = some (.slice ya ty.seen.length yc) ∧ W.cell? ⟨b2, o2 + k * 6 + 5, none⟩ = some (.bool ymore) := by
                rw [hEvdef]
                rintro W ⟨q0, q1, q2, q3, q4, q5, q6, q7, q8, q9, q10, q11, q12, q13, q14, q15, q16, q17⟩
                exact ⟨blk_cell q0 0, blk_cell q0 1, blk_cell q1 0, blk_cell q1 1, q5, q6, q7, q8, q9, q10, q11, q12, q13, q14, q15, q16⟩
              have hEvs : ∀ W W', Below W.heap.size W W' → Ev W → Ev W' ∧ W'.cell? ⟨w.heap.size, 0, none⟩ = some (.slice aa n.asks.length ac) ∧ W'.cell? ⟨w.heap.size, 1, none⟩ = some (.slice (some ⟨b1, o1, none⟩) ms.length tc) ∧ W'.cell? ⟨w.heap.size + 1, 0, none⟩ = some (.slice ba n.asks.length bc) ∧ W'.cell? ⟨w.heap.size + 1, 1, none⟩ = some (.slice (some ⟨b2, o2, none⟩) ms.length td) ∧ W'.cell? ⟨b1, o1 + k * 6, none⟩ = some (.int .i64 xcall) ∧ W'.cell? ⟨b1, o1 + k * 6 + 1, none⟩ = some (.int .u8 xkind) ∧ W'.cell? ⟨b1, o1 + k * 6 + 2, none⟩ = some (.int .u8 xcode) ∧ W'.cell? ⟨b1, o1 + k * 6 + 3, none⟩ = some (.int .i64 xid) ∧ W'.cell? ⟨b1, o1 + k * 6 + 4, none⟩ = some (.slice xa tx.seen.length xc) ∧ W'.cell? ⟨b1, o1 + k * 6 + 5, none⟩ = some (.bool xmore) ∧ W'.cell? ⟨b2, o2 + k * 6, none⟩ = some (.int .i64 ycall) ∧ W'.cell? ⟨b2, o2 + k * 6 + 1, none⟩ = some (.int .u8 ykind) ∧ W'.cell? ⟨b2, o2 + k * 6 + 2, none⟩ = some (.int .u8 ycode) ∧ W'.cell? ⟨b2, o2 + k * 6 + 3, none⟩ = some (.int .i64 yid) ∧ W'.cell? ⟨b2, o2 + k * 6 + 4, none⟩ = some (.slice ya ty.seen.length yc) ∧ W'.cell? ⟨b2, o2 + k * 6 + 5, none⟩ = some (.bool ymore) := fun W W' hb h => ⟨hEvk W W' hb h, hEvc W' (hEvk W W' hb h)⟩
              have Ev_0 := hid hEv0
              have Ev_S := hid hEvs
              have Ev_K := hid hEvk
              have Ev_C := hid hEvc
              have Ev_RXS := hid hEv_RXS
              have Ev_RYS := hid hEv_RYS
              have Ev_HB := hid hEv_HB
              have Ev_ZR := hid hEv_ZR
              have Ev_B1 := hid hEv_B1
              have Ev_D1 := hid hEv_D1
              have Ev_D := hid hEvdef
              clear B1 D1 RXS RYS HB gg0 gg1 gg2 gg3 gg4 gg5 hh0 hh1 hh2 hh3 hh4 hh5 ZR hEv0 hEvk hEvs hEvdef hEv_RXS hEv_RYS hEv_HB hEv_ZR hEv_B1 hEv_D1 hEvc
              cases tb' with
              | true =>
                have HEQ : Hid (tx = ty) := hid (by rw [← HVX.out, ← HVY.out]; exact toldB_iff.1 HTB.out)
                have HN := hid (tells_take_next HT.out HX.out HY.out HEQ.out)
                go_region_held3 (fun W => Ev W ∧ W.cell? ⟨w.heap.size, 0, none⟩ = some (.slice aa n.asks.length ac) ∧ W.cell? ⟨w.heap.size, 1, none⟩ = some (.slice (some ⟨b1, o1, none⟩) ms.length tc) ∧ W.cell? ⟨w.heap.size + 1, 0, none⟩ = some (.slice ba n.asks.length bc) ∧ W.cell? ⟨w.heap.size + 1, 1, none⟩ = some (.slice (some ⟨b2, o2, none⟩) ms.length td) ∧ W.cell? ⟨b1, o1 + k * 6, none⟩ = some (.int .i64 xcall) ∧ W.cell? ⟨b1, o1 + k * 6 + 1, none⟩ = some (.int .u8 xkind) ∧ W.cell? ⟨b1, o1 + k * 6 + 2, none⟩ = some (.int .u8 xcode) ∧ W.cell? ⟨b1, o1 + k * 6 + 3, none⟩ = some (.int .i64 xid) ∧ W.cell? ⟨b1, o1 + k * 6 + 4, none⟩ = some (.slice xa tx.seen.length xc) ∧ W.cell? ⟨b1, o1 + k * 6 + 5, none⟩ = some (.bool xmore) ∧ W.cell? ⟨b2, o2 + k * 6, none⟩ = some (.int .i64 ycall) ∧ W.cell? ⟨b2, o2 + k * 6 + 1, none⟩ = some (.int .u8 ykind) ∧ W.cell? ⟨b2, o2 + k * 6 + 2, none⟩ = some (.int .u8 ycode) ∧ W.cell? ⟨b2, o2 + k * 6 + 3, none⟩ = some (.int .i64 yid) ∧ W.cell? ⟨b2, o2 + k * 6 + 4, none⟩ = some (.slice ya ty.seen.length yc) ∧ W.cell? ⟨b2, o2 + k * 6 + 5, none⟩ = some (.bool ymore)) (first | exact Ev_S.out _ _ (below_drewN (Below.refl _ _) 1) Ev_0.out | (go_split_ands; exact Ev_S.out _ _ (below_drewN (Below.refl _ _) 1) (by assumption)) | (go_split_ands; exact Ev_S.out _ _ hbt (by assumption))) ((go_at_call 21; go_split_ands; refine (told_at ⟨xcall, xkind, xcode, xid, .slice xa tx.seen.length xc, xmore⟩ ⟨ycall, ykind, ycode, yid, .slice ya ty.seen.length yc, ymore⟩ _ _ true _ (by omega) (by omega) (Ev_RXS.out _ (by assumption)) (Ev_RYS.out _ (by assumption)) HTB.out).mono ?_; rintro e w1 ⟨rfl, hbt⟩))
                go_wp2
                go_split_ands
                go_roundw
                case rel => exact ⟨k + 1, by omega, by go_num, HN.out, Ev_HB.out _ (by assumption)⟩
                case measure => simp [intOf]; omega
              | false =>
                have HEQ : Hid (¬ tx = ty) := hid (fun h => by
                  have := HTB.out
                  rw [HVX.out, HVY.out, h, toldB_self] at this
                  cases this)
                have HV : Hid (nsameB n m = false) := hid (by unfold nsameB; rw [eqT_false_at HX.out HY.out HEQ.out]; simp)
                go_region_held3 (fun W => Ev W ∧ W.cell? ⟨w.heap.size, 0, none⟩ = some (.slice aa n.asks.length ac) ∧ W.cell? ⟨w.heap.size, 1, none⟩ = some (.slice (some ⟨b1, o1, none⟩) ms.length tc) ∧ W.cell? ⟨w.heap.size + 1, 0, none⟩ = some (.slice ba n.asks.length bc) ∧ W.cell? ⟨w.heap.size + 1, 1, none⟩ = some (.slice (some ⟨b2, o2, none⟩) ms.length td) ∧ W.cell? ⟨b1, o1 + k * 6, none⟩ = some (.int .i64 xcall) ∧ W.cell? ⟨b1, o1 + k * 6 + 1, none⟩ = some (.int .u8 xkind) ∧ W.cell? ⟨b1, o1 + k * 6 + 2, none⟩ = some (.int .u8 xcode) ∧ W.cell? ⟨b1, o1 + k * 6 + 3, none⟩ = some (.int .i64 xid) ∧ W.cell? ⟨b1, o1 + k * 6 + 4, none⟩ = some (.slice xa tx.seen.length xc) ∧ W.cell? ⟨b1, o1 + k * 6 + 5, none⟩ = some (.bool xmore) ∧ W.cell? ⟨b2, o2 + k * 6, none⟩ = some (.int .i64 ycall) ∧ W.cell? ⟨b2, o2 + k * 6 + 1, none⟩ = some (.int .u8 ykind) ∧ W.cell? ⟨b2, o2 + k * 6 + 2, none⟩ = some (.int .u8 ycode) ∧ W.cell? ⟨b2, o2 + k * 6 + 3, none⟩ = some (.int .i64 yid) ∧ W.cell? ⟨b2, o2 + k * 6 + 4, none⟩ = some (.slice ya ty.seen.length yc) ∧ W.cell? ⟨b2, o2 + k * 6 + 5, none⟩ = some (.bool ymore)) (first | exact Ev_S.out _ _ (below_drewN (Below.refl _ _) 1) Ev_0.out | (go_split_ands; exact Ev_S.out _ _ (below_drewN (Below.refl _ _) 1) (by assumption)) | (go_split_ands; exact Ev_S.out _ _ hbt (by assumption))) ((go_at_call 21; go_split_ands; refine (told_at ⟨xcall, xkind, xcode, xid, .slice xa tx.seen.length xc, xmore⟩ ⟨ycall, ykind, ycode, yid, .slice ya ty.seen.length yc, ymore⟩ _ _ false _ (by omega) (by omega) (Ev_RXS.out _ (by assumption)) (Ev_RYS.out _ (by assumption)) HTB.out).mono ?_; rintro e w1 ⟨rfl, hbt⟩))
                go_wp2
                go_split_ands
                go_ret
                exact ⟨ret_bool HV.out.symm, Ev_ZR.out _ (by assumption)⟩
            · obtain rfl : k = ms.length := by omega
              have HET : Hid (n.tells = m.tells) := hid (by have := HT.out; rw [HMS.out.1, List.take_length, ← HMS.out.1, HLT.out, HNS.out.1, List.take_length] at this; exact this)
              have HV : Hid (nsameB n m = true) := hid (by unfold nsameB; rw [decide_eq_true HEA.out, decide_eq_true HET.out]; rfl)
              go_wp2
              go_ret
              exact ⟨ret_bool HV.out.symm, ZR.out⟩
    · have hz : ((ms.length : Int) != (ns.length : Int)) = true := by simp; omega
      have HV : Hid (nsameB n m = false) := hid (by unfold nsameB; rw [decide_eq_false (p := n.tells = m.tells) (fun h => hlt (by rw [HMS.out.1, HNS.out.1, h]))]; simp)
      clear hlt
      unfold netv
      have HWO := hid hwo
      clear hwo
      go_enter Try.func14, Try.ntmps14
      go_wp2
      go_ret
      exact ⟨ret_bool HV.out.symm, by have := Z.out; rw [HWO.out] at this; exact this⟩
  · have hz : ((n.asks.length : Int) != (m.asks.length : Int)) = true := by simp; omega
    have HV : Hid (nsameB n m = false) := hid (by unfold nsameB; rw [decide_eq_false (p := n.asks = m.asks) (fun h => hla (by rw [h]))]; rfl)
    clear hla
    unfold netv
    have HWO := hid hwo
    clear hwo
    go_enter Try.func14, Try.ntmps14
    go_wp2
    go_ret
    exact ⟨ret_bool HV.out.symm, by have := Z.out; rw [HWO.out] at this; exact this⟩
end Go.Proofs.Ythnlppbfmmiioaa
