/- The reference: what is on its way in memory of the call's own. -/
import Derived.Test.YthnlppbfmmiioaaOw3
import Derived.Deep.RegionLaw
namespace Go.Proofs.Ythnlppbfmmiioaa
open Go.RowKit Go.Shelf

/-- Behind some answers. -/
def RoJ (w : World) (va b0 b1 : Value) (asks : List AskV) (l : List TellV) (W : World) : Prop :=
  ∃ u ms, W.heap[w.heap.size + 2]? = some (.cells #[va, u] 25) ∧ OwnA W (w.heap.size + 3) va asks ∧ OwnT W (w.heap.size + 3) u ms ∧ TellsOwn W (w.heap.size + 3) ms l ∧ Below w.heap.size w W ∧ w.heap.size + 3 ≤ W.heap.size ∧
    W.heap[w.heap.size]? = some (.cells #[b0, b1] 25) ∧ W.heap[w.heap.size + 1]? = some (.cells #[.slice none 0 0, .slice none 0 0] 25)

set_option maxHeartbeats 4000000 in
set_option maxRecDepth 100000 in
theorem rnown_any (va vt : Value) (n : NetV) (w : World) (hn : NetIs w va vt n) (hk : netOk n) :
    Calls Try.prog 24 #[netv va vt] w fun e w' => ∃ ua ut, e = .returned (netv ua ut) ∧ NetOwn w' w.heap.size ua ut n ∧ Below w.heap.size w w' := by
  obtain ⟨i0, hi, hz0, hz1, hz2⟩ := info_parts infoA
  obtain ⟨j0, hj, hy0, hy1, hy2⟩ := info_parts infoT
  obtain ⟨ha, ms, ht, hms⟩ := hn
  obtain ⟨aa, ac, rfl⟩ := shape_row ha
  obtain ⟨ta, tc, rfl, ht1, ht2, ht3, hop⟩ := ht.open
  have HOP := hid hop
  obtain ⟨W, hW⟩ : ∃ W, W = ((w.alloc (.cells #[.slice aa n.asks.length ac, .slice ta ms.length tc] 25)).alloc (.cells #[.slice none 0 0, .slice none 0 0] 25)).alloc (.cells #[.slice none 0 0, .slice none 0 0] 25) := ⟨_, rfl⟩
  have hB : Below w.heap.size w W := by rw [hW]; exact (((Below.refl _ _).alloc (Nat.le_refl _) _).alloc (by simp) _).alloc (by simp; omega) _
  have B0 : Hid (W.heap[w.heap.size]? = some (.cells #[.slice aa n.asks.length ac, .slice ta ms.length tc] 25)) := hid (by rw [hW]; exact blk_alloc (blk_alloc (heap_new _ _) _) _)
  have B1 : Hid (W.heap[w.heap.size + 1]? = some (.cells #[.slice none 0 0, .slice none 0 0] 25)) := hid (by rw [hW]; exact blk_alloc (heap_new2 _ _ _) _)
  have B2 : Hid (W.heap[w.heap.size + 2]? = some (.cells #[.slice none 0 0, .slice none 0 0] 25)) := hid (by rw [hW]; simpa using heap_new2 (w.alloc _) _ _)
  have hsz : W.heap.size = w.heap.size + 3 := by rw [hW]; simp
  have HA := hid (RowOf.below ha hB)
  have HMS := hid hms
  have k1 := hk.1
  have k2 : ms.length ≤ 1000 := by rw [hms.1]; exact hk.2.1
  have HK := hid hk.2.2
  have HLN := hid hms.1
  have HB := hid hB
  have HSZ := hid hsz
  have HW := hid hW
  have c1 : ([] : List AskV).length + n.asks.length ≤ maxLen := by unfold maxLen; simp; omega
  have c2 : (([] : List AskV).length + n.asks.length) * 48 ≤ 140737488355328 := by simp; omega
  have c3 : w.heap.size + 3 ≤ W.heap.size := by omega
  clear ha ht hms hk hop hB hsz hW
  unfold netv
  go_enter Try.func24, Try.ntmps24
  go_wp2_with (at_builtin; rw [← HW.out]; refine append_rows rfl _ _ 22 rfl (w.heap.size + 3) 27 i0 _ 48 Try.underlying22 hi hz0 hz1 hz2 rfl (by decide) encA_len encA_one _ [] rfl (Owns.nil _ _) _ n.asks rfl HA.out c1 c2 c3 ?_; intro v' w1 hown hgrow; obtain ⟨va, vn, vc, rfl⟩ := hown.shape; have HOW := hid hown; have hbw := below_own hgrow (Nat.le_refl _) (fun g e => by cases e); have G0 := hid (blk_below B0.out hbw (blk_lt B0.out)); have G1 := hid (blk_below B1.out hbw (blk_lt B1.out)); have G2 := hid (blk_below B2.out hbw (blk_lt B2.out)); have HBW := hid hbw; clear hown hgrow hbw; obtain ⟨y0, y1, yf, yl⟩ := blk2 G0.out; obtain ⟨z0, z1, zf, zl⟩ := blk2 G2.out)
  clear y0 y1 yf yl z0 z1 zf zl
  have hst : RoJ w (.slice va vn vc) (.slice aa n.asks.length ac) (.slice ta ms.length tc) n.asks (n.tells.take 0) (w1.setCell ⟨w.heap.size + 2, 0, none⟩ (.slice va vn vc)) := by
    have h0 := HSZ.out
    refine ⟨.slice none 0 0, [], by exact blk_set G2.out 0 _, ?_, Owns.nil _ _, TellsOwn.nil _ _, ?_, ?_, blk_other G0.out (by simp) _, blk_other G1.out (by simp) _⟩
    · exact Owns.other (by simpa using HOW.out) (p := ⟨w.heap.size + 2, 0, none⟩) (by simp) _
    · exact (HB.out.trans (HBW.out.mono HB.out.size)).setCell (p := ⟨w.heap.size + 2, 0, none⟩) (by simp) _
    · have := HBW.out.size; simp [World.setCell]; omega
  have HST := hid hst
  clear hst
  go_loopw [4] (fun i wr => ∃ k : Nat, i = .int .i64 k ∧ k ≤ ms.length ∧ RoJ w (.slice va vn vc) (.slice aa n.asks.length ac) (.slice ta ms.length tc) n.asks (n.tells.take k) wr) (fun i _ => ms.length - (intOf i).toNat)
  case atStart => exact ⟨0, rfl, Nat.zero_le _, HST.out⟩
  case round =>
    clear HST
    obtain ⟨k, rfl, hk, u, ns, h1, h2, h3, h4, h5, h6, h7, h8⟩ := hrel
    have H1 := hid h1
    have H2 := hid h2
    have H3 := hid h3
    have H4 := hid h4
    have H5 := hid h5
    have H7 := hid h7
    have H8 := hid h8
    have hns : ns.length = (n.tells.take k).length := h4.1
    have hnk : ns.length ≤ k := by rw [hns]; exact List.length_take_le _ _
    obtain ⟨ua, un, uc, rfl⟩ := h3.shape
    obtain ⟨k0, k1', kf, kl⟩ := blk2 h1
    obtain ⟨j0', j1', jf, jl⟩ := blk2 h7
    clear h1 h2 h3 h4 h5 h7 h8 hns
    by_cases hlt : k < ms.length
    · obtain ⟨b1, o1, rfl, hb1, hr1⟩ := HOP.out (by omega)
      obtain ⟨x, hx⟩ := get_lt hlt
      obtain ⟨tx, htx, hrx, hvx⟩ := tell_at HMS.out hx
      obtain ⟨xa, xc, hxs⟩ := shape_row hrx
      obtain ⟨xcall, xkind, xcode, xid, xsv, xmore⟩ := x
      simp only at hxs
      subst hxs
      obtain ⟨g0, g1, g2, g3, g4, g5⟩ := rowT (hr1.below H5.out hb1) hx
      have HVX := hid hvx
      have HTS := hid (take_snoc n.tells k tx htx)
      have hsx := HK.out tx (mem_get htx)
      have hzb : b1 < wr.heap.size := by have := H5.out.size; omega
      have HC : Hid (∀ W', Below wr.heap.size wr W' → Calls Try.prog 29 #[.agg #[.int .i64 xcall, .int .u8 xkind, .int .u8 xcode, .int .i64 xid, .slice xa tx.seen.length xc, .bool xmore]] W' fun e w' => ∃ a' n' c', e = .returned (.agg #[.int .i64 xcall, .int .u8 xkind, .int .u8 xcode, .int .i64 xid, .slice a' n' c', .bool xmore]) ∧ OwnN w' W'.heap.size (.slice a' n' c') tx.seen ∧ Below W'.heap.size W' w') := hid (fun W' hW' => rtell_any xcall xkind xcode xid xa tx.seen.length xc xmore tx.seen W' (by omega) (RowOf.below hrx (H5.out.trans (hW'.mono H5.out.size))))
      have c1 : ns.length + 1 ≤ maxLen := by unfold maxLen; omega
      have c2 : (ns.length + 1) * 56 ≤ 140737488355328 := by omega
      have hkl : (k : Int) < (ms.length : Int) := by omega
      clear hx htx hrx hvx hr1
      go_wp2_with fail
      go_region_law (first | (go_simp; go_at_call 29; refine (HC.out _ (below_drewN (Below.refl _ _) 1)).mono ?_; rintro e w2 ⟨a1, n1, cc1, rfl, hown, hb⟩; have HO1 := hid hown; have HQ := hid (show Below wr.heap.size wr w2 from (below_drewN (Below.refl _ _) 1).trans hb); have hz2 : wr.heap.size ≤ w2.heap.size := HQ.out.size; clear hown hb; obtain ⟨p0, p1, pf, pl⟩ := blk2 (blk_below H1.out HQ.out (blk_lt H1.out)); dsimp only) | (refine step_append_one rfl _ _ 23 rfl (w.heap.size + 3) 30 j0 _ 56 Try.underlying23 hj hy0 hy1 hy2 rfl (by decide) encT_len _ ns rfl (World.ownsRow.alloc (Owns.below H3.out HQ.out) _) ⟨w2.heap.size, 0, none⟩ ⟨xcall, xkind, xcode, xid, .slice a1 n1 cc1, xmore⟩ rfl (encT_one ⟨xcall, xkind, xcode, xid, .slice a1 n1 cc1, xmore⟩ rfl) (new_cells' w2 #[.int .i64 xcall, .int .u8 xkind, .int .u8 xcode, .int .i64 xid, .slice a1 n1 cc1, .bool xmore] _) c1 c2 (by simp; omega) ?_; intro lv w3 hown3 hbw3 hgr3; obtain ⟨la, ln, lc, rfl⟩ := hown3.shape; have HO3 := hid hown3; have HB3 := hid hbw3; have HG3 := hid hgr3; clear hown3 hbw3 hgr3; obtain ⟨r0, r1, rf, rl⟩ := blk2 (blk_below (blk_alloc (blk_below H1.out HQ.out (blk_lt H1.out)) _) HB3.out (by omega))))
      all_goals
        have hz0 := HSZ.out
        go_wp2
        go_roundw
        case rel =>
          have hbt : Below wr.heap.size wr (w2.alloc (.cells #[.int .i64 xcall, .int .u8 xkind, .int .u8 xcode, .int .i64 xid, .slice a1 n1 cc1, .bool xmore] 30)) := HQ.out.alloc HQ.out.size _
          have hty : ∀ r, (Value.slice ua un uc).ownBlock = some r → ∃ c, (w2.alloc (.cells #[.int .i64 xcall, .int .u8 xkind, .int .u8 xcode, .int .i64 xid, .slice a1 n1 cc1, .bool xmore] 30)).heap[r]? = some (.cells c 30) := fun r e => by
            obtain ⟨c, hc⟩ := Owns.typed H3.out r e
            exact ⟨c, blk_below hc hbt (blk_lt hc)⟩
          have hal : Below w2.heap.size w2 (w2.alloc (.cells #[.int .i64 xcall, .int .u8 xkind, .int .u8 xcode, .int .i64 xid, .slice a1 n1 cc1, .bool xmore] 30)) := (Below.refl _ _).alloc (Nat.le_refl _) _
          have hd1 : w.heap.size < wr.heap.size := blk_lt H7.out
          have hd2 : w.heap.size + 1 < wr.heap.size := blk_lt H8.out
          have hd3 : w.heap.size + 2 < wr.heap.size := blk_lt H1.out
          refine ⟨k + 1, by go_num, by omega, _, _, blk_set (blk_below (blk_below H1.out hbt (by omega)) HB3.out (by omega)) 1 _, ?_, Owns.other HO3.out (p := ⟨w.heap.size + 2, 1, none⟩) (by simp) _, ?_, ?_, ?_, blk_far (blk_below (blk_below H7.out hbt (by omega)) HB3.out (by omega)) (by omega) _, blk_far (blk_below (blk_below H8.out hbt (by omega)) HB3.out (by omega)) (by omega) _⟩
          · exact Owns.other (Owns.apart (Owns.below H2.out hbt) HG3.out hty (by decide)) (p := ⟨w.heap.size + 2, 1, none⟩) (by simp) _
          · rw [HTS.out]
            refine TellsOwn.other (p := ⟨w.heap.size + 2, 1, none⟩) ?_ (by simp) _
            refine TellsOwn.snoc (TellsOwn.apart (H4.out.below hbt) HG3.out hty (by decide)) ?_
            exact TellOwn.apart (TellOwn.below ⟨Owns.mono HO1.out (by exact h6), HVX.out⟩ hal) HG3.out hty (by decide)
          · exact ((H5.out.trans (hbt.mono H5.out.size)).trans (HB3.out.mono (by omega))).setCell (p := ⟨w.heap.size + 2, 1, none⟩) (by simp) _
          · have := HB3.out.size; simp [World.setCell] at this ⊢; omega
        case measure => simp [intOf]; omega
    · obtain rfl : k = ms.length := by omega
      have hz0 := HSZ.out
      obtain ⟨va', vn', vc', hva⟩ : ∃ a n c, (Value.slice va vn vc) = .slice a n c := ⟨_, _, _, rfl⟩
      obtain ⟨s0, s1, sf, sl⟩ := blk2 H8.out
      have HTK : Hid (n.tells.take ms.length = n.tells) := hid (by rw [HLN.out, List.take_length])
      clear hva
      go_wp2
      refine bodyPost_ret (res_net rfl rfl (blk_set (blk_set H8.out 0 _) 1 _)) rfl ⟨_, _, rfl, ?_, ?_⟩
      · have hnet : NetOwn wr (w.heap.size + 3) (.slice va vn vc) (.slice ua un uc) n := ⟨H2.out, ns, H3.out, by have := H4.out; rwa [HTK.out] at this⟩
        exact ((hnet.other (p := ⟨w.heap.size + 1, 0, none⟩) (by simp) _).other (p := ⟨w.heap.size + 1, 1, none⟩) (by simp) _).mono (by omega)
      · exact (H5.out.setCell (p := ⟨w.heap.size + 1, 0, none⟩) (by simp) _).setCell (p := ⟨w.heap.size + 1, 1, none⟩) (by simp) _
end Go.Proofs.Ythnlppbfmmiioaa
