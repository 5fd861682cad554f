/- net.Tell: what is taken lies in memory of the call's own. -/
import Derived.Test.YthnlppbfmmiioaaAsk
import Derived.Test.YthnlppbfmmiioaaTn0
namespace Go.Proofs.Ythnlppbfmmiioaa
open Go.RowKit Go.Shelf

set_option maxHeartbeats 4000000 in
set_option maxRecDepth 100000 in
theorem tell_own (va vt : Value) (n : NetV) (at' : Int) (w : World) (hn : NetIs w va vt n) (hk : netOk n) :
    Calls Try.prog 19 #[netv va vt, .int .i64 at'] w fun e w' => ∃ ua ut s, e = .returned (.tuple #[netv ua ut, tellS (tellV n at').2.1 s, .bool (tellV n at').2.2]) ∧ NetOwn w' w.heap.size ua ut (tellV n at').1 ∧ OwnN w' w.heap.size s (tellV n at').2.1.seen ∧ Below w.heap.size w w' := by
  obtain ⟨a0, n0, c0, rfl⟩ : ∃ a n c, va = .slice a n c := shape3 hn.1
  obtain ⟨a1, n1, c1, rfl⟩ : ∃ a n c, vt = .slice a n c := (by obtain ⟨_, ms, h, _⟩ := hn; exact shape3 h)
  obtain ⟨W, hW⟩ : ∃ W, W = ((w.alloc (.cells #[.slice a0 n0 c0, .slice a1 n1 c1] 25)).alloc (.cells #[.slice none 0 0, .slice none 0 0] 25)).alloc (.cells #[.int .i64 0, .int .u8 0, .int .u8 0, .int .i64 0, .slice none 0 0, .bool false] 30) := ⟨_, rfl⟩
  have hB : Below w.heap.size w W := by rw [hW]; exact (((Below.refl _ _).alloc (Nat.le_refl _) _).alloc (by simp) _).alloc (by simp; omega) _
  have R0 : Hid (W.heap[w.heap.size + 1]? = some (.cells #[.slice none 0 0, .slice none 0 0] 25)) := hid (by rw [hW]; exact blk_alloc (heap_new2 _ _ _) _)
  have A0 : Hid (W.heap[w.heap.size + 2]? = some (.cells #[.int .i64 0, .int .u8 0, .int .u8 0, .int .i64 0, .slice none 0 0, .bool false] 30)) := hid (by rw [hW]; simpa using heap_new2 (w.alloc _) _ _)
  have hsz : W.heap.size = w.heap.size + 3 := by rw [hW]; simp
  obtain ⟨SP, hsp⟩ : ∃ SP, tellV n at' = SP := ⟨_, rfl⟩
  rw [hsp]
  have HSP := hid hsp
  have HC := hid (own_any _ _ n W (hn.below hB) hk)
  have HB := hid hB
  have HSZ := hid hsz
  have hlen : n.tells.length ≤ 1000 := hk.2.1
  clear hn hk hB hsz hsp
  unfold netv
  go_enter Try.func19, Try.ntmps19
  go_wp2_with fail
  rw [← hW]
  clear hW
  refine HC.out.mono ?_
  rintro e w1 ⟨ua, ut, he, hnet, hb⟩
  unfold netv at he
  subst he
  obtain ⟨u0, un, uc, rfl⟩ := Owns.shape hnet.1
  obtain ⟨t0, tn, tc, rfl⟩ : ∃ a n c, ut = .slice a n c := by obtain ⟨_, ms, h, _⟩ := hnet; exact Owns.shape h
  have hs0 := HSZ.out
  have GR := hid (blk_below R0.out hb (blk_lt R0.out))
  have GA := hid (blk_below A0.out hb (blk_lt A0.out))
  have HZ := hid (HB.out.trans (hb.mono HB.out.size))
  have HN := hid (show NetOwn w1 (w.heap.size + 3) (.slice u0 un uc) (.slice t0 tn tc) n by rw [← hs0]; exact hnet)
  have hz1 : w.heap.size + 3 ≤ w1.heap.size := by have := hb.size; omega
  clear hnet hb hs0
  obtain ⟨r0, r1, rf, rl⟩ := blk2 GR.out
  go_wp2_with fail
  clear r0 r1 rf rl
  obtain ⟨W2, hW2⟩ : ∃ W2, W2 = (w1.setCell ⟨w.heap.size + 1, 0, none⟩ (.slice u0 un uc)).setCell ⟨w.heap.size + 1, 1, none⟩ (.slice t0 tn tc) := ⟨_, rfl⟩
  have hz2 : w.heap.size + 3 ≤ W2.heap.size := by rw [hW2]; simpa [World.setCell] using hz1
  have hgr : W2.heap[w.heap.size + 1]? = some (.cells #[.slice u0 un uc, .slice t0 tn tc] 25) := by rw [hW2]; exact blk_set (blk_set GR.out 0 _) 1 _
  have hga : W2.heap[w.heap.size + 2]? = some (.cells #[.int .i64 0, .int .u8 0, .int .u8 0, .int .i64 0, .slice none 0 0, .bool false] 30) := by rw [hW2]; exact blk_far (blk_far GA.out (by omega) _) (by omega) _
  have hnw : NetOwn W2 (w.heap.size + 3) (.slice u0 un uc) (.slice t0 tn tc) n := by rw [hW2]; exact (HN.out.other (p := ⟨w.heap.size + 1, 0, none⟩) (by simp) _).other (p := ⟨w.heap.size + 1, 1, none⟩) (by simp) _
  have hzw : Below w.heap.size w W2 := by rw [hW2]; exact (HZ.out.setCell (p := ⟨w.heap.size + 1, 0, none⟩) (by simp) _).setCell (p := ⟨w.heap.size + 1, 1, none⟩) (by simp) _
  rw [← hW2]
  clear hW2 GR GA HN HZ hz1
  have GR := hid hgr
  have GA := hid hga
  have HN := hid hnw
  have HZ := hid hzw
  clear hgr hga hnw hzw
  obtain ⟨ha, ms, ht, hms⟩ := HN.out
  have hlu : tn = ms.length := owns_len ht
  by_cases hl : n.tells = []
  · have hspec : SP = (n, zeroT, false) := by rw [← HSP.out]; unfold tellV; rw [hl]; rfl
    subst hspec
    have hu0 : tn = 0 := by rw [hlu, hms.1, hl]; rfl
    clear hlu
    subst hu0
    clear ha ht hms
    refine (withoutT_none (w.heap.size + 1) t0 tc (.slice u0 un uc) at' W2 GR.out).mono ?_
    rintro e w3 ⟨rfl, hb⟩
    have R3 := hid (blk_below GR.out hb (blk_lt GR.out))
    have A3 := hid (blk_below GA.out hb (blk_lt GA.out))
    have Z3 : Hid (Below w.heap.size w w3) := hid (HZ.out.trans (hb.mono HZ.out.size))
    have HN3 := hid (HN.out.below hb)
    clear hb
    obtain ⟨r0, r1, rf, rl⟩ := blk2 R3.out
    obtain ⟨x0, x1, x2, x3, x4, x5, xf, xl⟩ := blk6 A3.out
    go_wp2_with fail
    go_region
    go_wp2
    refine bodyPost_ret (res_net_tell rfl rfl rfl rfl (blk_drew (far6 (set2 (far6 R3.out (by omega) _ _ _ _ _ _) _ _) (by omega) _ _ _ _ _ _)) (blk_drew (set6 (far2 (set6 A3.out _ _ _ _ _ _) (by omega) _ _) _ _ _ _ _ _))) rfl ?_
    refine ⟨_, _, .slice none 0 0, rfl, ?_, ?_, ?_⟩
    · exact (netown_drew (netown6 (netown2 (netown6 HN3.out (by omega) _ _ _ _ _ _) (by omega) _ _) (by omega) _ _ _ _ _ _)).mono (by omega)
    · exact Owns.nil _ _
    · exact below_drew (below6 (below2 (below6 Z3.out (by omega) _ _ _ _ _ _) (by omega) _ _) (by omega) _ _ _ _ _ _)
  · have hpos : 0 < n.tells.length := List.length_pos_iff.2 hl
    have hp := (placeN_is at' n.tells.length hpos (by omega)).2
    obtain ⟨x, hx⟩ := get_lt hp
    have hspec : SP = (⟨n.asks, n.tells.eraseIdx (placeN at' n.tells.length)⟩, x, true) := by rw [← HSP.out]; unfold tellV; rw [hx]
    subst hspec
    obtain ⟨xm, hxm⟩ := get_lt (show placeN at' n.tells.length < ms.length by rw [hms.1]; exact hp)
    obtain ⟨hxo, hxv⟩ := hms.2 _ _ _ hxm hx
    obtain ⟨xl, hxl⟩ : ∃ xl, x = xm.val xl := ⟨x.seen, hxv.symm⟩
    subst hxl
    have hxo' : OwnN W2 (w.heap.size + 3) xm.sv xl := hxo
    obtain ⟨sa, sn, sc, hss⟩ := hxo'.shape
    obtain ⟨xcall, xkind, xcode, xid, xsv, xmore⟩ := xm
    simp only at hss
    subst hss
    have hsv : ∃ a n c, (⟨xcall, xkind, xcode, xid, .slice sa sn sc, xmore⟩ : TellM).sv = .slice a n c := ⟨_, _, _, rfl⟩
    have hm1 : ms.length ≤ 1000 := by rw [hms.1]; exact hlen
    have hm2 : 0 < ms.length := by rw [hms.1]; exact hpos
    have hplc : placeN at' ms.length = placeN at' n.tells.length := by rw [hms.1]
    clear hxv hxo
    subst hlu
    obtain ⟨g, gc, hg⟩ : ∃ g gc, (Value.slice t0 ms.length tc) = .slice (some ⟨g, 0, none⟩) ms.length gc := by
      rcases Owns.form ht with ⟨_, h0⟩ | ⟨g, gc, hv, _, _⟩
      · exact absurd (by have := hms.1; rw [h0] at this; exact List.eq_nil_of_length_eq_zero this.symm) hl
      · exact ⟨g, gc, hv⟩
    cases hg
    have hgl : (some g : Option Nat) = some g := rfl
    refine (withoutT_some (w.heap.size + 1) (w.heap.size + 3) g tc _ (.slice u0 un uc) at' ⟨xcall, xkind, xcode, xid, .slice sa sn sc, xmore⟩ ms W2 GR.out ht (by omega) (by omega) (by omega) hplc hxm (tells_one hms) hsv).mono ?_
    rintro e w3 ⟨rfl, hb3, ho3, hon, hbe⟩
    obtain ⟨cg, hcg⟩ := Owns.typed ht g rfl
    have hgb := (Owns.block ht g rfl).1
    have haw := on_away hon hcg
    have R3 := hid hb3
    have A3 := hid ((hon.block (w.heap.size + 2) ⟨by omega, by omega⟩ (blk_lt GA.out)).trans GA.out)
    have Z3 : Hid (Below w.heap.size w w3) := hid (HZ.out.trans (hbe.mono (by omega)))
    have HN3 : Hid (NetOwn w3 (w.heap.size + 3) (.slice u0 un uc) (.slice (some ⟨g, 0, none⟩) (ms.length - 1) tc) ⟨n.asks, n.tells.eraseIdx (placeN at' n.tells.length)⟩) := hid ⟨Owns.away ha haw (by omega) (by decide), _, ho3, (hms.away haw (by omega) (by decide)).erase⟩
    have HX3 := hid (Owns.away hxo' haw (by omega) (by decide))
    clear hb3 ho3 hon hbe haw hcg ha ht hms
    obtain ⟨r0, r1, rf, rl⟩ := blk2 R3.out
    obtain ⟨x0, x1, x2, x3, x4, x5, xf, xl⟩ := blk6 A3.out
    go_wp2_with fail
    go_region
    go_wp2
    refine bodyPost_ret (res_net_tell rfl rfl rfl rfl (blk_drew (far6 (set2 (far6 R3.out (by omega) _ _ _ _ _ _) _ _) (by omega) _ _ _ _ _ _)) (blk_drew (set6 (far2 (set6 A3.out _ _ _ _ _ _) (by omega) _ _) _ _ _ _ _ _))) rfl ?_
    refine ⟨_, _, _, rfl, ?_, ?_, ?_⟩
    · exact (netown_drew (netown6 (netown2 (netown6 HN3.out (by omega) _ _ _ _ _ _) (by omega) _ _) (by omega) _ _ _ _ _ _)).mono (by omega)
    · exact (Owns.below (owns6 (owns2 (owns6 HX3.out (by omega) _ _ _ _ _ _) (by omega) _ _) (by omega) _ _ _ _ _ _) (below_drewN (Below.refl _ _) 1)).mono (by omega)
    · exact below_drew (below6 (below2 (below6 Z3.out (by omega) _ _ _ _ _ _) (by omega) _ _) (by omega) _ _ _ _ _ _)
end Go.Proofs.Ythnlppbfmmiioaa
