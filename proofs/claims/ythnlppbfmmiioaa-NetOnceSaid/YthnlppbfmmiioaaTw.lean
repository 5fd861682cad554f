/- net.Twice. -/
import Derived.Test.YthnlppbfmmiioaaAsk
import Derived.Deep.RegionLaw
namespace Go.Proofs.Ythnlppbfmmiioaa
open Go.RowKit Go.Shelf

def twiceV (n : NetV) (at' : Int) (tells : Bool) : NetV × Int :=
  match tells with
  | true => (match n.tells[placeN at' n.tells.length]? with | some x => postV n x | none => (n, 0))
  | false => (match n.asks[placeN at' n.asks.length]? with | some x => sendV n x | none => (n, 0))

set_option maxHeartbeats 4000000 in
set_option maxRecDepth 100000 in
theorem twiceA_any (va vt : Value) (n : NetV) (at' : Int) (w : World) (hn : NetIs w va vt n) (hk : netOk n) :
    Calls Try.prog 22 #[netv va vt, .int .i64 at', .bool false] w fun e w' => ∃ ua ut, e = .returned (.tuple #[netv ua ut, .int .i64 (twiceV n at' false).2]) ∧ NetOwn w' w.heap.size ua ut (twiceV n at' false).1 ∧ Below w.heap.size w w' := by
  obtain ⟨ha, ms, ht, hms⟩ := hn
  obtain ⟨a0, c0, rfl, hl1, hl2, hl3, hoa⟩ := ha.open
  obtain ⟨a1, c1, rfl, hm1, hm2, hm3, hot⟩ := ht.open
  have hn : NetIs w (.slice a0 n.asks.length c0) (.slice a1 ms.length c1) n := ⟨ha, ms, ht, hms⟩
  obtain ⟨W, hW⟩ : ∃ W, W = (w.alloc (.cells #[.slice a0 n.asks.length c0, .slice a1 ms.length c1] 25)).alloc (.cells #[.slice none 0 0, .slice none 0 0] 25) := ⟨_, rfl⟩
  have hB : Below w.heap.size w W := by rw [hW]; exact ((Below.refl _ _).alloc (Nat.le_refl _) _).alloc (by simp) _
  have N0 : Hid (W.heap[w.heap.size]? = some (.cells #[.slice a0 n.asks.length c0, .slice a1 ms.length c1] 25)) := hid (by rw [hW]; exact blk_alloc (heap_new _ _) _)
  have R0 : Hid (W.heap[w.heap.size + 1]? = some (.cells #[.slice none 0 0, .slice none 0 0] 25)) := hid (by rw [hW]; exact heap_new2 _ _ _)
  have hzW : w.heap.size + 2 ≤ W.heap.size := by rw [hW]; simp
  have HO := hid hoa
  have HMS := hid hms
  have HN := hid hn
  have HB := hid hB
  have HK := hid hk
  have k1 : n.asks.length ≤ 1000 := hk.1
  obtain ⟨SP, hsp⟩ : ∃ SP, twiceV n at' false = SP := ⟨_, rfl⟩
  rw [hsp]
  have HSP := hid hsp
  have HW := hid hW
  clear ha ht hms hoa hot hn hk hB hsp hW
  have fin : ∀ (w3 : World) (u0 t0 : Option Addr) (un uc tn tc : Nat), Below W.heap.size W w3 → NetOwn w3 (w.heap.size + 2) (.slice u0 un uc) (.slice t0 tn tc) SP.1 →
      ∃ ua ut, Ending.returned (.tuple #[netv (.slice u0 un uc) (.slice t0 tn tc), .int .i64 SP.2]) = .returned (.tuple #[netv ua ut, .int .i64 SP.2]) ∧ NetOwn ((w3.setCell ⟨w.heap.size + 1, 0, none⟩ (.slice u0 un uc)).setCell ⟨w.heap.size + 1, 1, none⟩ (.slice t0 tn tc)) w.heap.size ua ut SP.1 ∧
        Below w.heap.size w ((w3.setCell ⟨w.heap.size + 1, 0, none⟩ (.slice u0 un uc)).setCell ⟨w.heap.size + 1, 1, none⟩ (.slice t0 tn tc)) := fun w3 u0 t0 un uc tn tc hb hnet =>
    ⟨_, _, rfl, (netown2 hnet (by omega) _ _).mono (by omega), below2 (HB.out.trans (hb.mono HB.out.size)) (by omega) _ _⟩
  have FIN := hid fin
  clear fin
  unfold netv at FIN ⊢
  by_cases hl : 0 < n.asks.length
  · have hp := (placeN_is at' n.asks.length hl (by omega)).2
    obtain ⟨j, hj⟩ : ∃ j, placeN at' n.asks.length = j := ⟨_, rfl⟩
    rw [hj] at hp
    have HJ := hid hj
    obtain ⟨b1, o1, rfl, hb1, hr1⟩ := HO.out hl
    obtain ⟨x, hx⟩ := get_lt hp
    obtain ⟨g0, g1, g2, g3, g4, g5⟩ := rowA (hr1.below HB.out hb1) hx
    have hspec : SP = sendV n x := by rw [← HSP.out]; unfold twiceV; simp only [hj, hx]
    have HS := hid hspec
    have hjk : (j : Int) < (n.asks.length : Int) := by omega
    have hzb : b1 < W.heap.size := by have := HB.out.size; omega
    clear hx hr1 hspec hj
    have HC : Hid (∀ W', Below W.heap.size W W' → Calls Try.prog 10 #[.agg #[.slice (some ⟨b1, o1, none⟩) n.asks.length c0, .slice a1 ms.length c1], .agg #[.int .u8 x.kind, .int .i64 x.call, .int .i64 x.a, .int .i64 x.b, .int .i64 x.c, .int .i64 x.d]] W' fun e w' => ∃ u0 un uc t0 tn tc, e = .returned (.tuple #[.agg #[.slice u0 un uc, .slice t0 tn tc], .int .i64 SP.2]) ∧ NetOwn w' (w.heap.size + 2) (.slice u0 un uc) (.slice t0 tn tc) SP.1 ∧ Below W'.heap.size W' w') := hid (fun W' hW' => by
      refine (send_any _ _ n x W' (HN.out.below (HB.out.trans (hW'.mono HB.out.size))) HK.out).mono ?_
      rintro e w' ⟨ua, ut, he, hnet, hb⟩
      obtain ⟨u0, un, uc, rfl⟩ := Owns.shape hnet.1
      obtain ⟨t0, tn, tc, rfl⟩ : ∃ a n c, ut = .slice a n c := by obtain ⟨_, ms, h, _⟩ := hnet; exact Owns.shape h
      rw [← HS.out] at he hnet
      exact ⟨u0, un, uc, t0, tn, tc, he, hnet.mono (by have := hW'.size; omega), hb⟩)
    go_enter Try.func22, Try.ntmps22
    go_wp2_with fail
    rw [← HW.out]
    refine (placeA_yes _ _ _ _ _ hl (by omega)).mono ?_
    rintro e w' ⟨rfl, rfl⟩
    rw [HJ.out]
    obtain ⟨k0, kk1, kf, kl⟩ := blk2 N0.out
    go_wp2_with fail
    go_region_law (first | (go_simp; go_at_call 10; refine (HC.out _ (below_drewN (Below.refl _ _) 1)).mono ?_; rintro e w2 ⟨u0, un, uc, t0, tn, tc, rfl, hnet, hb⟩; have HNET := hid hnet; have HQ := hid (show Below W.heap.size W w2 from (below_drewN (Below.refl _ _) 1).trans hb); clear hnet hb; obtain ⟨p0, p1, pf, pl⟩ := blk2 (blk_below R0.out HQ.out (blk_lt R0.out)); have PR := hid (blk_below R0.out HQ.out (blk_lt R0.out)); dsimp only))
    all_goals
      go_wp2
      refine bodyPost_ret (res_net_tmp rfl rfl rfl (set2 PR.out _ _)) rfl ?_
      exact FIN.out _ _ _ _ _ _ _ HQ.out HNET.out
  · have hl0 : n.asks.length = 0 := by omega
    have hnil : n.asks = [] := List.eq_nil_of_length_eq_zero (by exact hl0)
    have hspec : SP = (n, 0) := by rw [← HSP.out]; unfold twiceV; rw [hnil]; rfl
    have HC := hid (own_any _ _ n W (HN.out.below HB.out) HK.out)
    have HS := hid hspec
    have HL0 := hid hl0
    clear hnil hspec hl hl0
    go_enter Try.func22, Try.ntmps22
    go_wp2_with fail
    rw [← HW.out, HL0.out]
    refine (placeA_no _ _ _ _).mono ?_
    rintro e w' ⟨rfl, rfl⟩
    obtain ⟨k0, kk1, kf, kl⟩ := blk2 N0.out
    go_wp2_with fail
    refine HC.out.mono ?_
    rintro e w1 ⟨ua, ut, he, hnet, hb⟩
    unfold netv at he
    subst he
    obtain ⟨u0, un, uc, rfl⟩ := Owns.shape hnet.1
    obtain ⟨t0, tn, tc, rfl⟩ : ∃ a n c, ut = .slice a n c := by obtain ⟨_, ms, h, _⟩ := hnet; exact Owns.shape h
    have HNET := hid (hnet.mono hzW)
    have HQ := hid hb
    have PR := hid (blk_below R0.out hb (blk_lt R0.out))
    clear hnet hb k0 kk1 kf kl
    obtain ⟨r0, r1, rf, rl⟩ := blk2 PR.out
    go_wp2
    have hs := HS.out
    subst hs
    refine bodyPost_ret (res_net_tmp rfl rfl rfl (set2 PR.out _ _)) rfl ?_
    exact FIN.out _ _ _ _ _ _ _ HQ.out HNET.out

set_option maxHeartbeats 4000000 in
set_option maxRecDepth 100000 in
theorem twiceT_any (va vt : Value) (n : NetV) (at' : Int) (w : World) (hn : NetIs w va vt n) (hk : netOk n) :
    Calls Try.prog 22 #[netv va vt, .int .i64 at', .bool true] w fun e w' => ∃ ua ut, e = .returned (.tuple #[netv ua ut, .int .i64 (twiceV n at' true).2]) ∧ NetOwn w' w.heap.size ua ut (twiceV n at' true).1 ∧ Below w.heap.size w w' := by
  obtain ⟨ha, ms, ht, hms⟩ := hn
  obtain ⟨a0, c0, rfl, hl1, hl2, hl3, hoa⟩ := ha.open
  obtain ⟨a1, c1, rfl, hm1, hm2, hm3, hot⟩ := ht.open
  have hn : NetIs w (.slice a0 n.asks.length c0) (.slice a1 ms.length c1) n := ⟨ha, ms, ht, hms⟩
  obtain ⟨W, hW⟩ : ∃ W, W = (w.alloc (.cells #[.slice a0 n.asks.length c0, .slice a1 ms.length c1] 25)).alloc (.cells #[.slice none 0 0, .slice none 0 0] 25) := ⟨_, rfl⟩
  have hB : Below w.heap.size w W := by rw [hW]; exact ((Below.refl _ _).alloc (Nat.le_refl _) _).alloc (by simp) _
  have N0 : Hid (W.heap[w.heap.size]? = some (.cells #[.slice a0 n.asks.length c0, .slice a1 ms.length c1] 25)) := hid (by rw [hW]; exact blk_alloc (heap_new _ _) _)
  have R0 : Hid (W.heap[w.heap.size + 1]? = some (.cells #[.slice none 0 0, .slice none 0 0] 25)) := hid (by rw [hW]; exact heap_new2 _ _ _)
  have hzW : w.heap.size + 2 ≤ W.heap.size := by rw [hW]; simp
  have HO := hid hot
  have HMS := hid hms
  have HN := hid hn
  have HB := hid hB
  have HK := hid hk
  have k1 : ms.length ≤ 1000 := (by rw [hms.1]; exact hk.2.1)
  obtain ⟨SP, hsp⟩ : ∃ SP, twiceV n at' true = SP := ⟨_, rfl⟩
  rw [hsp]
  have HSP := hid hsp
  have HW := hid hW
  clear ha ht hms hoa hot hn hk hB hsp hW
  have fin : ∀ (w3 : World) (u0 t0 : Option Addr) (un uc tn tc : Nat), Below W.heap.size W w3 → NetOwn w3 (w.heap.size + 2) (.slice u0 un uc) (.slice t0 tn tc) SP.1 →
      ∃ ua ut, Ending.returned (.tuple #[netv (.slice u0 un uc) (.slice t0 tn tc), .int .i64 SP.2]) = .returned (.tuple #[netv ua ut, .int .i64 SP.2]) ∧ NetOwn ((w3.setCell ⟨w.heap.size + 1, 0, none⟩ (.slice u0 un uc)).setCell ⟨w.heap.size + 1, 1, none⟩ (.slice t0 tn tc)) w.heap.size ua ut SP.1 ∧
        Below w.heap.size w ((w3.setCell ⟨w.heap.size + 1, 0, none⟩ (.slice u0 un uc)).setCell ⟨w.heap.size + 1, 1, none⟩ (.slice t0 tn tc)) := fun w3 u0 t0 un uc tn tc hb hnet =>
    ⟨_, _, rfl, (netown2 hnet (by omega) _ _).mono (by omega), below2 (HB.out.trans (hb.mono HB.out.size)) (by omega) _ _⟩
  have FIN := hid fin
  clear fin
  unfold netv at FIN ⊢
  by_cases hl : 0 < ms.length
  · have hp := (placeN_is at' ms.length hl (by omega)).2
    obtain ⟨j, hj⟩ : ∃ j, placeN at' ms.length = j := ⟨_, rfl⟩
    rw [hj] at hp
    have HJ := hid hj
    obtain ⟨b1, o1, rfl, hb1, hr1⟩ := HO.out hl
    obtain ⟨x, hx⟩ := get_lt hp
    obtain ⟨tx, htx, hrx, hvx⟩ := tell_at HMS.out hx
    obtain ⟨xa, xc, hxs⟩ := shape_row hrx
    obtain ⟨xcall, xkind, xcode, xid, xsv, xmore⟩ := x
    simp only at hxs
    subst hxs
    have hsx : tx.seen.length ≤ 1000000 := by have := HK.out.2.2 tx (mem_get htx); omega
    obtain ⟨g0, g1, g2, g3, g4, g5⟩ := rowT (hr1.below HB.out hb1) hx
    have hspec : SP = postV n (TellM.val ⟨xcall, xkind, xcode, xid, .slice xa tx.seen.length xc, xmore⟩ tx.seen) := by rw [← HSP.out]; unfold twiceV; rw [← HMS.out.1]; simp only [hj, htx, hvx]
    have HS := hid hspec
    have hjk : (j : Int) < (ms.length : Int) := by omega
    have hzb : b1 < W.heap.size := by have := HB.out.size; omega
    clear hx hr1 hspec hj
    have HC : Hid (∀ W', Below W.heap.size W W' → Calls Try.prog 12 #[.agg #[.slice a0 n.asks.length c0, .slice (some ⟨b1, o1, none⟩) ms.length c1], .agg #[.int .i64 xcall, .int .u8 xkind, .int .u8 xcode, .int .i64 xid, .slice xa tx.seen.length xc, .bool xmore]] W' fun e w' => ∃ u0 un uc t0 tn tc, e = .returned (.tuple #[.agg #[.slice u0 un uc, .slice t0 tn tc], .int .i64 SP.2]) ∧ NetOwn w' (w.heap.size + 2) (.slice u0 un uc) (.slice t0 tn tc) SP.1 ∧ Below W'.heap.size W' w') := hid (fun W' hW' => by
      have hbw : Below w.heap.size w W' := HB.out.trans (hW'.mono HB.out.size)
      refine (post_any _ _ n xcall xkind xcode xid xa tx.seen.length xc xmore tx.seen W' (HN.out.below hbw) HK.out (RowOf.below hrx hbw) hsx).mono ?_
      rintro e w' ⟨ua, ut, he, hnet, hb⟩
      obtain ⟨u0, un, uc, rfl⟩ := Owns.shape hnet.1
      obtain ⟨t0, tn, tc, rfl⟩ : ∃ a n c, ut = .slice a n c := by obtain ⟨_, ms, h, _⟩ := hnet; exact Owns.shape h
      rw [show postV n ⟨xcall, xkind, xcode, xid, tx.seen, xmore⟩ = SP from HS.out.symm] at he hnet
      exact ⟨u0, un, uc, t0, tn, tc, he, hnet.mono (by have := hW'.size; omega), hb⟩)
    clear hrx htx hvx
    go_enter Try.func22, Try.ntmps22
    go_wp2_with fail
    rw [← HW.out]
    refine (placeT_yes _ _ _ _ _ hl (by omega)).mono ?_
    rintro e w' ⟨rfl, rfl⟩
    rw [HJ.out]
    obtain ⟨k0, kk1, kf, kl⟩ := blk2 N0.out
    go_wp2_with fail
    go_region_law (first | (go_simp; go_at_call 12; refine (HC.out _ (below_drewN (Below.refl _ _) 1)).mono ?_; rintro e w2 ⟨u0, un, uc, t0, tn, tc, rfl, hnet, hb⟩; have HNET := hid hnet; have HQ := hid (show Below W.heap.size W w2 from (below_drewN (Below.refl _ _) 1).trans hb); clear hnet hb; obtain ⟨p0, p1, pf, pl⟩ := blk2 (blk_below R0.out HQ.out (blk_lt R0.out)); have PR := hid (blk_below R0.out HQ.out (blk_lt R0.out)); dsimp only))
    all_goals
      go_wp2
      refine bodyPost_ret (res_net_tmp rfl rfl rfl (set2 PR.out _ _)) rfl ?_
      exact FIN.out _ _ _ _ _ _ _ HQ.out HNET.out
  · have hl0 : ms.length = 0 := by omega
    have hnil : n.tells = [] := List.eq_nil_of_length_eq_zero (by rw [← HMS.out.1]; exact hl0)
    have hspec : SP = (n, 0) := by rw [← HSP.out]; unfold twiceV; rw [hnil]; rfl
    have HC := hid (own_any _ _ n W (HN.out.below HB.out) HK.out)
    have HS := hid hspec
    have HL0 := hid hl0
    clear hnil hspec hl hl0
    go_enter Try.func22, Try.ntmps22
    go_wp2_with fail
    rw [← HW.out, HL0.out]
    refine (placeT_no _ _ _ _).mono ?_
    rintro e w' ⟨rfl, rfl⟩
    obtain ⟨k0, kk1, kf, kl⟩ := blk2 N0.out
    go_wp2_with fail
    refine HC.out.mono ?_
    rintro e w1 ⟨ua, ut, he, hnet, hb⟩
    unfold netv at he
    subst he
    obtain ⟨u0, un, uc, rfl⟩ := Owns.shape hnet.1
    obtain ⟨t0, tn, tc, rfl⟩ : ∃ a n c, ut = .slice a n c := by obtain ⟨_, ms, h, _⟩ := hnet; exact Owns.shape h
    have HNET := hid (hnet.mono hzW)
    have HQ := hid hb
    have PR := hid (blk_below R0.out hb (blk_lt R0.out))
    clear hnet hb k0 kk1 kf kl
    obtain ⟨r0, r1, rf, rl⟩ := blk2 PR.out
    go_wp2
    have hs := HS.out
    subst hs
    refine bodyPost_ret (res_net_tmp rfl rfl rfl (set2 PR.out _ _)) rfl ?_
    exact FIN.out _ _ _ _ _ _ _ HQ.out HNET.out
end Go.Proofs.Ythnlppbfmmiioaa
