/- The reference's Send and Post. -/
import Derived.Test.YthnlppbfmmiioaaTw
import Derived.Deep.RegionLaw
import Derived.Deep.Cut
namespace Go.Proofs.Ythnlppbfmmiioaa
open Go.RowKit Go.Shelf

set_option maxHeartbeats 4000000 in
set_option maxRecDepth 100000 in
theorem rsend_any (va vt : Value) (n : NetV) (x : AskV) (w : World) (hn : NetIs w va vt n) (hk : netOk n) :
    Calls Try.prog 11 #[netv va vt, aggA x] w fun e w' => ∃ ua ut, e = .returned (.tuple #[netv ua ut, .int .i64 (sendV n x).2]) ∧ NetOwn w' w.heap.size ua ut (sendV n x).1 ∧ Below w.heap.size w w' := by
  obtain ⟨i0, hi, hy0, hy1, hy2⟩ := info_parts infoA
  obtain ⟨a0, n0, c0, rfl⟩ : ∃ a n c, va = .slice a n c := shape3 hn.1
  obtain ⟨a1, n1, c1, rfl⟩ : ∃ a n c, vt = .slice a n c := (by obtain ⟨_, ms, h, _⟩ := hn; exact shape3 h)
  obtain ⟨W, hW⟩ : ∃ W, W = ((w.alloc (.cells #[.slice a0 n0 c0, .slice a1 n1 c1] 25)).alloc (.cells #[.int .u8 x.kind, .int .i64 x.call, .int .i64 x.a, .int .i64 x.b, .int .i64 x.c, .int .i64 x.d] 27)).alloc (.cells #[.slice none 0 0, .slice none 0 0] 25) := ⟨_, rfl⟩
  have hB : Below w.heap.size w W := by rw [hW]; exact (((Below.refl _ _).alloc (Nat.le_refl _) _).alloc (by simp) _).alloc (by simp; omega) _
  have B0 : Hid (W.heap[w.heap.size]? = some (.cells #[.slice a0 n0 c0, .slice a1 n1 c1] 25)) := hid (by rw [hW]; exact blk_alloc (blk_alloc (heap_new _ _) _) _)
  have X0 : Hid (W.heap[w.heap.size + 1]? = some (.cells #[.int .u8 x.kind, .int .i64 x.call, .int .i64 x.a, .int .i64 x.b, .int .i64 x.c, .int .i64 x.d] 27)) := hid (by rw [hW]; exact blk_alloc (heap_new2 _ _ _) _)
  have R0 : Hid (W.heap[w.heap.size + 2]? = some (.cells #[.slice none 0 0, .slice none 0 0] 25)) := hid (by rw [hW]; simpa using heap_new2 (w.alloc _) _ _)
  have hsz : W.heap.size = w.heap.size + 3 := by rw [hW]; simp
  obtain ⟨SP, hsp⟩ : ∃ SP, sendV n x = SP := ⟨_, rfl⟩
  rw [hsp]
  have HSP := hid hsp
  have HC := hid (rnown_any _ _ n W (hn.below hB) hk)
  have HB := hid hB
  have HSZ := hid hsz
  have hlen : n.asks.length ≤ 1000 := hk.1
  clear hn hk hB hsz hsp
  unfold netv
  unfold aggA
  go_enter Try.func11, Try.ntmps11
  go_wp2_with fail
  rw [← hW]
  clear hW
  refine HC.out.mono ?_
  rintro e w1 ⟨ua, ut, he, hnet, hb⟩
  unfold netv at he
  subst he
  obtain ⟨u0, un, uc, rfl⟩ := Owns.shape hnet.1
  obtain ⟨t0, tn, tc, rfl⟩ : ∃ a n c, ut = .slice a n c := by obtain ⟨_, ms, h, _⟩ := hnet; exact Owns.shape h
  have hs0 := HSZ.out
  have G0 := hid (blk_below B0.out hb (blk_lt B0.out))
  have GX := hid (blk_below X0.out hb (blk_lt X0.out))
  have GR := hid (blk_below R0.out hb (blk_lt R0.out))
  have HZ := hid (HB.out.trans (hb.mono HB.out.size))
  have HN := hid (show NetOwn w1 (w.heap.size + 3) (.slice u0 un uc) (.slice t0 tn tc) n by rw [← hs0]; exact hnet)
  have hz1 : w.heap.size + 3 ≤ w1.heap.size := by have := hb.size; omega
  clear hnet hb hs0
  obtain ⟨k0, k1, kf, kl⟩ := blk2 G0.out
  go_upto_region 2 with fail
  clear k0 k1 kf kl
  obtain ⟨W2, hW2⟩ : ∃ W2, W2 = (w1.setCell ⟨w.heap.size, 0, none⟩ (.slice u0 un uc)).setCell ⟨w.heap.size, 1, none⟩ (.slice t0 tn tc) := ⟨_, rfl⟩
  have hz2 : w.heap.size + 3 ≤ W2.heap.size := by rw [hW2]; simpa [World.setCell] using hz1
  have hg0 : W2.heap[w.heap.size]? = some (.cells #[.slice u0 un uc, .slice t0 tn tc] 25) := by rw [hW2]; exact set2 G0.out _ _
  have hgr : W2.heap[w.heap.size + 2]? = some (.cells #[.slice none 0 0, .slice none 0 0] 25) := by rw [hW2]; exact far2 GR.out (by omega) _ _
  have hgx : W2.heap[w.heap.size + 1]? = some (.cells #[.int .u8 x.kind, .int .i64 x.call, .int .i64 x.a, .int .i64 x.b, .int .i64 x.c, .int .i64 x.d] 27) := by rw [hW2]; exact far2 GX.out (by omega) _ _
  have hnw : NetOwn W2 (w.heap.size + 3) (.slice u0 un uc) (.slice t0 tn tc) n := by rw [hW2]; exact netown2 HN.out (by omega) _ _
  have hzw : Below w.heap.size w W2 := by rw [hW2]; exact below2 HZ.out (Nat.le_refl _) _ _
  rw [← hW2]
  clear hW2 G0 GR HN HZ GX hz1
  have G0 := hid hg0
  have GR := hid hgr
  have GX := hid hgx
  have HN := hid hnw
  have HZ := hid hzw
  clear hg0 hgr hgx hnw hzw
  obtain ⟨ha, ms, ht, hms⟩ := HN.out
  have hlu : un = n.asks.length := owns_len ha
  subst hlu
  have HA := hid ha
  have HT := hid ht
  have HMS := hid hms
  clear ha ht hms
  obtain ⟨k0, k1, kf, kl⟩ := blk2 G0.out
  obtain ⟨x0, x1, x2, x3, x4, x5, xf, xl⟩ := blk6 GX.out
  obtain ⟨r0, r1, rf, rl⟩ := blk2 GR.out
  by_cases hl : n.asks.length < 60
  · have hspec : SP = (⟨n.asks ++ [x], n.tells⟩, 0) := by rw [← HSP.out]; unfold sendV; rw [if_pos (by exact hl)]
    subst hspec
    have d1 : decide ((60 : Int) ≤ (n.asks.length : Int)) = false := by simp; omega
    have c1 : n.asks.length + 1 ≤ maxLen := by unfold maxLen; omega
    have c2 : (n.asks.length + 1) * 48 ≤ 140737488355328 := by omega
    go_upto_region 4 with fail
    have O1 := hid (Owns.below HA.out (show Below W2.heap.size W2 (W2.alloc (.cells #[.int .u8 x.kind, .int .i64 x.call, .int .i64 x.a, .int .i64 x.b, .int .i64 x.c, .int .i64 x.d] 27)) from (Below.refl _ _).alloc (Nat.le_refl _) _))
    go_wp2_with (at_builtin; refine append_one' rfl _ _ 22 rfl (w.heap.size + 3) 27 i0 _ 48 Try.underlying22 hi hy0 hy1 hy2 rfl (by decide) encA_len _ n.asks rfl O1.out ⟨W2.heap.size, 0, none⟩ x rfl (encA_one x) (new_cells' W2 #[.int .u8 x.kind, .int .i64 x.call, .int .i64 x.a, .int .i64 x.b, .int .i64 x.c, .int .i64 x.d] _) c1 c2 (by simp; omega) ?_; intro lv w3 hown3 hbw3 hgr3; obtain ⟨la, ln, lc, rfl⟩ := hown3.shape; have HO3 := hid hown3; have HB3 := hid hbw3; have HG3 := hid hgr3; clear hown3 hbw3 hgr3; have P0 := hid (blk_below (blk_alloc G0.out (.cells #[.int .u8 x.kind, .int .i64 x.call, .int .i64 x.a, .int .i64 x.b, .int .i64 x.c, .int .i64 x.d] 27)) HB3.out (by omega)); have PR := hid (blk_below (blk_alloc GR.out (.cells #[.int .u8 x.kind, .int .i64 x.call, .int .i64 x.a, .int .i64 x.b, .int .i64 x.c, .int .i64 x.d] 27)) HB3.out (by omega)); obtain ⟨p0, p1, pf, pl⟩ := blk2 P0.out; obtain ⟨s0, s1, sf, sl⟩ := blk2 PR.out)
    have hal : Below W2.heap.size W2 (W2.alloc (.cells #[.int .u8 x.kind, .int .i64 x.call, .int .i64 x.a, .int .i64 x.b, .int .i64 x.c, .int .i64 x.d] 27)) := (Below.refl _ _).alloc (Nat.le_refl _) _
    have hty : ∀ r, (Value.slice u0 n.asks.length uc).ownBlock = some r → ∃ c, (W2.alloc (.cells #[.int .u8 x.kind, .int .i64 x.call, .int .i64 x.a, .int .i64 x.b, .int .i64 x.c, .int .i64 x.d] 27)).heap[r]? = some (.cells c 27) := fun r e => Owns.typed O1.out r e
    have hnet : NetOwn w3 (w.heap.size + 3) (.slice la ln lc) (.slice t0 tn tc) ⟨n.asks ++ [x], n.tells⟩ := ⟨HO3.out, ms, Owns.apart (Owns.below HT.out hal) HG3.out hty (by decide), TellsOwn.apart (HMS.out.below hal) HG3.out hty (by decide)⟩
    refine bodyPost_ret (res_net_tmp rfl rfl rfl (set2 (blk_far PR.out (by omega) _) _ _)) rfl ⟨_, _, rfl, ?_, ?_⟩
    · exact (netown2 (hnet.other (p := ⟨w.heap.size, 0, none⟩) (by simp) _) (by omega) _ _).mono (by omega)
    · exact below2 (((HZ.out.trans (hal.mono HZ.out.size)).trans (HB3.out.mono (by omega))).setCell (p := ⟨w.heap.size, 0, none⟩) (Nat.le_refl _) _) (by omega) _ _
  · have hspec : SP = (n, 110) := by rw [← HSP.out]; unfold sendV; rw [if_neg (by exact hl)]
    subst hspec
    have d1 : decide ((60 : Int) ≤ (n.asks.length : Int)) = true := by simp; omega
    go_wp2
    refine bodyPost_ret (res_net_tmp rfl rfl rfl (set2 GR.out _ _)) rfl ⟨_, _, rfl, ?_, ?_⟩
    · exact (netown2 HN.out (by omega) _ _).mono (by omega)
    · exact below2 HZ.out (by omega) _ _

set_option maxHeartbeats 4000000 in
set_option maxRecDepth 100000 in
theorem rpost_any (va vt : Value) (n : NetV) (ca ki co di : Int) (a : Option Addr) (ns c : Nat) (mo : Bool) (L : List SeenV) (w : World) (hn : NetIs w va vt n) (hk : netOk n) (hx : RowN w (.slice a ns c) L) (hL : L.length ≤ 1000000) :
    Calls Try.prog 13 #[netv va vt, .agg #[.int .i64 ca, .int .u8 ki, .int .u8 co, .int .i64 di, .slice a ns c, .bool mo]] w fun e w' => ∃ ua ut, e = .returned (.tuple #[netv ua ut, .int .i64 (postV n ⟨ca, ki, co, di, L, mo⟩).2]) ∧ NetOwn w' w.heap.size ua ut (postV n ⟨ca, ki, co, di, L, mo⟩).1 ∧ Below w.heap.size w w' := by
  obtain ⟨i0, hi, hy0, hy1, hy2⟩ := info_parts infoT
  obtain ⟨a0, n0, c0, rfl⟩ : ∃ a n c, va = .slice a n c := shape3 hn.1
  obtain ⟨a1, n1, c1, rfl⟩ : ∃ a n c, vt = .slice a n c := (by obtain ⟨_, ms, h, _⟩ := hn; exact shape3 h)
  obtain ⟨W, hW⟩ : ∃ W, W = ((w.alloc (.cells #[.slice a0 n0 c0, .slice a1 n1 c1] 25)).alloc (.cells #[.int .i64 ca, .int .u8 ki, .int .u8 co, .int .i64 di, .slice a ns c, .bool mo] 30)).alloc (.cells #[.slice none 0 0, .slice none 0 0] 25) := ⟨_, rfl⟩
  have hB : Below w.heap.size w W := by rw [hW]; exact (((Below.refl _ _).alloc (Nat.le_refl _) _).alloc (by simp) _).alloc (by simp; omega) _
  have B0 : Hid (W.heap[w.heap.size]? = some (.cells #[.slice a0 n0 c0, .slice a1 n1 c1] 25)) := hid (by rw [hW]; exact blk_alloc (blk_alloc (heap_new _ _) _) _)
  have X0 : Hid (W.heap[w.heap.size + 1]? = some (.cells #[.int .i64 ca, .int .u8 ki, .int .u8 co, .int .i64 di, .slice a ns c, .bool mo] 30)) := hid (by rw [hW]; exact blk_alloc (heap_new2 _ _ _) _)
  have R0 : Hid (W.heap[w.heap.size + 2]? = some (.cells #[.slice none 0 0, .slice none 0 0] 25)) := hid (by rw [hW]; simpa using heap_new2 (w.alloc _) _ _)
  have hsz : W.heap.size = w.heap.size + 3 := by rw [hW]; simp
  obtain ⟨SP, hsp⟩ : ∃ SP, postV n ⟨ca, ki, co, di, L, mo⟩ = SP := ⟨_, rfl⟩
  rw [hsp]
  have HSP := hid hsp
  have HC := hid (rnown_any _ _ n W (hn.below hB) hk)
  have HB := hid hB
  have HSZ := hid hsz
  have hlen : n.tells.length ≤ 1000 := hk.2.1
  have HX := hid hx
  clear hn hk hB hsz hsp hx
  unfold netv
  go_enter Try.func13, Try.ntmps13
  go_wp2_with fail
  rw [← hW]
  clear hW
  refine HC.out.mono ?_
  rintro e w1 ⟨ua, ut, he, hnet, hb⟩
  unfold netv at he
  subst he
  obtain ⟨u0, un, uc, rfl⟩ := Owns.shape hnet.1
  obtain ⟨t0, tn, tc, rfl⟩ : ∃ a n c, ut = .slice a n c := by obtain ⟨_, ms, h, _⟩ := hnet; exact Owns.shape h
  have hs0 := HSZ.out
  have G0 := hid (blk_below B0.out hb (blk_lt B0.out))
  have GX := hid (blk_below X0.out hb (blk_lt X0.out))
  have GR := hid (blk_below R0.out hb (blk_lt R0.out))
  have HZ := hid (HB.out.trans (hb.mono HB.out.size))
  have HN := hid (show NetOwn w1 (w.heap.size + 3) (.slice u0 un uc) (.slice t0 tn tc) n by rw [← hs0]; exact hnet)
  have hz1 : w.heap.size + 3 ≤ w1.heap.size := by have := hb.size; omega
  clear hnet hb hs0
  obtain ⟨k0, k1, kf, kl⟩ := blk2 G0.out
  go_upto_region 2 with fail
  clear k0 k1 kf kl
  obtain ⟨W2, hW2⟩ : ∃ W2, W2 = (w1.setCell ⟨w.heap.size, 0, none⟩ (.slice u0 un uc)).setCell ⟨w.heap.size, 1, none⟩ (.slice t0 tn tc) := ⟨_, rfl⟩
  have hz2 : w.heap.size + 3 ≤ W2.heap.size := by rw [hW2]; simpa [World.setCell] using hz1
  have hg0 : W2.heap[w.heap.size]? = some (.cells #[.slice u0 un uc, .slice t0 tn tc] 25) := by rw [hW2]; exact set2 G0.out _ _
  have hgr : W2.heap[w.heap.size + 2]? = some (.cells #[.slice none 0 0, .slice none 0 0] 25) := by rw [hW2]; exact far2 GR.out (by omega) _ _
  have hgx : W2.heap[w.heap.size + 1]? = some (.cells #[.int .i64 ca, .int .u8 ki, .int .u8 co, .int .i64 di, .slice a ns c, .bool mo] 30) := by rw [hW2]; exact far2 GX.out (by omega) _ _
  have hnw : NetOwn W2 (w.heap.size + 3) (.slice u0 un uc) (.slice t0 tn tc) n := by rw [hW2]; exact netown2 HN.out (by omega) _ _
  have hzw : Below w.heap.size w W2 := by rw [hW2]; exact below2 HZ.out (Nat.le_refl _) _ _
  rw [← hW2]
  clear hW2 G0 GR HN HZ GX hz1
  have G0 := hid hg0
  have GR := hid hgr
  have GX := hid hgx
  have HN := hid hnw
  have HZ := hid hzw
  clear hg0 hgr hgx hnw hzw
  obtain ⟨ha, ms, ht, hms⟩ := HN.out
  have hlu : tn = ms.length := owns_len ht
  subst hlu
  have HA := hid ha
  have HT := hid ht
  have HMS := hid hms
  have hml : ms.length ≤ 1000 := by rw [hms.1]; exact hlen
  clear ha ht hms
  obtain ⟨k0, k1, kf, kl⟩ := blk2 G0.out
  obtain ⟨x0, x1, x2, x3, x4, x5, xf, xl⟩ := blk6 GX.out
  obtain ⟨r0, r1, rf, rl⟩ := blk2 GR.out
  by_cases hl : ms.length < 60
  · have hspec : SP = (⟨n.asks, n.tells ++ [⟨ca, ki, co, di, L, mo⟩]⟩, 0) := by rw [← HSP.out]; unfold postV; rw [if_pos (by rw [← HMS.out.1]; exact hl)]
    subst hspec
    have d1 : decide ((60 : Int) ≤ (ms.length : Int)) = false := by simp; omega
    have c1 : ms.length + 1 ≤ maxLen := by unfold maxLen; omega
    have c2 : (ms.length + 1) * 56 ≤ 140737488355328 := by omega
    have HC2 : Hid (∀ W', Below W2.heap.size W2 W' → Calls Try.prog 29 #[.agg #[.int .i64 ca, .int .u8 ki, .int .u8 co, .int .i64 di, .slice a ns c, .bool mo]] W' fun e w' => ∃ a' n' c', e = .returned (.agg #[.int .i64 ca, .int .u8 ki, .int .u8 co, .int .i64 di, .slice a' n' c', .bool mo]) ∧ OwnN w' W'.heap.size (.slice a' n' c') L ∧ Below W'.heap.size W' w') := hid (fun W' hW' => rtell_any ca ki co di a ns c mo L W' hL (RowOf.below HX.out (HZ.out.trans (hW'.mono HZ.out.size))))
    go_upto_region 4 with fail
    go_wp2_with fail
    go_region_law (first | (go_simp; go_at_call 29; refine (HC2.out _ (below_drewN (Below.refl _ _) 1)).mono ?_; rintro e w2 ⟨b1, m1, cc1, rfl, hown, hb⟩; have HO1 := hid hown; have HQ := hid (show Below W2.heap.size W2 w2 from (below_drewN (Below.refl _ _) 1).trans hb); have hz3 : W2.heap.size ≤ w2.heap.size := HQ.out.size; clear hown hb; obtain ⟨p0, p1, pf, pl⟩ := blk2 (blk_below G0.out HQ.out (blk_lt G0.out)); dsimp only) | (refine step_append_one rfl _ _ 23 rfl (w.heap.size + 3) 30 i0 _ 56 Try.underlying23 hi hy0 hy1 hy2 rfl (by decide) encT_len _ ms rfl (World.ownsRow.alloc (Owns.below HT.out HQ.out) _) ⟨w2.heap.size, 0, none⟩ ⟨ca, ki, co, di, .slice b1 m1 cc1, mo⟩ rfl (encT_one ⟨ca, ki, co, di, .slice b1 m1 cc1, mo⟩ rfl) (new_cells' w2 #[.int .i64 ca, .int .u8 ki, .int .u8 co, .int .i64 di, .slice b1 m1 cc1, .bool mo] _) c1 c2 (by simp; omega) ?_; intro lv w3 hown3 hbw3 hgr3; obtain ⟨la, ln, lc, rfl⟩ := hown3.shape; have HO3 := hid hown3; have HB3 := hid hbw3; have HG3 := hid hgr3; clear hown3 hbw3 hgr3; have P0 := hid (blk_below (blk_alloc (blk_below G0.out HQ.out (blk_lt G0.out)) (.cells #[.int .i64 ca, .int .u8 ki, .int .u8 co, .int .i64 di, .slice b1 m1 cc1, .bool mo] 30)) HB3.out (by omega)); have PR := hid (blk_below (blk_alloc (blk_below GR.out HQ.out (blk_lt GR.out)) (.cells #[.int .i64 ca, .int .u8 ki, .int .u8 co, .int .i64 di, .slice b1 m1 cc1, .bool mo] 30)) HB3.out (by omega)); obtain ⟨p0, p1, pf, pl⟩ := blk2 P0.out; obtain ⟨s0, s1, sf, sl⟩ := blk2 PR.out))
    all_goals
      go_wp2
      have hal2 : Below w2.heap.size w2 (w2.alloc (.cells #[.int .i64 ca, .int .u8 ki, .int .u8 co, .int .i64 di, .slice b1 m1 cc1, .bool mo] 30)) := (Below.refl _ _).alloc (Nat.le_refl _) _
      have hal : Below W2.heap.size W2 (w2.alloc (.cells #[.int .i64 ca, .int .u8 ki, .int .u8 co, .int .i64 di, .slice b1 m1 cc1, .bool mo] 30)) := HQ.out.alloc HQ.out.size _
      have hty : ∀ r, (Value.slice t0 ms.length tc).ownBlock = some r → ∃ c, (w2.alloc (.cells #[.int .i64 ca, .int .u8 ki, .int .u8 co, .int .i64 di, .slice b1 m1 cc1, .bool mo] 30)).heap[r]? = some (.cells c 30) := fun r e => by
        obtain ⟨c, hc⟩ := Owns.typed HT.out r e
        exact ⟨c, blk_below hc hal (blk_lt hc)⟩
      have hnet : NetOwn w3 (w.heap.size + 3) (.slice u0 un uc) (.slice la ln lc) ⟨n.asks, n.tells ++ [⟨ca, ki, co, di, L, mo⟩]⟩ := ⟨Owns.apart (Owns.below HA.out hal) HG3.out hty (by decide), _, HO3.out, (TellsOwn.apart (HMS.out.below hal) HG3.out hty (by decide)).snoc (TellOwn.apart (TellOwn.below (base := w.heap.size + 3) ⟨Owns.mono HO1.out (by exact hz2), rfl⟩ hal2) HG3.out hty (by decide))⟩
      refine bodyPost_ret (res_net_tmp rfl rfl rfl (set2 (blk_far PR.out (by omega) _) _ _)) rfl ⟨_, _, rfl, ?_, ?_⟩
      · exact (netown2 (hnet.other (p := ⟨w.heap.size, 1, none⟩) (by simp) _) (by omega) _ _).mono (by omega)
      · exact below2 (((HZ.out.trans (hal.mono HZ.out.size)).trans (HB3.out.mono (by omega))).setCell (p := ⟨w.heap.size, 1, none⟩) (Nat.le_refl _) _) (by omega) _ _
  · have hspec : SP = (n, 110) := by rw [← HSP.out]; unfold postV; rw [if_neg (by rw [← HMS.out.1]; exact hl)]
    subst hspec
    have d1 : decide ((60 : Int) ≤ (ms.length : Int)) = true := by simp; omega
    go_wp2
    refine bodyPost_ret (res_net_tmp rfl rfl rfl (set2 GR.out _ _)) rfl ⟨_, _, rfl, ?_, ?_⟩
    · exact (netown2 HN.out (by omega) _ _).mono (by omega)
    · exact below2 HZ.out (by omega) _ _
end Go.Proofs.Ythnlppbfmmiioaa
