/- The reference's Tell. -/
import Derived.Test.YthnlppbfmmiioaaRak
import Derived.Deep.RegionLaw
import Derived.IntWalk
import Derived.Deep.Cut
namespace Go.Proofs.Ythnlppbfmmiioaa
open Go.RowKit Go.Shelf

set_option maxHeartbeats 4000000 in
set_option maxRecDepth 100000 in
theorem rtellm_any (va vt : Value) (n : NetV) (at' : Int) (w : World) (hn : NetIs w va vt n) (hk : netOk n) :
    Calls Try.prog 20 #[netv va vt, .int .i64 at'] w fun e w' => ∃ ua ut s, e = .returned (.tuple #[netv ua ut, tellS (tellV n at').2.1 s, .bool (tellV n at').2.2]) ∧ NetOwn w' w.heap.size ua ut (tellV n at').1 ∧ RowN w' s (tellV n at').2.1.seen ∧ Below w.heap.size w w' := by
  obtain ⟨i0, hi, hy0, hy1, hy2⟩ := info_parts infoT
  obtain ⟨a0, n0, c0, rfl⟩ : ∃ a n c, va = .slice a n c := shape3 hn.1
  obtain ⟨a1, n1, c1, rfl⟩ : ∃ a n c, vt = .slice a n c := (by obtain ⟨_, ms, h, _⟩ := hn; exact shape3 h)
  obtain ⟨W, hW⟩ : ∃ W, W = ((w.alloc (.cells #[.slice a0 n0 c0, .slice a1 n1 c1] 25)).alloc (.cells #[.slice none 0 0, .slice none 0 0] 25)).alloc (.cells #[.int .i64 0, .int .u8 0, .int .u8 0, .int .i64 0, .slice none 0 0, .bool false] 30) := ⟨_, rfl⟩
  have hB : Below w.heap.size w W := by rw [hW]; exact (((Below.refl _ _).alloc (Nat.le_refl _) _).alloc (by simp) _).alloc (by simp; omega) _
  have B0 : Hid (W.heap[w.heap.size]? = some (.cells #[.slice a0 n0 c0, .slice a1 n1 c1] 25)) := hid (by rw [hW]; exact blk_alloc (blk_alloc (heap_new _ _) _) _)
  have R0 : Hid (W.heap[w.heap.size + 1]? = some (.cells #[.slice none 0 0, .slice none 0 0] 25)) := hid (by rw [hW]; exact blk_alloc (heap_new2 _ _ _) _)
  have A0 : Hid (W.heap[w.heap.size + 2]? = some (.cells #[.int .i64 0, .int .u8 0, .int .u8 0, .int .i64 0, .slice none 0 0, .bool false] 30)) := hid (by rw [hW]; simpa using heap_new2 (w.alloc _) _ _)
  have hsz : W.heap.size = w.heap.size + 3 := by rw [hW]; simp
  obtain ⟨SP, hsp⟩ : ∃ SP, tellV n at' = SP := ⟨_, rfl⟩
  rw [hsp]
  have HSP := hid hsp
  have HC := hid (rnown_any _ _ n W (hn.below hB) hk)
  have HB := hid hB
  have HSZ := hid hsz
  have hlen : n.tells.length ≤ 1000 := hk.2.1
  clear hn hk hB hsz hsp
  unfold netv
  go_enter Try.func20, Try.ntmps20
  go_wp2_with fail
  rw [← hW]
  clear hW
  refine HC.out.mono ?_
  rintro e w1 ⟨ua, ut, he, hnet, hb⟩
  unfold netv at he
  subst he
  obtain ⟨u0, un, uc, rfl⟩ := Owns.shape hnet.1
  obtain ⟨t0, tn, tc, rfl⟩ : ∃ a n c, ut = .slice a n c := by obtain ⟨_, ms, h, _⟩ := hnet; exact Owns.shape h
  have hs0 := HSZ.out
  have G0 := hid (blk_below B0.out hb (blk_lt B0.out))
  have GR := hid (blk_below R0.out hb (blk_lt R0.out))
  have GA := hid (blk_below A0.out hb (blk_lt A0.out))
  have HZ := hid (HB.out.trans (hb.mono HB.out.size))
  have HN := hid (show NetOwn w1 (w.heap.size + 3) (.slice u0 un uc) (.slice t0 tn tc) n by rw [← hs0]; exact hnet)
  have hz1 : w.heap.size + 3 ≤ w1.heap.size := by have := hb.size; omega
  clear hnet hb hs0
  obtain ⟨k0, k1, kf, kl⟩ := blk2 G0.out
  go_upto_region 2 with fail
  clear k0 k1 kf kl
  obtain ⟨W2, hW2⟩ : ∃ W2, W2 = (w1.setCell ⟨w.heap.size, 0, none⟩ (.slice u0 un uc)).setCell ⟨w.heap.size, 1, none⟩ (.slice t0 tn tc) := ⟨_, rfl⟩
  have hz2 : w.heap.size + 3 ≤ W2.heap.size := by rw [hW2]; simpa [World.setCell] using hz1
  have hg0 : W2.heap[w.heap.size]? = some (.cells #[.slice u0 un uc, .slice t0 tn tc] 25) := by rw [hW2]; exact set2 G0.out _ _
  have hgr : W2.heap[w.heap.size + 1]? = some (.cells #[.slice none 0 0, .slice none 0 0] 25) := by rw [hW2]; exact far2 GR.out (by omega) _ _
  have hga : W2.heap[w.heap.size + 2]? = some (.cells #[.int .i64 0, .int .u8 0, .int .u8 0, .int .i64 0, .slice none 0 0, .bool false] 30) := by rw [hW2]; exact far2 GA.out (by omega) _ _
  have hnw : NetOwn W2 (w.heap.size + 3) (.slice u0 un uc) (.slice t0 tn tc) n := by rw [hW2]; exact netown2 HN.out (by omega) _ _
  have hzw : Below w.heap.size w W2 := by rw [hW2]; exact below2 HZ.out (Nat.le_refl _) _ _
  rw [← hW2]
  clear hW2 G0 GR HN HZ GA hz1
  have G0 := hid hg0
  have GR := hid hgr
  have GA := hid hga
  have HN := hid hnw
  have HZ := hid hzw
  clear hg0 hgr hga hnw hzw
  obtain ⟨ha, ms, ht, hms⟩ := HN.out
  have hlu : tn = ms.length := owns_len ht
  subst hlu
  have HA := hid ha
  have HT := hid ht
  have HMS := hid hms
  have hml : ms.length ≤ 1000 := by rw [hms.1]; exact hlen
  obtain ⟨k0, k1, kf, kl⟩ := blk2 G0.out
  obtain ⟨x0, x1, x2, x3, x4, x5, xf, xl⟩ := blk6 GA.out
  obtain ⟨r0, r1, rf, rl⟩ := blk2 GR.out
  by_cases hl : ms.length = 0
  · have hnil : n.tells = [] := List.eq_nil_of_length_eq_zero (by rw [← hms.1]; exact hl)
    have hspec : SP = (n, zeroT, false) := by rw [← HSP.out]; unfold tellV; rw [hnil]; rfl
    subst hspec
    have d1 : ((ms.length : Int) == 0) = true := by simp [hl]
    have HL := hid hl
    clear hnil hl ha ht hms
    go_wp2
    refine bodyPost_ret (res_net_tell rfl rfl rfl rfl (far6 (set2 GR.out _ _) (by omega) _ _ _ _ _ _) (set6 (far2 GA.out (by omega) _ _) _ _ _ _ _ _)) rfl ?_
    refine ⟨_, _, .slice none 0 0, rfl, ?_, ?_, ?_⟩
    · exact (netown6 (netown2 HN.out (by omega) _ _) (by omega) _ _ _ _ _ _).mono (by omega)
    · exact RowOf.nil
    · exact below6 (below2 HZ.out (by omega) _ _) (by omega) _ _ _ _ _ _
  · have hpos : 0 < ms.length := by omega
    have d1 : ((ms.length : Int) == 0) = false := by simpa using hl
    obtain ⟨i, hij⟩ : ∃ i, placeN at' ms.length = i := ⟨_, rfl⟩
    have hp : i < ms.length := by rw [← hij]; exact (placeN_is at' ms.length hpos (by omega)).2
    obtain ⟨x, hx⟩ := get_lt hp
    have HIJ := hid hij
    obtain ⟨tx, htx⟩ := get_lt (show i < n.tells.length by rw [← hms.1]; exact hp)
    obtain ⟨hxo, hxv⟩ := hms.2 _ _ _ hx htx
    obtain ⟨sl1, hxl⟩ : ∃ sl1, tx = x.val sl1 := ⟨tx.seen, hxv.symm⟩
    subst hxl
    have hxo' : OwnN W2 (w.heap.size + 3) x.sv sl1 := hxo
    obtain ⟨sa, sn, sc, hss⟩ := hxo'.shape
    obtain ⟨xcall, xkind, xcode, xid, xsv, xmore⟩ := x
    simp only at hss
    subst hss
    have HXO : Hid (OwnN W2 (w.heap.size + 3) (.slice sa sn sc) sl1) := hid hxo'
    clear hxv hxo hxo'
    obtain ⟨g, gc, hg⟩ : ∃ g gc, (Value.slice t0 ms.length tc) = .slice (some ⟨g, 0, none⟩) ms.length gc := by
      rcases Owns.form ht with ⟨_, h0⟩ | ⟨g, gc, hv, _, _⟩
      · rw [h0] at hpos; simp at hpos
      · exact ⟨g, gc, hv⟩
    cases hg
    have OW : Hid (OwnT W2 (w.heap.size + 3) (.slice (some ⟨g, 0, none⟩) ms.length tc) ms) := hid ht
    have hgb := (Owns.block ht g rfl)
    obtain ⟨va', vc', hde, hl1, hl2, hl3, hop⟩ := (Owns.row ht encT_len (by decide)).open
    cases hde
    obtain ⟨g', off, hgo, hgl, hrw⟩ := hop hpos
    cases hgo
    obtain ⟨g0, g1, g2, g3, g4, g5⟩ := rowT hrw hx
    simp only [Nat.zero_add] at g0 g1 g2 g3 g4 g5
    have HX := hid hx
    have hspec : SP = (⟨n.asks, n.tells.eraseIdx i⟩, TellM.val ⟨xcall, xkind, xcode, xid, .slice sa sn sc, xmore⟩ sl1, true) := by rw [← HSP.out]; unfold tellV; rw [← hms.1]; simp only [hij, htx]
    subst hspec
    have hil : (i : Int) < (ms.length : Int) := by omega
    have q1 : (0 : Int) ≤ (i : Int) + 1 := by omega
    have q2 : (i : Int) + 1 ≤ (ms.length : Int) := by omega
    have q3 : (i : Int) ≤ (tc : Int) := by omega
    obtain ⟨m, hm⟩ : ∃ m, ms.length - (i + 1) = m := ⟨_, rfl⟩
    clear hop hrw hij hx ha ht hms hl htx
    have X0 := hid (heap_new W2 (.cells #[.int .i64 xcall, .int .u8 xkind, .int .u8 xcode, .int .i64 xid, .slice sa sn sc, .bool xmore] 30))
    go_wp2_with fail
    refine (rplace_any _ _ _ hpos (by omega)).mono ?_
    rintro e w' ⟨rfl, rfl⟩
    rw [HIJ.out]
    go_wp2_with fail
    obtain ⟨V, hV⟩ : ∃ V, V = W2.alloc (.cells #[.int .i64 xcall, .int .u8 xkind, .int .u8 xcode, .int .i64 xid, .slice sa sn sc, .bool xmore] 30) := ⟨_, rfl⟩
    have hbv : Below W2.heap.size W2 V := by rw [hV]; exact (Below.refl _ _).alloc (Nat.le_refl _) _
    have hvz : V.heap.size = W2.heap.size + 1 := by rw [hV]; simp
    have HVZ := hid hvz
    have hvz2 : W2.heap.size + 1 ≤ V.heap.size := by omega
    have X1 : Hid (V.heap[W2.heap.size]? = some (.cells #[.int .i64 xcall, .int .u8 xkind, .int .u8 xcode, .int .i64 xid, .slice sa sn sc, .bool xmore] 30)) := hid (by rw [hV]; exact heap_new W2 _)
    have OV := hid (Owns.below OW.out hbv)
    have GV := hid (blk_below G0.out hbv (blk_lt G0.out))
    have HBV := hid hbv
    rw [← hV]
    clear hV hvz hbv g0 g1 g2 g3 g4 g5 k0 k1 kf kl x0 x1 x2 x3 x4 x5 xf xl r0 r1 rf rl X0
    obtain ⟨k0, k1, kf, kl⟩ := blk2 GV.out
    have hgz : g < V.heap.size := by omega
    have hall : ∀ x ∈ ms, ∀ u ∈ encT x, u.oneCell' = true := tells_one HMS.out
    have ho1 : ∀ u ∈ (ms.take i).flatMap encT, u.oneCell' = true := fun u hu => by
      obtain ⟨y, hy, hu⟩ := List.mem_flatMap.1 hu
      exact hall y (List.mem_of_mem_take hy) u hu
    have ho2 : ∀ u ∈ (ms.drop (i + 1)).flatMap encT, u.oneCell' = true := fun u hu => by
      obtain ⟨y, hy, hu⟩ := List.mem_flatMap.1 hu
      exact hall y (List.mem_of_mem_drop hy) u hu
    have hn1 : ∀ W', Below V.heap.size V W' → ∀ (j : Nat) u, ((ms.take i).flatMap encT)[j]? = some u → W'.cell? ((⟨g, 0, none⟩ : Addr).add j) = some u := fun W' hW' j u hj => by
      rw [add_lit, Nat.zero_add]
      refine (hW'.cell (p := ⟨g, j, none⟩) hgz).trans (Owns.flat_at OV.out ?_)
      rw [flat_split ms i, List.getElem?_append_left (lt_get hj)]; exact hj
    obtain ⟨A, hA, hn2⟩ : ∃ A : Addr, (if tc = i + 1 then (some ⟨g, 0, none⟩ : Option Addr) else some ⟨g, (i + 1) * 6, none⟩) = some A ∧ Hid (∀ W', Below V.heap.size V W' → ∀ (j : Nat) u, ((ms.drop (i + 1)).flatMap encT)[j]? = some u → W'.cell? (A.add j) = some u) := by
      by_cases h : tc = i + 1
      · refine ⟨⟨g, 0, none⟩, by simp [h], fun W' hW' j u hj => ?_⟩
        have := lt_get hj
        rw [flat_len encT_len, List.length_drop, hm] at this
        omega
      · refine ⟨⟨g, (i + 1) * 6, none⟩, by simp [h], fun W' hW' j u hj => ?_⟩
        rw [add_lit]
        refine (hW'.cell (p := ⟨g, _, none⟩) hgz).trans (Owns.flat_at OV.out ?_)
        rw [flat_split ms (i + 1), List.getElem?_append_right (by rw [flat_len encT_len, List.length_take, Nat.min_eq_left (by omega)]; omega), flat_len encT_len, List.length_take, Nat.min_eq_left (by omega)]
        rw [show (i + 1) * 6 + j - (i + 1) * 6 = j by omega]; exact hj
    have HN1 := hid hn1
    have HO1 := hid ho1
    have HO2 := hid ho2
    obtain ⟨T1, hT1⟩ : ∃ T1, ms.take i = T1 := ⟨_, rfl⟩
    obtain ⟨D1, hD1⟩ : ∃ D1, ms.drop (i + 1) = D1 := ⟨_, rfl⟩
    have hTl : T1.length = i := by rw [← hT1, List.length_take]; omega
    have hDl : D1.length = m := by rw [← hD1, List.length_drop, hm]
    rw [hT1] at HN1 HO1
    rw [hD1] at hn2 HO2
    have HER : Hid (T1 ++ D1 = ms.eraseIdx i) := hid (by rw [← hT1, ← hD1, List.eraseIdx_eq_take_drop_succ])
    have HTL := hid hTl
    have HDL := hid hDl
    have OM : Hid (OwnT (V.drew.alloc (.cells #[] 30)) V.heap.size (.slice (some ⟨V.heap.size, 0, none⟩) 0 0) []) := hid (World.ownsRow_made V.drew #[] 0 (Nat.le_refl _) (by decide) rfl)
    have BM : Hid (Below V.heap.size V (V.drew.alloc (.cells #[] 30))) := hid ((below_drewN (Below.refl _ _) 1).alloc (Nat.le_refl _) _)
    have e1 : ([] : List TellM).length + i ≤ maxLen := by unfold maxLen; simp; omega
    have e2 : (([] : List TellM).length + i) * 56 ≤ 140737488355328 := by simp; omega
    have e3 : (([] : List TellM) ++ T1).length + m ≤ maxLen := by unfold maxLen; simp; omega
    have e4 : ((([] : List TellM) ++ T1).length + m) * 56 ≤ 140737488355328 := by simp; omega
    have f1 : IntKind.i64.wrap ((i : Int) + 1) = (i : Int) + 1 := IntWalk.i64_in _ (by omega)
    have f2 : ((i : Int) + 1).toNat = i + 1 := by omega
    clear hn1 ho1 ho2 hall hT1 hD1 hTl hDl
    go_region_law (first | (refine step_append_src rfl _ _ 23 rfl V.heap.size 30 i0 _ 56 Try.underlying23 hi hy0 hy1 hy2 rfl (by decide) encT_len _ ([] ++ T1) rfl OS1.out A D1 m (tc - (i + 1)) (by simp [Act.eval, Act.put]) HDL.out.symm HO2.out (hn2.out _ BS1.out) e3 e4 BS1.out.size ?_; intro lv w4 hown4 hbw4 hgr4; obtain ⟨la, ln, lc, rfl⟩ := hown4.shape; have OS4 := hid hown4; have BS4 := hid (BS1.out.trans (hbw4.mono (Nat.le_refl _))); clear hown4 hbw4 hgr4; have P0 := hid (blk_below GV.out BS4.out (blk_lt GV.out)); obtain ⟨p0, p1, pf, pl⟩ := blk2 P0.out) | (refine step_append_src rfl _ _ 23 rfl V.heap.size 30 i0 _ 56 Try.underlying23 hi hy0 hy1 hy2 rfl (by decide) encT_len _ [] rfl OM.out ⟨g, 0, none⟩ T1 i tc (by simp [Act.eval, Act.put]) HTL.out.symm HO1.out (HN1.out _ BM.out) e1 e2 BM.out.size ?_; intro lv1 w3 hown3 hbw3 hgr3; have OS1 := hid hown3; have BS1 : Hid (Below V.heap.size V w3) := hid (BM.out.trans (hbw3.mono (Nat.le_refl _))); clear hown3 hbw3 hgr3; obtain ⟨s0, s1, sf, sl⟩ := blk2 (blk_below GV.out BS1.out (blk_lt GV.out))))
    all_goals
      clear f1 f2 hA q1 q2 q3
      obtain ⟨W5, hW5⟩ : ∃ W5, W5 = w4.setCell ⟨w.heap.size, 1, none⟩ (.slice la ln lc) := ⟨_, rfl⟩
      have hv4 := BS4.out.size
      have hp5 : W5.heap[w.heap.size]? = some (.cells #[.slice u0 un uc, .slice la ln lc] 25) := by rw [hW5]; exact blk_set P0.out 1 _
      have hr5 : W5.heap[w.heap.size + 1]? = some (.cells #[.slice none 0 0, .slice none 0 0] 25) := by rw [hW5]; exact blk_far (blk_below (blk_below GR.out HBV.out (blk_lt GR.out)) BS4.out (by omega)) (by omega) _
      have ha5 : W5.heap[w.heap.size + 2]? = some (.cells #[.int .i64 0, .int .u8 0, .int .u8 0, .int .i64 0, .slice none 0 0, .bool false] 30) := by rw [hW5]; exact blk_far (blk_below (blk_below GA.out HBV.out (blk_lt GA.out)) BS4.out (by omega)) (by omega) _
      have hx5 : W5.heap[W2.heap.size]? = some (.cells #[.int .i64 xcall, .int .u8 xkind, .int .u8 xcode, .int .i64 xid, .slice sa sn sc, .bool xmore] 30) := by rw [hW5]; exact blk_far (blk_below X1.out BS4.out (blk_lt X1.out)) (by omega) _
      have hbb : Below W2.heap.size W2 w4 := HBV.out.trans (BS4.out.mono HBV.out.size)
      have hn5 : NetOwn W5 (w.heap.size + 3) (.slice u0 un uc) (.slice la ln lc) ⟨n.asks, n.tells.eraseIdx i⟩ := by
        rw [hW5]
        have ho : OwnT w4 (w.heap.size + 3) (.slice la ln lc) (ms.eraseIdx i) := by
          have := OS4.out
          rw [List.nil_append, HER.out] at this
          exact this.mono (by omega)
        have hn4 : NetOwn w4 (w.heap.size + 3) (.slice u0 un uc) (.slice la ln lc) ⟨n.asks, n.tells.eraseIdx i⟩ := ⟨Owns.below HA.out hbb, _, ho, (HMS.out.below hbb).erase⟩
        exact hn4.other (p := ⟨w.heap.size, 1, none⟩) (by simp) _
      have hz5 : Below w.heap.size w W5 := by rw [hW5]; exact (HZ.out.trans (hbb.mono HZ.out.size)).setCell (p := ⟨w.heap.size, 1, none⟩) (Nat.le_refl _) _
      have HX5 : Hid (OwnN W5 (w.heap.size + 3) (.slice sa sn sc) sl1) := hid (by rw [hW5]; exact (Owns.below HXO.out hbb).other (p := ⟨w.heap.size, 1, none⟩) (by simp) _)
      rw [← hW5]
      clear hW5 P0 OS1 BS1 OS4 BS4 p0 p1 pf pl
      try clear s0 s1 sf sl
      have HR5 := hid hr5
      have HA5 := hid ha5
      have HN5 := hid hn5
      have HZ5 := hid hz5
      obtain ⟨p0, p1, pf, pl⟩ := blk2 hp5
      obtain ⟨r0, r1, rf, rl⟩ := blk2 hr5
      obtain ⟨y0, y1, y2, y3, y4, y5, yf, yl⟩ := blk6 ha5
      obtain ⟨x0, x1, x2, x3, x4, x5, xf, xl⟩ := blk6 hx5
      clear hp5 hr5 ha5 hx5 hbb hn5 hz5
      go_wp2_with fail
      go_region
      all_goals
        go_wp2
        refine bodyPost_ret (res_net_tell rfl rfl rfl rfl (blk_drew (far6 (set2 HR5.out _ _) (by omega) _ _ _ _ _ _)) (blk_drew (set6 (far2 HA5.out (by omega) _ _) _ _ _ _ _ _))) rfl ?_
        refine ⟨_, _, _, rfl, ?_, ?_, ?_⟩
        · exact (netown_drew (netown6 (netown2 HN5.out (by omega) _ _) (by omega) _ _ _ _ _ _)).mono (by omega)
        · exact Owns.row (Owns.below (owns6 (owns2 HX5.out (by omega) _ _) (by omega) _ _ _ _ _ _) (below_drewN (Below.refl _ _) 1)) encN_len (by decide)
        · exact below_drew (below6 (below2 HZ5.out (by omega) _ _) (by omega) _ _ _ _ _ _)
end Go.Proofs.Ythnlppbfmmiioaa
