/- The walk of NetPair. -/
import Derived.Test.YthnlppbfmmiioaaPlw
import Derived.Test.YthnlppbfmmiioaaNrs
namespace Go.Proofs.Ythnlppbfmmiioaa
open Go.RowKit Go.Shelf

set_option maxHeartbeats 4000000 in
set_option maxRecDepth 100000 in
theorem pair_any (va vt : Value) (n : NetV) (at' : Int) (w : World) (hn : NetIs w va vt n) :
    Calls Try.prog 7 #[netv va vt, .int .i64 at'] w fun e w' => e = .returned (.bool true) ∧ Below w.heap.size w w' := by
  obtain ⟨a0, c0, b0, d0, rfl, rfl⟩ := hn.shape
  obtain ⟨U0, hU0⟩ : ∃ U, U = w.alloc (.cells #[.slice a0 n.asks.length c0, .slice b0 n.tells.length d0] 25) := ⟨_, rfl⟩
  have hZ : Below w.heap.size w U0 := by rw [hU0]; exact (Below.refl _ _).alloc (Nat.le_refl _) _
  have hzU0 : w.heap.size + 1 = U0.heap.size := by rw [hU0]; simp
  have Z := hid hZ
  have BX : Hid (U0.heap[w.heap.size]? = some (.cells #[.slice a0 n.asks.length c0, .slice b0 n.tells.length d0] 25)) := hid (by rw [hU0]; exact heap_new _ _)
  have NI := hid hn
  clear hn hZ
  unfold netv
  go_enter Try.func7, Try.ntmps7
  go_upto_region 1 with fail
  rw [← hU0]
  clear hU0
  obtain ⟨bx0, bx1, bxf, bxl⟩ := blk2 BX.out
  go_wp2_with fail
  clear bx0 bx1 bxf bxl
  refine (great_any _ _ n _ (NI.out.below Z.out)).mono ?_
  rintro e v1 ⟨gb, he, hg, hb⟩
  subst he
  have hzv1 : U0.heap.size ≤ v1.heap.size := hb.size
  replace BX := hid (blk_below BX.out hb (blk_lt BX.out))
  replace Z := hid (Z.out.trans (hb.mono Z.out.size))
  clear hb
  cases gb with
  | true =>
    clear hg
    obtain ⟨bx0, bx1, bxf, bxl⟩ := blk2 BX.out
    go_wp2_with fail
    clear bx0 bx1 bxf bxl
    refine (wakes_any _).mono ?_
    rintro e v2 ⟨he, hb⟩
    subst he
    have hzv2 : v1.heap.size ≤ v2.heap.size := hb.size
    replace BX := hid (blk_below BX.out hb (blk_lt BX.out))
    replace Z := hid (Z.out.trans (hb.mono Z.out.size))
    clear hb
    go_wp2
    go_ret
    exact ⟨rfl, Z.out⟩
  | false =>
    have hs := hg rfl
    have HS := hid hs
    clear hg
    by_cases h1 : n.asks.length = 0
    · have e1 : ((n.asks.length : Int) == 0) = true := by simp [h1]
      have H1 := hid h1
      clear h1 hs
      skip
      obtain ⟨bx0, bx1, bxf, bxl⟩ := blk2 BX.out
      go_wp2_with fail
      clear bx0 bx1 bxf bxl
      refine (wakes_any _).mono ?_
      rintro e v2 ⟨he, hb⟩
      subst he
      have hzv2 : v1.heap.size ≤ v2.heap.size := hb.size
      replace BX := hid (blk_below BX.out hb (blk_lt BX.out))
      replace Z := hid (Z.out.trans (hb.mono Z.out.size))
      clear hb
      go_wp2
      go_ret
      exact ⟨rfl, Z.out⟩
    have e1 : ((n.asks.length : Int) == 0) = false := by simpa using h1
    by_cases h2 : n.tells.length = 0
    · have e2 : ((n.tells.length : Int) == 0) = true := by simp [h2]
      clear h2 h1 hs
      skip
      obtain ⟨bx0, bx1, bxf, bxl⟩ := blk2 BX.out
      go_wp2_with fail
      clear bx0 bx1 bxf bxl
      refine (wakes_any _).mono ?_
      rintro e v2 ⟨he, hb⟩
      subst he
      have hzv2 : v1.heap.size ≤ v2.heap.size := hb.size
      replace BX := hid (blk_below BX.out hb (blk_lt BX.out))
      replace Z := hid (Z.out.trans (hb.mono Z.out.size))
      clear hb
      go_wp2
      go_ret
      exact ⟨rfl, Z.out⟩
    have e2 : ((n.tells.length : Int) == 0) = false := by simpa using h2
    by_cases h3 : 60 ≤ n.asks.length
    · have e3 : decide ((60 : Int) ≤ (n.asks.length : Int)) = true := by simp; omega
      have hh : (60 : Int) ≤ (n.asks.length : Int) := by omega
      clear h3 h2 h1 hs
      skip
      obtain ⟨bx0, bx1, bxf, bxl⟩ := blk2 BX.out
      go_wp2_with fail
      clear bx0 bx1 bxf bxl
      refine (wakes_any _).mono ?_
      rintro e v2 ⟨he, hb⟩
      subst he
      have hzv2 : v1.heap.size ≤ v2.heap.size := hb.size
      replace BX := hid (blk_below BX.out hb (blk_lt BX.out))
      replace Z := hid (Z.out.trans (hb.mono Z.out.size))
      clear hb
      go_wp2
      go_ret
      exact ⟨rfl, Z.out⟩
    have e3 : decide ((60 : Int) ≤ (n.asks.length : Int)) = false := by simp; omega
    by_cases h4 : 60 ≤ n.tells.length
    · have e4 : decide ((60 : Int) ≤ (n.tells.length : Int)) = true := by simp; omega
      have hh3 : ¬ ((60 : Int) ≤ (n.asks.length : Int)) := by omega
      have hh : (60 : Int) ≤ (n.tells.length : Int) := by omega
      clear h4 h3 h2 h1 hs
      skip
      obtain ⟨bx0, bx1, bxf, bxl⟩ := blk2 BX.out
      go_wp2_with fail
      clear bx0 bx1 bxf bxl
      refine (wakes_any _).mono ?_
      rintro e v2 ⟨he, hb⟩
      subst he
      have hzv2 : v1.heap.size ≤ v2.heap.size := hb.size
      replace BX := hid (blk_below BX.out hb (blk_lt BX.out))
      replace Z := hid (Z.out.trans (hb.mono Z.out.size))
      clear hb
      go_wp2
      go_ret
      exact ⟨rfl, Z.out⟩
    have e4 : decide ((60 : Int) ≤ (n.tells.length : Int)) = false := by simp; omega
    obtain ⟨x, m, hx1, hx2, hx3, hx4, hx5⟩ := ask_some n at' (by omega) hs.ok.1
    obtain ⟨t, l, ht1, ht2, ht3, ht4, ht5⟩ := tell_some n at' (by omega) hs.ok.2.1
    rw [sendV_room n x (by omega)] at hx2
    rw [postV_room n t (by omega)] at ht2
    have hts : t.seen.length ≤ 60 := hs.2.2 t ht3
    obtain ⟨O, hO⟩ : ∃ O : NetV, O = ⟨n.asks ++ [x], n.tells⟩ := ⟨_, rfl⟩
    obtain ⟨Q, hQ⟩ : ∃ Q : NetV, Q = ⟨n.asks, n.tells ++ [t]⟩ := ⟨_, rfl⟩
    have kO : netOk O := by rw [hO]; exact hs.send x
    have kQ : netOk Q := by rw [hQ]; exact hs.post t (by omega)
    have hO2 : askV O (-1) = (n, x, true) := by rw [hO]; exact askV_last _ _ _ hs.ok.1
    have hQ2 : tellV Q (-1) = (n, t, true) := by rw [hQ]; exact tellV_last _ _ _ hs.ok.2.1
    rw [← hO] at hx2
    rw [← hQ] at ht2
    have HX1 := hid hx1
    have HX2 := hid hx2
    have HT1 := hid ht1
    have HT2 := hid ht2
    have HO2 := hid hO2
    have HQ2 := hid hQ2
    have KN := hid hs.ok
    have KO := hid kO
    have KQ := hid kQ
    have hts' : t.seen.length ≤ 1000000 := by omega
    have hnot3 : ¬ ((60 : Int) ≤ (n.asks.length : Int)) := by omega
    have hnot4 : ¬ ((60 : Int) ≤ (n.tells.length : Int)) := by omega
    clear hx1 hx2 hx3 hx4 hx5 ht1 ht2 ht3 ht4 ht5 hO hQ kO kQ hO2 hQ2 hs h1 h2 h3 h4 hts
    obtain ⟨bx0, bx1, bxf, bxl⟩ := blk2 BX.out
    go_wp2_with fail
    clear bx0 bx1 bxf bxl
    clear e1 e2 e3 e4 hnot3 hnot4
    refine (twiceA_any _ _ n at' _ (NI.out.below Z.out) KN.out).mono ?_
    rintro e v2 ⟨ua, ut, he, hn, hb⟩
    rw [HX2.out] at he hn
    obtain ⟨a1, c1, b1, d1, rfl, rfl⟩ := hn.shape
    simp only [netv] at he
    subst he
    have hzv2 : v1.heap.size ≤ v2.heap.size := hb.size
    replace BX := hid (blk_below BX.out hb (blk_lt BX.out))
    replace Z := hid (Z.out.trans (hb.mono Z.out.size))
    have N1 := hid hn
    clear hb hn
    go_upto_region 4 with fail
    obtain ⟨U2, hU2⟩ : ∃ U, U = (v2.alloc (.cells #[.slice a1 O.asks.length c1, .slice b1 O.tells.length d1] 25)) := ⟨_, rfl⟩
    have hzU2 : v2.heap.size + 1 = U2.heap.size := by rw [hU2]; simp
    replace BX : Hid (U2.heap[w.heap.size]? = some (.cells #[.slice a0 n.asks.length c0, .slice b0 n.tells.length d0] 25)) := hid (by rw [hU2]; exact blk_alloc (BX.out) _)
    have BO : Hid (U2.heap[v2.heap.size]? = some (.cells #[.slice a1 O.asks.length c1, .slice b1 O.tells.length d1] 25)) := hid (by rw [hU2]; exact heap_new (v2) _)
    replace N1 := hid (NetOwn.on N1.out (show On _ v2 U2 by rw [hU2]; exact ((On.refl _ _).alloc _)))
    replace Z : Hid (Below w.heap.size w U2) := hid (by rw [hU2]; exact (Z.out).alloc (by have := Z.out.size; simp; omega) _)
    rw [← hU2]
    clear hU2
    obtain ⟨bx0, bx1, bxf, bxl⟩ := blk2 BX.out
    go_wp2_with fail
    clear bx0 bx1 bxf bxl
    refine (twiceT_any _ _ n at' _ (NI.out.below Z.out) KN.out).mono ?_
    rintro e v3 ⟨ua, ut, he, hn, hb⟩
    rw [HT2.out] at he hn
    obtain ⟨a2, c2, b2, d2, rfl, rfl⟩ := hn.shape
    simp only [netv] at he
    subst he
    have hzv3 : U2.heap.size ≤ v3.heap.size := hb.size
    replace BX := hid (blk_below BX.out hb (blk_lt BX.out))
    replace BO := hid (blk_below BO.out hb (blk_lt BO.out))
    replace N1 := hid (N1.out.below hb)
    replace Z := hid (Z.out.trans (hb.mono Z.out.size))
    have N2 := hid hn
    clear hb hn
    go_upto_region 5 with fail
    obtain ⟨U3, hU3⟩ : ∃ U, U = (v3.alloc (.cells #[.slice a2 Q.asks.length c2, .slice b2 Q.tells.length d2] 25)) := ⟨_, rfl⟩
    have hzU3 : v3.heap.size + 1 = U3.heap.size := by rw [hU3]; simp
    replace BX : Hid (U3.heap[w.heap.size]? = some (.cells #[.slice a0 n.asks.length c0, .slice b0 n.tells.length d0] 25)) := hid (by rw [hU3]; exact blk_alloc (BX.out) _)
    replace BO : Hid (U3.heap[v2.heap.size]? = some (.cells #[.slice a1 O.asks.length c1, .slice b1 O.tells.length d1] 25)) := hid (by rw [hU3]; exact blk_alloc (BO.out) _)
    have BP : Hid (U3.heap[v3.heap.size]? = some (.cells #[.slice a2 Q.asks.length c2, .slice b2 Q.tells.length d2] 25)) := hid (by rw [hU3]; exact heap_new (v3) _)
    replace N1 := hid (NetOwn.on N1.out (show On _ v3 U3 by rw [hU3]; exact ((On.refl _ _).alloc _)))
    replace N2 := hid (NetOwn.on N2.out (show On _ v3 U3 by rw [hU3]; exact ((On.refl _ _).alloc _)))
    replace Z : Hid (Below w.heap.size w U3) := hid (by rw [hU3]; exact (Z.out).alloc (by have := Z.out.size; simp; omega) _)
    rw [← hU3]
    clear hU3
    obtain ⟨bo0, bo1, bof, bol⟩ := blk2 BO.out
    go_wp2_with fail
    clear bo0 bo1 bof bol
    refine (ask_any _ _ O (-1) _ N1.out.is KO.out).mono ?_
    rintro e v4 ⟨ua, ut, he, hn, hb⟩
    rw [HO2.out] at he hn
    obtain ⟨a3, c3, b3, d3, rfl, rfl⟩ := hn.shape
    simp only [netv, aggA] at he
    subst he
    have hzv4 : U3.heap.size ≤ v4.heap.size := hb.size
    replace BX := hid (blk_below BX.out hb (blk_lt BX.out))
    replace BO := hid (blk_below BO.out hb (blk_lt BO.out))
    replace BP := hid (blk_below BP.out hb (blk_lt BP.out))
    replace N1 := hid (N1.out.below hb)
    replace N2 := hid (N2.out.below hb)
    replace Z := hid (Z.out.trans (hb.mono Z.out.size))
    have N3 := hid hn
    clear hb hn
    clear N1
    clear BO
    go_upto_region 6 with fail
    obtain ⟨U4, hU4⟩ : ∃ U, U = ((v4.alloc (.cells #[.slice a3 n.asks.length c3, .slice b3 n.tells.length d3] 25)).alloc (.cells #[.int .u8 x.kind, .int .i64 x.call, .int .i64 x.a, .int .i64 x.b, .int .i64 x.c, .int .i64 x.d] 27)) := ⟨_, rfl⟩
    have hzU4 : v4.heap.size + 2 = U4.heap.size := by rw [hU4]; simp
    replace BX : Hid (U4.heap[w.heap.size]? = some (.cells #[.slice a0 n.asks.length c0, .slice b0 n.tells.length d0] 25)) := hid (by rw [hU4]; exact blk_alloc (blk_alloc (BX.out) _) _)
    replace BP : Hid (U4.heap[v3.heap.size]? = some (.cells #[.slice a2 Q.asks.length c2, .slice b2 Q.tells.length d2] 25)) := hid (by rw [hU4]; exact blk_alloc (blk_alloc (BP.out) _) _)
    have BQ : Hid (U4.heap[v4.heap.size]? = some (.cells #[.slice a3 n.asks.length c3, .slice b3 n.tells.length d3] 25)) := hid (by rw [hU4]; exact blk_alloc (heap_new (v4) _) _)
    have BA : Hid (U4.heap[v4.heap.size + 1]? = some (.cells #[.int .u8 x.kind, .int .i64 x.call, .int .i64 x.a, .int .i64 x.b, .int .i64 x.c, .int .i64 x.d] 27)) := hid (by rw [hU4]; exact by simpa using heap_new ((v4.alloc (.cells #[.slice a3 n.asks.length c3, .slice b3 n.tells.length d3] 25))) _)
    replace N2 := hid (NetOwn.on N2.out (show On _ v4 U4 by rw [hU4]; exact (((On.refl _ _).alloc _).alloc _)))
    replace N3 := hid (NetOwn.on N3.out (show On _ v4 U4 by rw [hU4]; exact (((On.refl _ _).alloc _).alloc _)))
    replace Z : Hid (Below w.heap.size w U4) := hid (by rw [hU4]; exact ((Z.out).alloc (by have := Z.out.size; simp; omega) _).alloc (by have := Z.out.size; simp; omega) _)
    rw [← hU4]
    clear hU4
    obtain ⟨bp0, bp1, bpf, bpl⟩ := blk2 BP.out
    go_wp2_with fail
    clear bp0 bp1 bpf bpl
    refine (tell_any _ _ Q (-1) _ N2.out.is KQ.out).mono ?_
    rintro e v5 ⟨ua, ut, s, he, hn, hs, hb⟩
    rw [HQ2.out] at he hn
    obtain ⟨a4, c4, b4, d4, rfl, rfl⟩ := hn.shape
    simp only [netv, tellS] at he
    subst he
    obtain ⟨sa4, sc4, hss⟩ := shape_row hs
    rw [HQ2.out] at hss hs
    subst hss
    have hzv5 : U4.heap.size ≤ v5.heap.size := hb.size
    replace BX := hid (blk_below BX.out hb (blk_lt BX.out))
    replace BP := hid (blk_below BP.out hb (blk_lt BP.out))
    replace BQ := hid (blk_below BQ.out hb (blk_lt BQ.out))
    replace BA := hid (blk_below BA.out hb (blk_lt BA.out))
    replace N2 := hid (N2.out.below hb)
    replace N3 := hid (N3.out.below hb)
    replace Z := hid (Z.out.trans (hb.mono Z.out.size))
    have N4 := hid hn
    have R4 := hid hs
    clear hb hn hs
    clear N2
    clear BP
    go_upto_region 7 with fail
    obtain ⟨U5, hU5⟩ : ∃ U, U = ((v5.alloc (.cells #[.slice a4 n.asks.length c4, .slice b4 n.tells.length d4] 25)).alloc (.cells #[.int .i64 t.call, .int .u8 t.kind, .int .u8 t.code, .int .i64 t.id, .slice sa4 t.seen.length sc4, .bool t.more] 30)) := ⟨_, rfl⟩
    have hzU5 : v5.heap.size + 2 = U5.heap.size := by rw [hU5]; simp
    replace BX : Hid (U5.heap[w.heap.size]? = some (.cells #[.slice a0 n.asks.length c0, .slice b0 n.tells.length d0] 25)) := hid (by rw [hU5]; exact blk_alloc (blk_alloc (BX.out) _) _)
    replace BQ : Hid (U5.heap[v4.heap.size]? = some (.cells #[.slice a3 n.asks.length c3, .slice b3 n.tells.length d3] 25)) := hid (by rw [hU5]; exact blk_alloc (blk_alloc (BQ.out) _) _)
    replace BA : Hid (U5.heap[v4.heap.size + 1]? = some (.cells #[.int .u8 x.kind, .int .i64 x.call, .int .i64 x.a, .int .i64 x.b, .int .i64 x.c, .int .i64 x.d] 27)) := hid (by rw [hU5]; exact blk_alloc (blk_alloc (BA.out) _) _)
    have BR : Hid (U5.heap[v5.heap.size]? = some (.cells #[.slice a4 n.asks.length c4, .slice b4 n.tells.length d4] 25)) := hid (by rw [hU5]; exact blk_alloc (heap_new (v5) _) _)
    have BT : Hid (U5.heap[v5.heap.size + 1]? = some (.cells #[.int .i64 t.call, .int .u8 t.kind, .int .u8 t.code, .int .i64 t.id, .slice sa4 t.seen.length sc4, .bool t.more] 30)) := hid (by rw [hU5]; exact by simpa using heap_new ((v5.alloc (.cells #[.slice a4 n.asks.length c4, .slice b4 n.tells.length d4] 25))) _)
    replace N3 := hid (NetOwn.on N3.out (show On _ v5 U5 by rw [hU5]; exact (((On.refl _ _).alloc _).alloc _)))
    replace N4 := hid (NetOwn.on N4.out (show On _ v5 U5 by rw [hU5]; exact (((On.refl _ _).alloc _).alloc _)))
    replace R4 := hid (RowOf.below R4.out (show Below v5.heap.size v5 U5 by rw [hU5]; exact (((Below.refl _ _).alloc (by simp) _).alloc (by simp) _)))
    replace Z : Hid (Below w.heap.size w U5) := hid (by rw [hU5]; exact ((Z.out).alloc (by have := Z.out.size; simp; omega) _).alloc (by have := Z.out.size; simp; omega) _)
    rw [← hU5]
    clear hU5
    obtain ⟨bx0, bx1, bxf, bxl⟩ := blk2 BX.out
    go_wp2_with fail
    clear bx0 bx1 bxf bxl
    refine (ask_any _ _ n at' _ (NI.out.below Z.out) KN.out).mono ?_
    rintro e v6 ⟨ua, ut, he, hn, hb⟩
    rw [HX1.out] at he hn
    obtain ⟨a5, c5, b5, d5, rfl, rfl⟩ := hn.shape
    simp only [netv, aggA] at he
    subst he
    clear hn
    have hzv6 : U5.heap.size ≤ v6.heap.size := hb.size
    replace BX := hid (blk_below BX.out hb (blk_lt BX.out))
    replace BQ := hid (blk_below BQ.out hb (blk_lt BQ.out))
    replace BA := hid (blk_below BA.out hb (blk_lt BA.out))
    replace BR := hid (blk_below BR.out hb (blk_lt BR.out))
    replace BT := hid (blk_below BT.out hb (blk_lt BT.out))
    replace N3 := hid (N3.out.below hb)
    replace N4 := hid (N4.out.below hb)
    replace R4 := hid (RowOf.below R4.out hb)
    replace Z := hid (Z.out.trans (hb.mono Z.out.size))
    clear hb
    go_upto_region 8 with fail
    obtain ⟨U6, hU6⟩ : ∃ U, U = ((v6.alloc (.cells #[.slice a5 m.asks.length c5, .slice b5 m.tells.length d5] 25)).alloc (.cells #[.int .u8 x.kind, .int .i64 x.call, .int .i64 x.a, .int .i64 x.b, .int .i64 x.c, .int .i64 x.d] 27)) := ⟨_, rfl⟩
    have hzU6 : v6.heap.size + 2 = U6.heap.size := by rw [hU6]; simp
    replace BX : Hid (U6.heap[w.heap.size]? = some (.cells #[.slice a0 n.asks.length c0, .slice b0 n.tells.length d0] 25)) := hid (by rw [hU6]; exact blk_alloc (blk_alloc (BX.out) _) _)
    replace BQ : Hid (U6.heap[v4.heap.size]? = some (.cells #[.slice a3 n.asks.length c3, .slice b3 n.tells.length d3] 25)) := hid (by rw [hU6]; exact blk_alloc (blk_alloc (BQ.out) _) _)
    replace BA : Hid (U6.heap[v4.heap.size + 1]? = some (.cells #[.int .u8 x.kind, .int .i64 x.call, .int .i64 x.a, .int .i64 x.b, .int .i64 x.c, .int .i64 x.d] 27)) := hid (by rw [hU6]; exact blk_alloc (blk_alloc (BA.out) _) _)
    replace BR : Hid (U6.heap[v5.heap.size]? = some (.cells #[.slice a4 n.asks.length c4, .slice b4 n.tells.length d4] 25)) := hid (by rw [hU6]; exact blk_alloc (blk_alloc (BR.out) _) _)
    replace BT : Hid (U6.heap[v5.heap.size + 1]? = some (.cells #[.int .i64 t.call, .int .u8 t.kind, .int .u8 t.code, .int .i64 t.id, .slice sa4 t.seen.length sc4, .bool t.more] 30)) := hid (by rw [hU6]; exact blk_alloc (blk_alloc (BT.out) _) _)
    have BB : Hid (U6.heap[v6.heap.size + 1]? = some (.cells #[.int .u8 x.kind, .int .i64 x.call, .int .i64 x.a, .int .i64 x.b, .int .i64 x.c, .int .i64 x.d] 27)) := hid (by rw [hU6]; exact by simpa using heap_new ((v6.alloc (.cells #[.slice a5 m.asks.length c5, .slice b5 m.tells.length d5] 25))) _)
    replace N3 := hid (NetOwn.on N3.out (show On _ v6 U6 by rw [hU6]; exact (((On.refl _ _).alloc _).alloc _)))
    replace N4 := hid (NetOwn.on N4.out (show On _ v6 U6 by rw [hU6]; exact (((On.refl _ _).alloc _).alloc _)))
    replace R4 := hid (RowOf.below R4.out (show Below v6.heap.size v6 U6 by rw [hU6]; exact (((Below.refl _ _).alloc (by simp) _).alloc (by simp) _)))
    replace Z : Hid (Below w.heap.size w U6) := hid (by rw [hU6]; exact ((Z.out).alloc (by have := Z.out.size; simp; omega) _).alloc (by have := Z.out.size; simp; omega) _)
    rw [← hU6]
    clear hU6
    obtain ⟨bx0, bx1, bxf, bxl⟩ := blk2 BX.out
    go_wp2_with fail
    clear bx0 bx1 bxf bxl
    refine (tell_any _ _ n at' _ (NI.out.below Z.out) KN.out).mono ?_
    rintro e v7 ⟨ua, ut, s, he, hn, hs, hb⟩
    rw [HT1.out] at he hn
    obtain ⟨a6, c6, b6, d6, rfl, rfl⟩ := hn.shape
    simp only [netv, tellS] at he
    subst he
    obtain ⟨sa6, sc6, hss⟩ := shape_row hs
    rw [HT1.out] at hss hs
    subst hss
    clear hn
    have hzv7 : U6.heap.size ≤ v7.heap.size := hb.size
    replace BX := hid (blk_below BX.out hb (blk_lt BX.out))
    replace BQ := hid (blk_below BQ.out hb (blk_lt BQ.out))
    replace BA := hid (blk_below BA.out hb (blk_lt BA.out))
    replace BR := hid (blk_below BR.out hb (blk_lt BR.out))
    replace BT := hid (blk_below BT.out hb (blk_lt BT.out))
    replace BB := hid (blk_below BB.out hb (blk_lt BB.out))
    replace N3 := hid (N3.out.below hb)
    replace N4 := hid (N4.out.below hb)
    replace R4 := hid (RowOf.below R4.out hb)
    replace Z := hid (Z.out.trans (hb.mono Z.out.size))
    have R6 := hid hs
    clear hb hs
    go_upto_region 9 with fail
    obtain ⟨U7, hU7⟩ : ∃ U, U = ((v7.alloc (.cells #[.slice a6 l.asks.length c6, .slice b6 l.tells.length d6] 25)).alloc (.cells #[.int .i64 t.call, .int .u8 t.kind, .int .u8 t.code, .int .i64 t.id, .slice sa6 t.seen.length sc6, .bool t.more] 30)) := ⟨_, rfl⟩
    have hzU7 : v7.heap.size + 2 = U7.heap.size := by rw [hU7]; simp
    replace BX : Hid (U7.heap[w.heap.size]? = some (.cells #[.slice a0 n.asks.length c0, .slice b0 n.tells.length d0] 25)) := hid (by rw [hU7]; exact blk_alloc (blk_alloc (BX.out) _) _)
    replace BQ : Hid (U7.heap[v4.heap.size]? = some (.cells #[.slice a3 n.asks.length c3, .slice b3 n.tells.length d3] 25)) := hid (by rw [hU7]; exact blk_alloc (blk_alloc (BQ.out) _) _)
    replace BA : Hid (U7.heap[v4.heap.size + 1]? = some (.cells #[.int .u8 x.kind, .int .i64 x.call, .int .i64 x.a, .int .i64 x.b, .int .i64 x.c, .int .i64 x.d] 27)) := hid (by rw [hU7]; exact blk_alloc (blk_alloc (BA.out) _) _)
    replace BR : Hid (U7.heap[v5.heap.size]? = some (.cells #[.slice a4 n.asks.length c4, .slice b4 n.tells.length d4] 25)) := hid (by rw [hU7]; exact blk_alloc (blk_alloc (BR.out) _) _)
    replace BT : Hid (U7.heap[v5.heap.size + 1]? = some (.cells #[.int .i64 t.call, .int .u8 t.kind, .int .u8 t.code, .int .i64 t.id, .slice sa4 t.seen.length sc4, .bool t.more] 30)) := hid (by rw [hU7]; exact blk_alloc (blk_alloc (BT.out) _) _)
    replace BB : Hid (U7.heap[v6.heap.size + 1]? = some (.cells #[.int .u8 x.kind, .int .i64 x.call, .int .i64 x.a, .int .i64 x.b, .int .i64 x.c, .int .i64 x.d] 27)) := hid (by rw [hU7]; exact blk_alloc (blk_alloc (BB.out) _) _)
    have BU : Hid (U7.heap[v7.heap.size + 1]? = some (.cells #[.int .i64 t.call, .int .u8 t.kind, .int .u8 t.code, .int .i64 t.id, .slice sa6 t.seen.length sc6, .bool t.more] 30)) := hid (by rw [hU7]; exact by simpa using heap_new ((v7.alloc (.cells #[.slice a6 l.asks.length c6, .slice b6 l.tells.length d6] 25))) _)
    replace N3 := hid (NetOwn.on N3.out (show On _ v7 U7 by rw [hU7]; exact (((On.refl _ _).alloc _).alloc _)))
    replace N4 := hid (NetOwn.on N4.out (show On _ v7 U7 by rw [hU7]; exact (((On.refl _ _).alloc _).alloc _)))
    replace R4 := hid (RowOf.below R4.out (show Below v7.heap.size v7 U7 by rw [hU7]; exact (((Below.refl _ _).alloc (by simp) _).alloc (by simp) _)))
    replace R6 := hid (RowOf.below R6.out (show Below v7.heap.size v7 U7 by rw [hU7]; exact (((Below.refl _ _).alloc (by simp) _).alloc (by simp) _)))
    replace Z : Hid (Below w.heap.size w U7) := hid (by rw [hU7]; exact ((Z.out).alloc (by have := Z.out.size; simp; omega) _).alloc (by have := Z.out.size; simp; omega) _)
    rw [← hU7]
    clear hU7
    have heq := eqlA_run x x
    rw [sameA_self] at heq
    obtain ⟨bx0, bx1, bxf, bxl⟩ := blk2 BX.out
    obtain ⟨ba0, ba1, ba2, ba3, ba4, ba5, baf, bal⟩ := blk6 BA.out
    obtain ⟨bb0, bb1, bb2, bb3, bb4, bb5, bbf, bbl⟩ := blk6 BB.out
    obtain ⟨bt0, bt1, bt2, bt3, bt4, bt5, btf, btl⟩ := blk6 BT.out
    obtain ⟨bu0, bu1, bu2, bu3, bu4, bu5, buf, bul⟩ := blk6 BU.out
    obtain ⟨bq0, bq1, bqf, bql⟩ := blk2 BQ.out
    obtain ⟨br0, br1, brf, brl⟩ := blk2 BR.out
    go_wp2_with fail
    clear bx0 bx1 bxf bxl
    clear ba0 ba1 ba2 ba3 ba4 ba5 baf bal
    clear bb0 bb1 bb2 bb3 bb4 bb5 bbf bbl
    clear bt0 bt1 bt2 bt3 bt4 bt5 btf btl
    clear bu0 bu1 bu2 bu3 bu4 bu5 buf bul
    clear bq0 bq1 bqf bql
    clear br0 br1 brf brl
    clear heq
    refine (told_at ⟨t.call, t.kind, t.code, t.id, .slice sa4 t.seen.length sc4, t.more⟩ ⟨t.call, t.kind, t.code, t.id, .slice sa6 t.seen.length sc6, t.more⟩ t.seen t.seen true _ hts' hts' R4.out R6.out (toldB_iff.2 rfl)).mono ?_
    rintro e v8 ⟨he, hb⟩
    subst he
    have hzv8 : U7.heap.size ≤ v8.heap.size := hb.size
    replace BX := hid (blk_below BX.out hb (blk_lt BX.out))
    replace BQ := hid (blk_below BQ.out hb (blk_lt BQ.out))
    replace BA := hid (blk_below BA.out hb (blk_lt BA.out))
    replace BR := hid (blk_below BR.out hb (blk_lt BR.out))
    replace BT := hid (blk_below BT.out hb (blk_lt BT.out))
    replace BB := hid (blk_below BB.out hb (blk_lt BB.out))
    replace BU := hid (blk_below BU.out hb (blk_lt BU.out))
    replace N3 := hid (N3.out.below hb)
    replace N4 := hid (N4.out.below hb)
    replace R4 := hid (RowOf.below R4.out hb)
    replace R6 := hid (RowOf.below R6.out hb)
    replace Z := hid (Z.out.trans (hb.mono Z.out.size))
    clear hb
    obtain ⟨bx0, bx1, bxf, bxl⟩ := blk2 BX.out
    obtain ⟨bq0, bq1, bqf, bql⟩ := blk2 BQ.out
    obtain ⟨br0, br1, brf, brl⟩ := blk2 BR.out
    go_wp2_with fail
    clear bx0 bx1 bxf bxl
    clear bq0 bq1 bqf bql
    clear br0 br1 brf brl
    refine (rnsame_any _ _ _ _ n n _ N3.out.is (NI.out.below Z.out) KN.out KN.out).mono ?_
    rintro e v9 ⟨he, hb⟩
    rw [nsameB_self] at he
    subst he
    have hzv9 : v8.heap.size ≤ v9.heap.size := hb.size
    replace BX := hid (blk_below BX.out hb (blk_lt BX.out))
    replace BQ := hid (blk_below BQ.out hb (blk_lt BQ.out))
    replace BA := hid (blk_below BA.out hb (blk_lt BA.out))
    replace BR := hid (blk_below BR.out hb (blk_lt BR.out))
    replace BT := hid (blk_below BT.out hb (blk_lt BT.out))
    replace BB := hid (blk_below BB.out hb (blk_lt BB.out))
    replace BU := hid (blk_below BU.out hb (blk_lt BU.out))
    replace N3 := hid (N3.out.below hb)
    replace N4 := hid (N4.out.below hb)
    replace R4 := hid (RowOf.below R4.out hb)
    replace R6 := hid (RowOf.below R6.out hb)
    replace Z := hid (Z.out.trans (hb.mono Z.out.size))
    clear hb
    obtain ⟨bx0, bx1, bxf, bxl⟩ := blk2 BX.out
    obtain ⟨bq0, bq1, bqf, bql⟩ := blk2 BQ.out
    obtain ⟨br0, br1, brf, brl⟩ := blk2 BR.out
    go_wp2_with fail
    clear bx0 bx1 bxf bxl
    clear bq0 bq1 bqf bql
    clear br0 br1 brf brl
    refine (rnsame_any _ _ _ _ n n _ N4.out.is (NI.out.below Z.out) KN.out KN.out).mono ?_
    rintro e v10 ⟨he, hb⟩
    rw [nsameB_self] at he
    subst he
    have hzv10 : v9.heap.size ≤ v10.heap.size := hb.size
    replace BX := hid (blk_below BX.out hb (blk_lt BX.out))
    replace BQ := hid (blk_below BQ.out hb (blk_lt BQ.out))
    replace BA := hid (blk_below BA.out hb (blk_lt BA.out))
    replace BR := hid (blk_below BR.out hb (blk_lt BR.out))
    replace BT := hid (blk_below BT.out hb (blk_lt BT.out))
    replace BB := hid (blk_below BB.out hb (blk_lt BB.out))
    replace BU := hid (blk_below BU.out hb (blk_lt BU.out))
    replace N3 := hid (N3.out.below hb)
    replace N4 := hid (N4.out.below hb)
    replace R4 := hid (RowOf.below R4.out hb)
    replace R6 := hid (RowOf.below R6.out hb)
    replace Z := hid (Z.out.trans (hb.mono Z.out.size))
    clear hb
    go_wp2_with fail
    refine (wakes_any _).mono ?_
    rintro e v11 ⟨he, hb⟩
    subst he
    have hzv11 : v10.heap.size ≤ v11.heap.size := hb.size
    replace BX := hid (blk_below BX.out hb (blk_lt BX.out))
    replace BQ := hid (blk_below BQ.out hb (blk_lt BQ.out))
    replace BA := hid (blk_below BA.out hb (blk_lt BA.out))
    replace BR := hid (blk_below BR.out hb (blk_lt BR.out))
    replace BT := hid (blk_below BT.out hb (blk_lt BT.out))
    replace BB := hid (blk_below BB.out hb (blk_lt BB.out))
    replace BU := hid (blk_below BU.out hb (blk_lt BU.out))
    replace N3 := hid (N3.out.below hb)
    replace N4 := hid (N4.out.below hb)
    replace R4 := hid (RowOf.below R4.out hb)
    replace R6 := hid (RowOf.below R6.out hb)
    replace Z := hid (Z.out.trans (hb.mono Z.out.size))
    clear hb
    go_wp2
    go_ret
    exact ⟨rfl, Z.out⟩
end Go.Proofs.Ythnlppbfmmiioaa
