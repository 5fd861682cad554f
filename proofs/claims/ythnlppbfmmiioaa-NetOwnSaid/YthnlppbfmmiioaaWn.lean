/- The walk of NetOwn: what was handed in stays as it was, whatever becomes of what is told. -/
import Derived.Test.YthnlppbfmmiioaaSpo
import Derived.Deep.RegionHeld3
namespace Go.Proofs.Ythnlppbfmmiioaa
open Go.RowKit Go.Shelf

/-- What holds of the world, held for the world by a new name. -/
theorem wp_at2 {P : Program} {s : Code} {K : Exit → Act → World → Prop} {a : Act} {w : World} {Q : World → Prop} (h : Q w) (k : ∀ W, Q W → Code.wp P s K a W) : Code.wp P s K a w := k w h
theorem own_from (va vt : Value) (n : NetV) (B : Nat) (w : World) (hn : NetIs w va vt n) (hk : netOk n) (hB : B ≤ w.heap.size) :
    Calls Try.prog 15 #[netv va vt] w fun e w' => ∃ a c b d, e = .returned (.agg #[.slice a n.asks.length c, .slice b n.tells.length d]) ∧ NetOwn w' B (.slice a n.asks.length c) (.slice b n.tells.length d) n ∧ Below w.heap.size w w' := by
  refine (own_any va vt n w hn hk).mono ?_
  rintro e w' ⟨ua, ut, he, hn, hb⟩
  obtain ⟨a, c, b, d, rfl, rfl⟩ := hn.shape
  exact ⟨a, c, b, d, he, hn.mono hB, hb⟩

set_option maxHeartbeats 4000000 in
set_option maxRecDepth 100000 in
theorem netown_any (va vt : Value) (n : NetV) (q : TellM) (L : List SeenV) (at' : Int) (w : World) (hn : NetIs w va vt n) (hq : RowN w q.sv L) :
    Calls Try.prog 6 #[netv va vt, aggT q, .int .i64 at'] w fun e w' => e = .returned (.bool true) ∧ Below w.heap.size w w' := by
  obtain ⟨a0, c0, b0, d0, rfl, rfl⟩ := hn.shape
  obtain ⟨qc, qk, qo, qi, qs, qm⟩ := q
  obtain ⟨qa, qcap, hqs⟩ := shape_row hq
  simp only at hqs
  subst hqs
  obtain ⟨U0, hU0⟩ : ∃ U, U = (w.alloc (.cells #[.slice a0 n.asks.length c0, .slice b0 n.tells.length d0] 25)).alloc (.cells #[.int .i64 qc, .int .u8 qk, .int .u8 qo, .int .i64 qi, .slice qa L.length qcap, .bool qm] 30) := ⟨_, rfl⟩
  have hZ : Below w.heap.size w U0 := by rw [hU0]; exact ((Below.refl _ _).alloc (Nat.le_refl _) _).alloc (by simp) _
  have hzU0 : w.heap.size + 2 = U0.heap.size := by rw [hU0]; simp
  have Z := hid hZ
  have BX : Hid (U0.heap[w.heap.size]? = some (.cells #[.slice a0 n.asks.length c0, .slice b0 n.tells.length d0] 25)) := hid (by rw [hU0]; exact blk_alloc (heap_new _ _) _)
  have BT : Hid (U0.heap[w.heap.size + 1]? = some (.cells #[.int .i64 qc, .int .u8 qk, .int .u8 qo, .int .i64 qi, .slice qa L.length qcap, .bool qm] 30)) := hid (by rw [hU0]; exact heap_new2 _ _ _)
  have NI := hid hn
  have QI := hid hq
  clear hn hq hZ
  unfold netv aggT
  go_enter Try.func6, Try.ntmps6
  go_upto_region 1 with fail
  rw [← hU0]
  clear hU0
  obtain ⟨bx0, bx1, bxf, bxl⟩ := blk2 BX.out
  go_wp2_with fail
  clear bx0 bx1 bxf bxl
  refine (great_any _ _ n _ (NI.out.below Z.out)).mono ?_
  rintro e v1 ⟨gb, he, hg, hb⟩
  subst he
  have hzv1 : U0.heap.size ≤ v1.heap.size := hb.size
  replace BX := hid (blk_below BX.out hb (blk_lt BX.out))
  replace BT := hid (blk_below BT.out hb (blk_lt BT.out))
  replace Z := hid (Z.out.trans (hb.mono Z.out.size))
  clear hb
  cases gb with
  | true =>
    clear hg
    obtain ⟨bx0, bx1, bxf, bxl⟩ := blk2 BX.out
    obtain ⟨bt0, bt1, bt2, bt3, bt4, bt5, btf, btl⟩ := blk6 BT.out
    go_wp2_with fail
    clear bx0 bx1 bxf bxl
    clear bt0 bt1 bt2 bt3 bt4 bt5 btf btl
    refine (wakes_any _).mono ?_
    rintro e v2 ⟨he, hb⟩
    subst he
    have hzv2 : v1.heap.size ≤ v2.heap.size := hb.size
    replace BX := hid (blk_below BX.out hb (blk_lt BX.out))
    replace BT := hid (blk_below BT.out hb (blk_lt BT.out))
    replace Z := hid (Z.out.trans (hb.mono Z.out.size))
    clear hb
    go_wp2
    go_ret
    exact ⟨rfl, Z.out⟩
  | false =>
    have hs := hg rfl
    have HS := hid hs
    clear hg hs
    by_cases hl : 60 < L.length
    · have hl60 : (60 : Int) < (L.length : Int) := by omega
      obtain ⟨bt0, bt1, bt2, bt3, bt4, bt5, btf, btl⟩ := blk6 BT.out
      go_wp2_with fail
      clear bt0 bt1 bt2 bt3 bt4 bt5 btf btl
      refine (wakes_any _).mono ?_
      rintro e v2 ⟨he, hb⟩
      subst he
      have hzv2 : v1.heap.size ≤ v2.heap.size := hb.size
      replace BX := hid (blk_below BX.out hb (blk_lt BX.out))
      replace BT := hid (blk_below BT.out hb (blk_lt BT.out))
      replace Z := hid (Z.out.trans (hb.mono Z.out.size))
      clear hb
      go_wp2
      go_ret
      exact ⟨rfl, Z.out⟩
    have hl60 : ¬ ((60 : Int) < (L.length : Int)) := by omega
    have KN := hid HS.out.ok
    have hL : L.length ≤ 1000000 := by omega
    obtain ⟨Y, e2, hY⟩ : ∃ X e, postV n ⟨qc, qk, qo, qi, L, qm⟩ = (X, e) := ⟨_, _, rfl⟩
    obtain ⟨A, y, o1, hA⟩ : ∃ A y o, askV n at' = (A, y, o) := ⟨_, _, _, rfl⟩
    obtain ⟨B, t, o2, hB⟩ : ∃ A y o, tellV n at' = (A, y, o) := ⟨_, _, _, rfl⟩
    obtain ⟨C, e3, hC⟩ : ∃ X e, twiceV n at' true = (X, e) := ⟨_, _, rfl⟩
    have KY : Hid (netOk Y) := hid (by have := post_ok HS.out ⟨qc, qk, qo, qi, L, qm⟩ (by dsimp only; omega); rw [hY] at this; exact this)
    have KA : Hid (netOk A) := hid (by have := ask_ok HS.out at'; rw [hA] at this; exact this)
    have KB : Hid (netOk B) := hid (by have := (tell_ok HS.out at').1; rw [hB] at this; exact this)
    have KC : Hid (netOk C) := hid (by have := twice_ok HS.out at' true; rw [hC] at this; exact this)
    have HY := hid hY
    have HA := hid hA
    have HB := hid hB
    have HC := hid hC
    obtain ⟨i0, hi, hi0, hi1, hi2⟩ := info_parts infoN
    have HI := hid hi
    have HI0 := hid hi0
    have HI1 := hid hi1
    have HI2 := hid hi2
    clear hY hA hB hC hl hi hi0 hi1 hi2
    obtain ⟨bx0, bx1, bxf, bxl⟩ := blk2 BX.out
    obtain ⟨bt0, bt1, bt2, bt3, bt4, bt5, btf, btl⟩ := blk6 BT.out
    go_wp2_with fail
    clear bx0 bx1 bxf bxl
    clear bt0 bt1 bt2 bt3 bt4 bt5 btf btl
    clear hl60
    refine (rnown_any _ _ n _ (NI.out.below Z.out) KN.out).mono ?_
    rintro e v2 ⟨ua, ut, he, hn, hb⟩
    obtain ⟨a1, c1, b1, d1, rfl, rfl⟩ := hn.shape
    simp only [netv] at he
    subst he
    have hzv2 : v1.heap.size ≤ v2.heap.size := hb.size
    replace BX := hid (blk_below BX.out hb (blk_lt BX.out))
    replace BT := hid (blk_below BT.out hb (blk_lt BT.out))
    replace Z := hid (Z.out.trans (hb.mono Z.out.size))
    have N1 := hid hn
    clear hb hn
    go_upto_region 4 with fail
    obtain ⟨U2, hU2⟩ : ∃ U, U = (v2.alloc (.cells #[.slice a1 n.asks.length c1, .slice b1 n.tells.length d1] 25)) := ⟨_, rfl⟩
    have hzU2 : v2.heap.size + 1 = U2.heap.size := by rw [hU2]; simp
    replace BX : Hid (U2.heap[w.heap.size]? = some (.cells #[.slice a0 n.asks.length c0, .slice b0 n.tells.length d0] 25)) := hid (by rw [hU2]; exact blk_alloc (BX.out) _)
    replace BT : Hid (U2.heap[w.heap.size + 1]? = some (.cells #[.int .i64 qc, .int .u8 qk, .int .u8 qo, .int .i64 qi, .slice qa L.length qcap, .bool qm] 30)) := hid (by rw [hU2]; exact blk_alloc (BT.out) _)
    have BW : Hid (U2.heap[v2.heap.size]? = some (.cells #[.slice a1 n.asks.length c1, .slice b1 n.tells.length d1] 25)) := hid (by rw [hU2]; exact heap_new (v2) _)
    replace N1 := hid (NetOwn.on N1.out (show On _ v2 U2 by rw [hU2]; exact ((On.refl _ _).alloc _)))
    replace Z : Hid (Below w.heap.size w U2) := hid (by rw [hU2]; exact (Z.out).alloc (by have := Z.out.size; simp; omega) _)
    rw [← hU2]
    clear hU2
    have hown : OwnN (U2.alloc (.cells #[] 51)) U2.heap.size (.slice (some ⟨U2.heap.size, 0, none⟩) 0 0) ([] : List SeenV) := by
      have := World.ownsRow_made (e := 51) (size := 7) (base := U2.heap.size) U2 #[] 0 (Nat.le_refl _) (by decide) rfl
      simpa [Owns] using this
    have HOWN := hid hown
    have QI2 := hid (RowOf.below (RowOf.below QI.out Z.out) (show Below U2.heap.size U2 (U2.alloc (.cells #[] 51)) from (Below.refl _ _).alloc (Nat.le_refl _) _))
    have c1 : ([] : List SeenV).length + L.length ≤ maxLen := by unfold maxLen; simp; omega
    have c2 : (([] : List SeenV).length + L.length) * 40 ≤ 140737488355328 := by simp; omega
    have c3 : U2.heap.size ≤ (U2.alloc (.cells #[] 51)).heap.size := by simp
    clear hown
    obtain ⟨bt0, bt1, bt2, bt3, bt4, bt5, btf, btl⟩ := blk6 BT.out
    go_upto_region 5 with (at_builtin; refine append_rows rfl _ _ 28 rfl U2.heap.size 51 i0 _ 40 Try.underlying28 HI.out HI0.out HI1.out HI2.out rfl (by decide) encN_len encN_one _ [] rfl HOWN.out _ L rfl QI2.out c1 c2 c3 ?_; intro v' w5 hown hgrow; obtain ⟨sa, sn, sc, rfl⟩ := hown.shape; have SO := hid hown; have GR := hid hgrow; clear hown hgrow)
    clear bt0 bt1 bt2 bt3 bt4 bt5 btf btl
    have hb : Below U2.heap.size U2 w5 := ((Below.refl _ _).alloc (Nat.le_refl _) _).grown GR.out (by simp) (fun r e => by cases e; exact Nat.le_refl _)
    have hzw5 : U2.heap.size ≤ w5.heap.size := hb.size
    have SR : Hid (RowN w5 (.slice sa sn sc) L) := hid (by simpa using SO.out.row encN_len (by decide))
    clear HOWN QI2 c1 c2 c3 SO GR
    replace BX := hid (blk_below BX.out hb (blk_lt BX.out))
    replace BT := hid (blk_below BT.out hb (blk_lt BT.out))
    replace BW := hid (blk_below BW.out hb (blk_lt BW.out))
    replace N1 := hid (N1.out.below hb)
    replace Z := hid (Z.out.trans (hb.mono Z.out.size))
    clear hb
    have NI5 := hid (NI.out.below Z.out)
    have QI5 := hid (RowOf.below QI.out Z.out)
    have BX5 := hid BX.out
    have BT5 := hid BT.out
    have BW5 := hid BW.out
    have N15 := hid N1.out.is
    have Z1 : Hid (Below w5.heap.size w5 w5) := hid (Below.refl _ _)
    clear NI QI BW N1
    obtain ⟨bx0, bx1, bxf, bxl⟩ := blk2 BX.out
    obtain ⟨bt0, bt1, bt2, bt3, bt4, bt5, btf, btl⟩ := blk6 BT.out
    go_wp2_with fail
    clear bx0 bx1 bxf bxl
    clear bt0 bt1 bt2 bt3 bt4 bt5 btf btl
    refine (post_any _ _ n qc qk qo qi qa _ qcap qm L _ (NI5.out.below Z1.out) KN.out (RowOf.below QI5.out Z1.out) hL).mono ?_
    rintro e v3 ⟨ua, ut, he, hn, hb⟩
    rw [HY.out] at he hn
    obtain ⟨a3, c3, b3, d3, rfl, rfl⟩ := hn.shape
    simp only [netv] at he
    subst he
    replace hn := hn.mono Z1.out.size
    have hzv3 : w5.heap.size ≤ v3.heap.size := hb.size
    replace BX := hid (blk_below BX.out hb (blk_lt BX.out))
    replace BT := hid (blk_below BT.out hb (blk_lt BT.out))
    replace Z1 := hid (Z1.out.trans (hb.mono Z1.out.size))
    have NP := hid hn
    clear hb hn
    clear BT
    go_upto_region 6 with fail
    obtain ⟨U3, hU3⟩ : ∃ U, U = (v3.alloc (.cells #[.slice a3 Y.asks.length c3, .slice b3 Y.tells.length d3] 25)) := ⟨_, rfl⟩
    have hzU3 : v3.heap.size + 1 = U3.heap.size := by rw [hU3]; simp
    replace BX : Hid (U3.heap[w.heap.size]? = some (.cells #[.slice a0 n.asks.length c0, .slice b0 n.tells.length d0] 25)) := hid (by rw [hU3]; exact blk_alloc (BX.out) _)
    have BP : Hid (U3.heap[v3.heap.size]? = some (.cells #[.slice a3 Y.asks.length c3, .slice b3 Y.tells.length d3] 25)) := hid (by rw [hU3]; exact heap_new (v3) _)
    replace NP := hid (NetOwn.on NP.out (show On _ v3 U3 by rw [hU3]; exact ((On.refl _ _).alloc _)))
    replace Z1 : Hid (Below w5.heap.size w5 U3) := hid (by rw [hU3]; exact (Z1.out).alloc (by have := Z1.out.size; simp; omega) _)
    rw [← hU3]
    clear hU3
    obtain ⟨bx0, bx1, bxf, bxl⟩ := blk2 BX.out
    go_wp2_with fail
    clear bx0 bx1 bxf bxl
    refine (ask_any _ _ n at' _ (NI5.out.below Z1.out) KN.out).mono ?_
    rintro e v4 ⟨ua, ut, he, hn, hb⟩
    rw [HA.out] at he hn
    obtain ⟨a5, c5, b5, d5, rfl, rfl⟩ := hn.shape
    simp only [netv, aggA] at he
    subst he
    replace hn := hn.mono Z1.out.size
    have hzv4 : U3.heap.size ≤ v4.heap.size := hb.size
    replace BX := hid (blk_below BX.out hb (blk_lt BX.out))
    replace BP := hid (blk_below BP.out hb (blk_lt BP.out))
    replace NP := hid (NP.out.below hb)
    replace Z1 := hid (Z1.out.trans (hb.mono Z1.out.size))
    have NA := hid hn
    clear hb hn
    go_upto_region 7 with fail
    obtain ⟨U4, hU4⟩ : ∃ U, U = ((v4.alloc (.cells #[.slice a5 A.asks.length c5, .slice b5 A.tells.length d5] 25)).alloc (.cells #[.int .u8 y.kind, .int .i64 y.call, .int .i64 y.a, .int .i64 y.b, .int .i64 y.c, .int .i64 y.d] 27)) := ⟨_, rfl⟩
    have hzU4 : v4.heap.size + 2 = U4.heap.size := by rw [hU4]; simp
    replace BX : Hid (U4.heap[w.heap.size]? = some (.cells #[.slice a0 n.asks.length c0, .slice b0 n.tells.length d0] 25)) := hid (by rw [hU4]; exact blk_alloc (blk_alloc (BX.out) _) _)
    replace BP : Hid (U4.heap[v3.heap.size]? = some (.cells #[.slice a3 Y.asks.length c3, .slice b3 Y.tells.length d3] 25)) := hid (by rw [hU4]; exact blk_alloc (blk_alloc (BP.out) _) _)
    have BA : Hid (U4.heap[v4.heap.size]? = some (.cells #[.slice a5 A.asks.length c5, .slice b5 A.tells.length d5] 25)) := hid (by rw [hU4]; exact blk_alloc (heap_new (v4) _) _)
    replace NP := hid (NetOwn.on NP.out (show On _ v4 U4 by rw [hU4]; exact (((On.refl _ _).alloc _).alloc _)))
    replace NA := hid (NetOwn.on NA.out (show On _ v4 U4 by rw [hU4]; exact (((On.refl _ _).alloc _).alloc _)))
    replace Z1 : Hid (Below w5.heap.size w5 U4) := hid (by rw [hU4]; exact ((Z1.out).alloc (by have := Z1.out.size; simp; omega) _).alloc (by have := Z1.out.size; simp; omega) _)
    rw [← hU4]
    clear hU4
    obtain ⟨bx0, bx1, bxf, bxl⟩ := blk2 BX.out
    go_wp2_with fail
    clear bx0 bx1 bxf bxl
    refine (tell_any _ _ n at' _ (NI5.out.below Z1.out) KN.out).mono ?_
    rintro e v5 ⟨ua, ut, s, he, hn, hs, hb⟩
    rw [HB.out] at he hn
    obtain ⟨a7, c7, b7, d7, rfl, rfl⟩ := hn.shape
    simp only [netv, tellS] at he
    subst he
    obtain ⟨sa7, sc7, hss⟩ := shape_row hs
    rw [HB.out] at hss hs
    subst hss
    replace hn := hn.mono Z1.out.size
    clear hs
    have hzv5 : U4.heap.size ≤ v5.heap.size := hb.size
    replace BX := hid (blk_below BX.out hb (blk_lt BX.out))
    replace BP := hid (blk_below BP.out hb (blk_lt BP.out))
    replace BA := hid (blk_below BA.out hb (blk_lt BA.out))
    replace NP := hid (NP.out.below hb)
    replace NA := hid (NA.out.below hb)
    replace Z1 := hid (Z1.out.trans (hb.mono Z1.out.size))
    have NB := hid hn
    clear hb hn
    go_upto_region 8 with fail
    obtain ⟨U5, hU5⟩ : ∃ U, U = ((v5.alloc (.cells #[.slice a7 B.asks.length c7, .slice b7 B.tells.length d7] 25)).alloc (.cells #[.int .i64 t.call, .int .u8 t.kind, .int .u8 t.code, .int .i64 t.id, .slice sa7 t.seen.length sc7, .bool t.more] 30)) := ⟨_, rfl⟩
    have hzU5 : v5.heap.size + 2 = U5.heap.size := by rw [hU5]; simp
    replace BX : Hid (U5.heap[w.heap.size]? = some (.cells #[.slice a0 n.asks.length c0, .slice b0 n.tells.length d0] 25)) := hid (by rw [hU5]; exact blk_alloc (blk_alloc (BX.out) _) _)
    replace BP : Hid (U5.heap[v3.heap.size]? = some (.cells #[.slice a3 Y.asks.length c3, .slice b3 Y.tells.length d3] 25)) := hid (by rw [hU5]; exact blk_alloc (blk_alloc (BP.out) _) _)
    replace BA : Hid (U5.heap[v4.heap.size]? = some (.cells #[.slice a5 A.asks.length c5, .slice b5 A.tells.length d5] 25)) := hid (by rw [hU5]; exact blk_alloc (blk_alloc (BA.out) _) _)
    have BB : Hid (U5.heap[v5.heap.size]? = some (.cells #[.slice a7 B.asks.length c7, .slice b7 B.tells.length d7] 25)) := hid (by rw [hU5]; exact blk_alloc (heap_new (v5) _) _)
    replace NP := hid (NetOwn.on NP.out (show On _ v5 U5 by rw [hU5]; exact (((On.refl _ _).alloc _).alloc _)))
    replace NA := hid (NetOwn.on NA.out (show On _ v5 U5 by rw [hU5]; exact (((On.refl _ _).alloc _).alloc _)))
    replace NB := hid (NetOwn.on NB.out (show On _ v5 U5 by rw [hU5]; exact (((On.refl _ _).alloc _).alloc _)))
    replace Z1 : Hid (Below w5.heap.size w5 U5) := hid (by rw [hU5]; exact ((Z1.out).alloc (by have := Z1.out.size; simp; omega) _).alloc (by have := Z1.out.size; simp; omega) _)
    rw [← hU5]
    clear hU5
    obtain ⟨bx0, bx1, bxf, bxl⟩ := blk2 BX.out
    go_wp2_with fail
    clear bx0 bx1 bxf bxl
    refine (twiceT_any _ _ n at' _ (NI5.out.below Z1.out) KN.out).mono ?_
    rintro e v6 ⟨ua, ut, he, hn, hb⟩
    rw [HC.out] at he hn
    obtain ⟨a9, c9, b9, d9, rfl, rfl⟩ := hn.shape
    simp only [netv] at he
    subst he
    replace hn := hn.mono Z1.out.size
    have hzv6 : U5.heap.size ≤ v6.heap.size := hb.size
    replace BX := hid (blk_below BX.out hb (blk_lt BX.out))
    replace BP := hid (blk_below BP.out hb (blk_lt BP.out))
    replace BA := hid (blk_below BA.out hb (blk_lt BA.out))
    replace BB := hid (blk_below BB.out hb (blk_lt BB.out))
    replace NP := hid (NP.out.below hb)
    replace NA := hid (NA.out.below hb)
    replace NB := hid (NB.out.below hb)
    replace Z1 := hid (Z1.out.trans (hb.mono Z1.out.size))
    have NC := hid hn
    clear hb hn
    go_upto_region 9 with fail
    obtain ⟨U6, hU6⟩ : ∃ U, U = (v6.alloc (.cells #[.slice a9 C.asks.length c9, .slice b9 C.tells.length d9] 25)) := ⟨_, rfl⟩
    have hzU6 : v6.heap.size + 1 = U6.heap.size := by rw [hU6]; simp
    replace BX : Hid (U6.heap[w.heap.size]? = some (.cells #[.slice a0 n.asks.length c0, .slice b0 n.tells.length d0] 25)) := hid (by rw [hU6]; exact blk_alloc (BX.out) _)
    replace BP : Hid (U6.heap[v3.heap.size]? = some (.cells #[.slice a3 Y.asks.length c3, .slice b3 Y.tells.length d3] 25)) := hid (by rw [hU6]; exact blk_alloc (BP.out) _)
    replace BA : Hid (U6.heap[v4.heap.size]? = some (.cells #[.slice a5 A.asks.length c5, .slice b5 A.tells.length d5] 25)) := hid (by rw [hU6]; exact blk_alloc (BA.out) _)
    replace BB : Hid (U6.heap[v5.heap.size]? = some (.cells #[.slice a7 B.asks.length c7, .slice b7 B.tells.length d7] 25)) := hid (by rw [hU6]; exact blk_alloc (BB.out) _)
    have BC : Hid (U6.heap[v6.heap.size]? = some (.cells #[.slice a9 C.asks.length c9, .slice b9 C.tells.length d9] 25)) := hid (by rw [hU6]; exact heap_new (v6) _)
    replace NP := hid (NetOwn.on NP.out (show On _ v6 U6 by rw [hU6]; exact ((On.refl _ _).alloc _)))
    replace NA := hid (NetOwn.on NA.out (show On _ v6 U6 by rw [hU6]; exact ((On.refl _ _).alloc _)))
    replace NB := hid (NetOwn.on NB.out (show On _ v6 U6 by rw [hU6]; exact ((On.refl _ _).alloc _)))
    replace NC := hid (NetOwn.on NC.out (show On _ v6 U6 by rw [hU6]; exact ((On.refl _ _).alloc _)))
    replace Z1 : Hid (Below w5.heap.size w5 U6) := hid (by rw [hU6]; exact (Z1.out).alloc (by have := Z1.out.size; simp; omega) _)
    rw [← hU6]
    clear hU6
    have NN := hid (NI5.out.below Z1.out)
    obtain ⟨Ev, hEvdef⟩ : ∃ Ev : World → Prop, Ev = fun W => W.heap[w.heap.size]? = some (.cells #[.slice a0 n.asks.length c0, .slice b0 n.tells.length d0] 25) ∧ W.heap[v3.heap.size]? = some (.cells #[.slice a3 Y.asks.length c3, .slice b3 Y.tells.length d3] 25) ∧ W.heap[v4.heap.size]? = some (.cells #[.slice a5 A.asks.length c5, .slice b5 A.tells.length d5] 25) ∧ W.heap[v5.heap.size]? = some (.cells #[.slice a7 B.asks.length c7, .slice b7 B.tells.length d7] 25) ∧ W.heap[v6.heap.size]? = some (.cells #[.slice a9 C.asks.length c9, .slice b9 C.tells.length d9] 25) ∧ NetOwn W w5.heap.size (.slice a3 Y.asks.length c3) (.slice b3 Y.tells.length d3) Y ∧ NetOwn W w5.heap.size (.slice a5 A.asks.length c5) (.slice b5 A.tells.length d5) A ∧ NetOwn W w5.heap.size (.slice a7 B.asks.length c7) (.slice b7 B.tells.length d7) B ∧ NetOwn W w5.heap.size (.slice a9 C.asks.length c9) (.slice b9 C.tells.length d9) C ∧ NetIs W (.slice a0 n.asks.length c0) (.slice b0 n.tells.length d0) n ∧ Below w5.heap.size w5 W := ⟨_, rfl⟩
    have hEv0 : Ev U6 := by rw [hEvdef]; exact ⟨BX.out, BP.out, BA.out, BB.out, BC.out, NP.out, NA.out, NB.out, NC.out, NN.out, Z1.out⟩
    have hEvk : ∀ W W', Below W.heap.size W W' → Ev W → Ev W' := by
      rw [hEvdef]
      rintro W W' hb ⟨q0, q1, q2, q3, q4, q5, q6, q7, q8, q9, q10⟩
      exact ⟨blk_below q0 hb (blk_lt q0), blk_below q1 hb (blk_lt q1), blk_below q2 hb (blk_lt q2), blk_below q3 hb (blk_lt q3), blk_below q4 hb (blk_lt q4), NetOwn.below q5 hb, NetOwn.below q6 hb, NetOwn.below q7 hb, NetOwn.below q8 hb, NetIs.below q9 hb, q10.trans (hb.mono q10.size)⟩
    have hEv_NP : ∀ W, Ev W → NetOwn W w5.heap.size (.slice a3 Y.asks.length c3) (.slice b3 Y.tells.length d3) Y := by
      rw [hEvdef]
      rintro W ⟨q0, q1, q2, q3, q4, q5, q6, q7, q8, q9, q10⟩
      exact q5
    have hEv_NA : ∀ W, Ev W → NetOwn W w5.heap.size (.slice a5 A.asks.length c5) (.slice b5 A.tells.length d5) A := by
      rw [hEvdef]
      rintro W ⟨q0, q1, q2, q3, q4, q5, q6, q7, q8, q9, q10⟩
      exact q6
    have hEv_NB : ∀ W, Ev W → NetOwn W w5.heap.size (.slice a7 B.asks.length c7) (.slice b7 B.tells.length d7) B := by
      rw [hEvdef]
      rintro W ⟨q0, q1, q2, q3, q4, q5, q6, q7, q8, q9, q10⟩
      exact q7
    have hEv_NC : ∀ W, Ev W → NetOwn W w5.heap.size (.slice a9 C.asks.length c9) (.slice b9 C.tells.length d9) C := by
      rw [hEvdef]
      rintro W ⟨q0, q1, q2, q3, q4, q5, q6, q7, q8, q9, q10⟩
      exact q8
    have hEv_NN : ∀ W, Ev W → NetIs W (.slice a0 n.asks.length c0) (.slice b0 n.tells.length d0) n := by
      rw [hEvdef]
      rintro W ⟨q0, q1, q2, q3, q4, q5, q6, q7, q8, q9, q10⟩
      exact q9
    have hEv_Z1 : ∀ W, Ev W → Below w5.heap.size w5 W := by
      rw [hEvdef]
      rintro W ⟨q0, q1, q2, q3, q4, q5, q6, q7, q8, q9, q10⟩
      exact q10
    have hEv_BX : ∀ W, Ev W → W.heap[w.heap.size]? = some (.cells #[.slice a0 n.asks.length c0, .slice b0 n.tells.length d0] 25) := by
      rw [hEvdef]
      rintro W ⟨q0, q1, q2, q3, q4, q5, q6, q7, q8, q9, q10⟩
      exact q0
    have hEv_BP : ∀ W, Ev W → W.heap[v3.heap.size]? = some (.cells #[.slice a3 Y.asks.length c3, .slice b3 Y.tells.length d3] 25) := by
      rw [hEvdef]
      rintro W ⟨q0, q1, q2, q3, q4, q5, q6, q7, q8, q9, q10⟩
      exact q1
    have hEv_BA : ∀ W, Ev W → W.heap[v4.heap.size]? = some (.cells #[.slice a5 A.asks.length c5, .slice b5 A.tells.length d5] 25) := by
      rw [hEvdef]
      rintro W ⟨q0, q1, q2, q3, q4, q5, q6, q7, q8, q9, q10⟩
      exact q2
    have hEv_BB : ∀ W, Ev W → W.heap[v5.heap.size]? = some (.cells #[.slice a7 B.asks.length c7, .slice b7 B.tells.length d7] 25) := by
      rw [hEvdef]
      rintro W ⟨q0, q1, q2, q3, q4, q5, q6, q7, q8, q9, q10⟩
      exact q3
    have hEv_BC : ∀ W, Ev W → W.heap[v6.heap.size]? = some (.cells #[.slice a9 C.asks.length c9, .slice b9 C.tells.length d9] 25) := by
      rw [hEvdef]
      rintro W ⟨q0, q1, q2, q3, q4, q5, q6, q7, q8, q9, q10⟩
      exact q4
    have hEvc : ∀ W, Ev W → W.cell? ⟨w.heap.size, 0, none⟩ = some (.slice a0 n.asks.length c0) ∧ W.cell? ⟨w.heap.size, 1, none⟩ = some (.slice b0 n.tells.length d0) ∧ W.cell? ⟨v3.heap.size, 0, none⟩ = some (.slice a3 Y.asks.length c3) ∧ W.cell? ⟨v3.heap.size, 1, none⟩ = some (.slice b3 Y.tells.length d3) ∧ W.cell? ⟨v4.heap.size, 0, none⟩ = some (.slice a5 A.asks.length c5) ∧ W.cell? ⟨v4.heap.size, 1, none⟩ = some (.slice b5 A.tells.length d5) ∧ W.cell? ⟨v5.heap.size, 0, none⟩ = some (.slice a7 B.asks.length c7) ∧ W.cell? ⟨v5.heap.size, 1, none⟩ = some (.slice b7 B.tells.length d7) ∧ W.cell? ⟨v6.heap.size, 0, none⟩ = some (.slice a9 C.asks.length c9) ∧ W.cell? ⟨v6.heap.size, 1, none⟩ = some (.slice b9 C.tells.length d9) := by
      rw [hEvdef]
      rintro W ⟨q0, q1, q2, q3, q4, q5, q6, q7, q8, q9, q10⟩
      exact ⟨blk_cell q0 0, blk_cell q0 1, blk_cell q1 0, blk_cell q1 1, blk_cell q2 0, blk_cell q2 1, blk_cell q3 0, blk_cell q3 1, blk_cell q4 0, blk_cell q4 1⟩
    have hEvs : ∀ W W', Below W.heap.size W W' → Ev W → Ev W' ∧ W'.cell? ⟨w.heap.size, 0, none⟩ = some (.slice a0 n.asks.length c0) ∧ W'.cell? ⟨w.heap.size, 1, none⟩ = some (.slice b0 n.tells.length d0) ∧ W'.cell? ⟨v3.heap.size, 0, none⟩ = some (.slice a3 Y.asks.length c3) ∧ W'.cell? ⟨v3.heap.size, 1, none⟩ = some (.slice b3 Y.tells.length d3) ∧ W'.cell? ⟨v4.heap.size, 0, none⟩ = some (.slice a5 A.asks.length c5) ∧ W'.cell? ⟨v4.heap.size, 1, none⟩ = some (.slice b5 A.tells.length d5) ∧ W'.cell? ⟨v5.heap.size, 0, none⟩ = some (.slice a7 B.asks.length c7) ∧ W'.cell? ⟨v5.heap.size, 1, none⟩ = some (.slice b7 B.tells.length d7) ∧ W'.cell? ⟨v6.heap.size, 0, none⟩ = some (.slice a9 C.asks.length c9) ∧ W'.cell? ⟨v6.heap.size, 1, none⟩ = some (.slice b9 C.tells.length d9) := fun W W' hb h => ⟨hEvk W W' hb h, hEvc W' (hEvk W W' hb h)⟩
    have Ev_0 := hid hEv0
    have Ev_S := hid hEvs
    have Ev_K := hid hEvk
    have Ev_C := hid hEvc
    have Ev_NP := hid hEv_NP
    have Ev_NA := hid hEv_NA
    have Ev_NB := hid hEv_NB
    have Ev_NC := hid hEv_NC
    have Ev_NN := hid hEv_NN
    have Ev_Z1 := hid hEv_Z1
    have Ev_BX := hid hEv_BX
    have Ev_BP := hid hEv_BP
    have Ev_BA := hid hEv_BA
    have Ev_BB := hid hEv_BB
    have Ev_BC := hid hEv_BC
    have Ev_D := hid hEvdef
    clear BX BP BA BB BC NP NA NB NC NN Z1 hEv0 hEvk hEvs hEvdef hEv_NP hEv_NA hEv_NB hEv_NC hEv_NN hEv_Z1 hEv_BX hEv_BP hEv_BA hEv_BB hEv_BC hEvc
    go_region_held3 (fun W => Ev W ∧ W.cell? ⟨w.heap.size, 0, none⟩ = some (.slice a0 n.asks.length c0) ∧ W.cell? ⟨w.heap.size, 1, none⟩ = some (.slice b0 n.tells.length d0) ∧ W.cell? ⟨v3.heap.size, 0, none⟩ = some (.slice a3 Y.asks.length c3) ∧ W.cell? ⟨v3.heap.size, 1, none⟩ = some (.slice b3 Y.tells.length d3) ∧ W.cell? ⟨v4.heap.size, 0, none⟩ = some (.slice a5 A.asks.length c5) ∧ W.cell? ⟨v4.heap.size, 1, none⟩ = some (.slice b5 A.tells.length d5) ∧ W.cell? ⟨v5.heap.size, 0, none⟩ = some (.slice a7 B.asks.length c7) ∧ W.cell? ⟨v5.heap.size, 1, none⟩ = some (.slice b7 B.tells.length d7) ∧ W.cell? ⟨v6.heap.size, 0, none⟩ = some (.slice a9 C.asks.length c9) ∧ W.cell? ⟨v6.heap.size, 1, none⟩ = some (.slice b9 C.tells.length d9)) (first | exact Ev_S.out _ _ (below_drewN (Below.refl _ _) 1) Ev_0.out | (go_split_ands; exact Ev_S.out _ _ (below_drewN (Below.refl _ _) 1) (by assumption)) | (go_split_ands; exact Ev_S.out _ _ hb9 (by assumption)) | (go_split_ands; exact Ev_S.out _ _ ((Below.refl _ _).alloc (Nat.le_refl _) _) (by assumption))) (first | (go_at_call 15; go_split_ands; refine (own_from _ _ n w5.heap.size _ (Ev_NN.out _ (by assumption)) KN.out (Ev_Z1.out _ (by assumption)).size).mono ?_; rintro e w9 ⟨a10, c10, b10, d10, rfl, ho, hb9⟩; have HO := hid ho; clear ho))
    go_split_ands
    obtain ⟨V, hV⟩ : ∃ V, V = w9.alloc (.cells #[.slice a10 n.asks.length c10, .slice b10 n.tells.length d10, .slice a3 Y.asks.length c3, .slice b3 Y.tells.length d3, .slice a5 A.asks.length c5, .slice b5 A.tells.length d5, .slice a7 B.asks.length c7, .slice b7 B.tells.length d7, .slice a9 C.asks.length c9, .slice b9 C.tells.length d9] 25) := ⟨_, rfl⟩
    have hEV : Ev V := by rw [hV]; assumption
    have AR : Hid (V.heap[w9.heap.size]? = some (.cells #[.slice a10 n.asks.length c10, .slice b10 n.tells.length d10, .slice a3 Y.asks.length c3, .slice b3 Y.tells.length d3, .slice a5 A.asks.length c5, .slice b5 A.tells.length d5, .slice a7 B.asks.length c7, .slice b7 B.tells.length d7, .slice a9 C.asks.length c9, .slice b9 C.tells.length d9] 25)) := hid (by rw [hV]; exact heap_new _ _)
    replace HO : Hid (NetOwn V w5.heap.size (.slice a10 n.asks.length c10) (.slice b10 n.tells.length d10) n) := hid (by rw [hV]; exact NetOwn.below HO.out ((Below.refl _ _).alloc (Nat.le_refl _) _))
    have HN : Hid (∀ k, k < 5 → ∃ va vt, V.cell? ⟨w9.heap.size, k * 2, none⟩ = some va ∧ V.cell? ⟨w9.heap.size, k * 2 + 1, none⟩ = some vt ∧ NetW V w5.heap.size va vt) := hid (by
      intro k hk
      match k, hk with
      | 0, _ => exact ⟨_, _, blk_cell AR.out 0, blk_cell AR.out 1, HO.out.w KN.out (Nat.le_refl _)⟩
      | 1, _ => exact ⟨_, _, blk_cell AR.out 2, blk_cell AR.out 3, (Ev_NP.out _ hEV).w KY.out (Nat.le_refl _)⟩
      | 2, _ => exact ⟨_, _, blk_cell AR.out 4, blk_cell AR.out 5, (Ev_NA.out _ hEV).w KA.out (Nat.le_refl _)⟩
      | 3, _ => exact ⟨_, _, blk_cell AR.out 6, blk_cell AR.out 7, (Ev_NB.out _ hEV).w KB.out (Nat.le_refl _)⟩
      | 4, _ => exact ⟨_, _, blk_cell AR.out 8, blk_cell AR.out 9, (Ev_NC.out _ hEV).w KC.out (Nat.le_refl _)⟩)
    have ZV := hid (Ev_Z1.out _ hEV)
    rw [← hV]
    clear hV hEV HO
    go_wp2_with fail
    go_loopw [73] (fun kk wr => ∃ k : Nat, kk = .int .i64 k ∧ k ≤ 5 ∧ Spoil V wr ∧ Below w5.heap.size w5 wr) (fun kk _ => 5 - (intOf kk).toNat)
    case atStart => exact ⟨0, rfl, by omega, Spoil.refl _, ZV.out⟩
    case round =>
      obtain ⟨k, rfl, hk, hsp, hbw⟩ := hrel
      obtain ⟨wa, rfl⟩ : ∃ wo : World, wo = wr := ⟨_, rfl⟩
      have SP := hid hsp
      have ZW := hid hbw
      clear hsp hbw
      by_cases hlt : k < 5
      · obtain ⟨va, vt, hc0, hc1, hw⟩ := HN.out k hlt
        have HWV := hid hw
        obtain ⟨na, nt, ⟨aa, ac, rfl, _⟩, _, ⟨ta, tc, rfl, _⟩, _, _⟩ := hw
        have g0 := (SP.out.cell (j := k * 2) AR.out (by decide) (by decide) (fun h => absurd h (by decide))).trans hc0
        have g1 := (SP.out.cell (j := k * 2 + 1) AR.out (by decide) (by decide) (fun h => absurd h (by decide))).trans hc1
        have hk5 : (k : Int) < 5 := by omega
        clear hc0 hc1
        go_upto_region 12 with fail
        clear g0 g1
        obtain ⟨U, hU⟩ : ∃ U, U = wa.alloc (.cells #[.slice aa na ac, .slice ta nt tc] 25) := ⟨_, rfl⟩
        have BO : Hid (U.heap[wa.heap.size]? = some (.cells #[.slice aa na ac, .slice ta nt tc] 25)) := hid (by rw [hU]; exact heap_new _ _)
        have SU : Hid (Spoil V U) := hid (SP.out.trans (Spoil.below (by rw [hU]; exact (Below.refl _ _).alloc (Nat.le_refl _) _)))
        have ZU : Hid (Below w5.heap.size w5 U) := hid (by rw [hU]; exact ZW.out.alloc ZW.out.size _)
        rw [← hU]
        clear hU
        obtain ⟨na', nt', ⟨aa', ac', he1, hsa⟩, hna, ⟨ta', tc', he2, hst⟩, hnt, hseen⟩ := HWV.out.spoil SU.out
        cases he1
        cases he2
        have HSA := hid hsa
        have HST := hid hst
        have HSEEN := hid hseen
        clear hsa hst hseen HWV
        go_wp2_with fail
        go_loopw [21] (fun i wr => ∃ j : Nat, i = .int .i64 j ∧ j ≤ na ∧ Spoil U wr ∧ Below w5.heap.size w5 wr) (fun i _ => na - (intOf i).toNat)
        case atStart => exact ⟨0, rfl, Nat.zero_le _, Spoil.refl _, ZU.out⟩
        case round =>
          obtain ⟨j, rfl, hj, hsq, hbq⟩ := hrel
          obtain ⟨wb, rfl⟩ : ∃ wo : World, wo = wr := ⟨_, rfl⟩
          obtain ⟨bo0, bo1, bof, bol⟩ := blk2 (hsq.blk BO.out (by decide) (by decide) (by decide))
          have SQ := hid hsq
          have ZQ := hid hbq
          clear hsq hbq
          by_cases hja : j < na
          · obtain ⟨g, cur, rfl, hg, hgb, hgs⟩ := HSA.out (by omega)
            obtain ⟨cur', hq, hqs, _⟩ := SQ.out.block g cur _ hgb
            obtain ⟨u, hu⟩ : ∃ u, cur'[j * 6 + 1]? = some u := ⟨_, Array.getElem?_eq_getElem (by omega)⟩
            have k1 : wb.cell? ⟨g, j * 6 + 1, none⟩ = some u := by rw [blk_cell hq]; exact hu
            have kf : ∀ i, wb.frozen? ⟨g, i, none⟩ = false := blk_free hq
            have HQ := hid hq
            have s1 : (j : Int) < (na : Int) := by omega
            clear hq hu hgb hqs
            go_wp2
            go_roundw
            case rel => exact ⟨j + 1, by go_num, by omega, SQ.out.set HQ.out (.inl rfl) _, ZQ.out.setCell (p := ⟨g, j * 6 + 1, none⟩) hg _⟩
            case measure => simp [intOf]; omega
          · obtain rfl : j = na := by omega
            go_wp2_with fail
            go_loopw [22] (fun i wr => ∃ j : Nat, i = .int .i64 j ∧ j ≤ nt ∧ Spoil U wr ∧ Below w5.heap.size w5 wr) (fun i _ => nt - (intOf i).toNat)
            case atStart => exact ⟨0, rfl, Nat.zero_le _, SQ.out, ZQ.out⟩
            case round =>
              clear SQ ZQ bo0 bo1 bof bol
              obtain ⟨j2, rfl, hj2, hsq, hbq⟩ := hrel
              obtain ⟨wc, rfl⟩ : ∃ wo : World, wo = wr := ⟨_, rfl⟩
              obtain ⟨bo0, bo1, bof, bol⟩ := blk2 (hsq.blk BO.out (by decide) (by decide) (by decide))
              have SQ := hid hsq
              have ZQ := hid hbq
              clear hsq hbq
              by_cases hja2 : j2 < nt
              · obtain ⟨g, cur, rfl, hg, hgb, hgs⟩ := HST.out (by omega)
                obtain ⟨s, m, hs0, ⟨sa3, sc3, rfl, hsw⟩, hm⟩ := HSEEN.out g tc j2 rfl hja2
                have HS0 := hid hs0
                have HSW := hid hsw
                have HGB := hid hgb
                obtain ⟨cur', hq, hqs, _⟩ := SQ.out.block g cur _ hgb
                obtain ⟨u, hu⟩ : ∃ u, cur'[j2 * 6]? = some u := ⟨_, Array.getElem?_eq_getElem (by omega)⟩
                have k1 : wc.cell? ⟨g, j2 * 6, none⟩ = some u := by rw [blk_cell hq]; exact hu
                have kf : ∀ i, wc.frozen? ⟨g, i, none⟩ = false := blk_free hq
                have HQ := hid hq
                have s1 : (j2 : Int) < (nt : Int) := by omega
                clear hq hu hgb hqs hs0 hsw
                go_upto_region 20 with fail
                obtain ⟨D, hD⟩ : ∃ D, D = wc.setCell ⟨g, j2 * 6, none⟩ (.int .i64 (-7)) := ⟨_, rfl⟩
                have SD : Hid (Spoil U D) := hid (by rw [hD]; exact SQ.out.set HQ.out (.inr (.inr ⟨rfl, by omega⟩)) _)
                have ZD : Hid (Below w5.heap.size w5 D) := hid (by rw [hD]; exact ZQ.out.setCell (p := ⟨g, j2 * 6, none⟩) hg _)
                rw [← hD]
                clear hD k1 kf HQ bo0 bo1 bof bol
                go_wp2_with fail
                go_loopw [23] (fun i wr => ∃ j : Nat, i = .int .i64 j ∧ j ≤ m ∧ Spoil U wr ∧ Below w5.heap.size w5 wr) (fun i _ => m - (intOf i).toNat)
                case atStart => exact ⟨0, rfl, Nat.zero_le _, SD.out, ZD.out⟩
                case round =>
                  obtain ⟨j3, rfl, hj3, hsq, hbq⟩ := hrel
                  obtain ⟨bo0, bo1, bof, bol⟩ := blk2 (hsq.blk BO.out (by decide) (by decide) (by decide))
                  have hsc := (hsq.cell (j := j2 * 6 + 4) HGB.out (by decide) (by decide) (fun _ => by omega)).trans HS0.out
                  have S4 := hid hsq
                  have Z4 := hid hbq
                  clear hsq hbq
                  by_cases hja3 : j3 < m
                  · obtain ⟨g3, cur3, rfl, hg3, hgb3, hgs3⟩ := HSW.out (by omega)
                    obtain ⟨cur4, hq, hqs, _⟩ := S4.out.block g3 cur3 _ hgb3
                    obtain ⟨u, hu⟩ : ∃ u, cur4[j3 * 7]? = some u := ⟨_, Array.getElem?_eq_getElem (by omega)⟩
                    have k1 : wr.cell? ⟨g3, j3 * 7, none⟩ = some u := by rw [blk_cell hq]; exact hu
                    have kf : ∀ i, wr.frozen? ⟨g3, i, none⟩ = false := blk_free hq
                    have HQ := hid hq
                    have s3 : (j3 : Int) < (m : Int) := by omega
                    clear hq hu hgb3 hqs
                    go_wp2
                    go_roundw
                    case rel => exact ⟨j3 + 1, by go_num, by omega, S4.out.set HQ.out (.inr (.inl rfl)) _, Z4.out.setCell (p := ⟨g3, j3 * 7, none⟩) hg3 _⟩
                    case measure => simp [intOf]; omega
                  · obtain rfl : j3 = m := by omega
                    go_wp2
                    go_roundw
                    case rel => exact ⟨j2 + 1, by go_num, by omega, S4.out, Z4.out⟩
                    case measure => simp [intOf]; omega
              · obtain rfl : j2 = nt := by omega
                go_wp2
                go_roundw
                case rel => exact ⟨k + 1, by go_num, by omega, SU.out.trans SQ.out, ZQ.out⟩
                case measure => simp [intOf]; omega
      · have BX := hid (blk_below BX5.out ZW.out (blk_lt BX5.out))
        have BT := hid (blk_below BT5.out ZW.out (blk_lt BT5.out))
        have BW := hid (blk_below BW5.out ZW.out (blk_lt BW5.out))
        have Z1 := hid ZW.out
        clear SP ZW HN AR
        obtain rfl : k = 5 := by omega
        obtain ⟨bx0, bx1, bxf, bxl⟩ := blk2 BX.out
        obtain ⟨bw0, bw1, bwf, bwl⟩ := blk2 BW.out
        go_wp2_with fail
        clear bx0 bx1 bxf bxl
        clear bw0 bw1 bwf bwl
        refine (tn_self _ _ _ _ n _ (NI5.out.below Z1.out) (N15.out.below Z1.out) KN.out).mono ?_
        rintro e v51 ⟨he, hb⟩
        subst he
        have hzv51 : wa.heap.size ≤ v51.heap.size := hb.size
        replace BX := hid (blk_below BX.out hb (blk_lt BX.out))
        replace BT := hid (blk_below BT.out hb (blk_lt BT.out))
        replace BW := hid (blk_below BW.out hb (blk_lt BW.out))
        replace Z1 := hid (Z1.out.trans (hb.mono Z1.out.size))
        clear hb
        obtain ⟨bt0, bt1, bt2, bt3, bt4, bt5, btf, btl⟩ := blk6 BT.out
        go_wp2_with fail
        clear bt0 bt1 bt2 bt3 bt4 bt5 btf btl
        refine (rsame9_any (.slice qa L.length qcap) (.slice sa sn sc) L L _ (RowOf.below QI5.out Z1.out) (RowOf.below SR.out Z1.out) hL hL).mono ?_
        rintro e v52 ⟨he, hb⟩
        rw [decide_eq_true rfl] at he
        subst he
        have hzv52 : v51.heap.size ≤ v52.heap.size := hb.size
        replace BX := hid (blk_below BX.out hb (blk_lt BX.out))
        replace BT := hid (blk_below BT.out hb (blk_lt BT.out))
        replace BW := hid (blk_below BW.out hb (blk_lt BW.out))
        replace Z1 := hid (Z1.out.trans (hb.mono Z1.out.size))
        clear hb
        go_wp2_with fail
        refine (wakes_any _).mono ?_
        rintro e v53 ⟨he, hb⟩
        subst he
        have hzv53 : v52.heap.size ≤ v53.heap.size := hb.size
        replace BX := hid (blk_below BX.out hb (blk_lt BX.out))
        replace BT := hid (blk_below BT.out hb (blk_lt BT.out))
        replace BW := hid (blk_below BW.out hb (blk_lt BW.out))
        replace Z1 := hid (Z1.out.trans (hb.mono Z1.out.size))
        clear hb
        go_wp2
        go_ret
        refine ⟨rfl, ?_⟩
        exact Z.out.trans (Z1.out.mono Z.out.size)
end Go.Proofs.Ythnlppbfmmiioaa
