/- The walk of NetTells: what is taken, what is on its way behind each call, what is the same. -/
import Derived.Test.YthnlppbfmmiioaaTn0
import Derived.Deep.RegionHeld3
namespace Go.Proofs.Ythnlppbfmmiioaa
open Go.RowKit Go.Shelf

/-- What holds of the world, held for the world by a new name. -/
theorem wp_at {P : Program} {s : Code} {K : Exit → Act → World → Prop} {a : Act} {w : World} {Q : World → Prop} (h : Q w) (k : ∀ W, Q W → Code.wp P s K a W) : Code.wp P s K a w := k w h

set_option maxHeartbeats 4000000 in
set_option maxRecDepth 100000 in
theorem ntells_any (va vt ua ut : Value) (n m : NetV) (x : AskV) (q : TellM) (L : List SeenV) (at' : Int) (tells : Bool) (w : World) (hn : NetIs w va vt n) (hm : NetIs w ua ut m) (hq : RowN w q.sv L) :
    Calls Try.prog 3 #[netv va vt, netv ua ut, aggA x, aggT q, .int .i64 at', .bool tells] w fun e w' => e = .returned (.bool true) ∧ Below w.heap.size w w' := by
  obtain ⟨a0, c0, b0, d0, rfl, rfl⟩ := hn.shape
  obtain ⟨a9, c9, b9, d9, rfl, rfl⟩ := hm.shape
  obtain ⟨qc, qk, qo, qi, qs, qm⟩ := q
  obtain ⟨qa, qcap, hqs⟩ := shape_row hq
  simp only at hqs
  subst hqs
  obtain ⟨U0, hU0⟩ : ∃ U, U = (((w.alloc (.cells #[.slice a0 n.asks.length c0, .slice b0 n.tells.length d0] 25)).alloc (.cells #[.slice a9 m.asks.length c9, .slice b9 m.tells.length d9] 25)).alloc (.cells #[.int .u8 x.kind, .int .i64 x.call, .int .i64 x.a, .int .i64 x.b, .int .i64 x.c, .int .i64 x.d] 27)).alloc (.cells #[.int .i64 qc, .int .u8 qk, .int .u8 qo, .int .i64 qi, .slice qa L.length qcap, .bool qm] 30) := ⟨_, rfl⟩
  have hZ : Below w.heap.size w U0 := by rw [hU0]; exact ((((Below.refl _ _).alloc (Nat.le_refl _) _).alloc (by simp) _).alloc (by simp; omega) _).alloc (by simp; omega) _
  have hzU0 : w.heap.size + 4 = U0.heap.size := by rw [hU0]; simp
  have Z := hid hZ
  have BX : Hid (U0.heap[w.heap.size]? = some (.cells #[.slice a0 n.asks.length c0, .slice b0 n.tells.length d0] 25)) := hid (by rw [hU0]; exact blk_alloc (blk_alloc (blk_alloc (heap_new _ _) _) _) _)
  have BM : Hid (U0.heap[w.heap.size + 1]? = some (.cells #[.slice a9 m.asks.length c9, .slice b9 m.tells.length d9] 25)) := hid (by rw [hU0]; exact blk_alloc (blk_alloc (heap_new2 _ _ _) _) _)
  have BA : Hid (U0.heap[w.heap.size + 2]? = some (.cells #[.int .u8 x.kind, .int .i64 x.call, .int .i64 x.a, .int .i64 x.b, .int .i64 x.c, .int .i64 x.d] 27)) := hid (by rw [hU0]; refine blk_alloc ?_ _; simpa using heap_new2 (w.alloc _) _ _)
  have BT : Hid (U0.heap[w.heap.size + 3]? = some (.cells #[.int .i64 qc, .int .u8 qk, .int .u8 qo, .int .i64 qi, .slice qa L.length qcap, .bool qm] 30)) := hid (by rw [hU0]; simpa using heap_new2 ((w.alloc _).alloc _) _ _)
  have NI := hid hn
  have MI := hid hm
  have QI := hid hq
  clear hn hm hq hZ
  unfold netv aggA aggT
  go_enter Try.func3, Try.ntmps3
  go_upto_region 1 with fail
  rw [← hU0]
  clear hU0
  obtain ⟨bx0, bx1, bxf, bxl⟩ := blk2 BX.out
  go_wp2_with fail
  clear bx0 bx1 bxf bxl
  refine (great_any _ _ n _ (NI.out.below Z.out)).mono ?_
  rintro e v1 ⟨gb, he, hg, hb⟩
  subst he
  have hzv1 : U0.heap.size ≤ v1.heap.size := hb.size
  replace BX := hid (blk_below BX.out hb (blk_lt BX.out))
  replace BM := hid (blk_below BM.out hb (blk_lt BM.out))
  replace BA := hid (blk_below BA.out hb (blk_lt BA.out))
  replace BT := hid (blk_below BT.out hb (blk_lt BT.out))
  replace Z := hid (Z.out.trans (hb.mono Z.out.size))
  clear hb
  cases gb with
  | true =>
    clear hg
    obtain ⟨bx0, bx1, bxf, bxl⟩ := blk2 BX.out
    obtain ⟨bm0, bm1, bmf, bml⟩ := blk2 BM.out
    obtain ⟨bt0, bt1, bt2, bt3, bt4, bt5, btf, btl⟩ := blk6 BT.out
    go_wp2_with fail
    clear bx0 bx1 bxf bxl
    clear bm0 bm1 bmf bml
    clear bt0 bt1 bt2 bt3 bt4 bt5 btf btl
    refine (wakes_any _).mono ?_
    rintro e v2 ⟨he, hb⟩
    subst he
    have hzv2 : v1.heap.size ≤ v2.heap.size := hb.size
    replace BX := hid (blk_below BX.out hb (blk_lt BX.out))
    replace BM := hid (blk_below BM.out hb (blk_lt BM.out))
    replace BA := hid (blk_below BA.out hb (blk_lt BA.out))
    replace BT := hid (blk_below BT.out hb (blk_lt BT.out))
    replace Z := hid (Z.out.trans (hb.mono Z.out.size))
    clear hb
    go_wp2
    go_ret
    exact ⟨rfl, Z.out⟩
  | false =>
    have hs := hg rfl
    have HS := hid hs
    clear hg hs
    obtain ⟨bm0, bm1, bmf, bml⟩ := blk2 BM.out
    go_wp2_with fail
    clear bm0 bm1 bmf bml
    refine (great_any _ _ m _ (MI.out.below Z.out)).mono ?_
    rintro e v2 ⟨gb, he, hg, hb⟩
    subst he
    have hzv2 : v1.heap.size ≤ v2.heap.size := hb.size
    replace BX := hid (blk_below BX.out hb (blk_lt BX.out))
    replace BM := hid (blk_below BM.out hb (blk_lt BM.out))
    replace BA := hid (blk_below BA.out hb (blk_lt BA.out))
    replace BT := hid (blk_below BT.out hb (blk_lt BT.out))
    replace Z := hid (Z.out.trans (hb.mono Z.out.size))
    clear hb
    cases gb with
    | true =>
      clear hg
      obtain ⟨bx0, bx1, bxf, bxl⟩ := blk2 BX.out
      obtain ⟨bm0, bm1, bmf, bml⟩ := blk2 BM.out
      obtain ⟨bt0, bt1, bt2, bt3, bt4, bt5, btf, btl⟩ := blk6 BT.out
      go_wp2_with fail
      clear bx0 bx1 bxf bxl
      clear bm0 bm1 bmf bml
      clear bt0 bt1 bt2 bt3 bt4 bt5 btf btl
      refine (wakes_any _).mono ?_
      rintro e v3 ⟨he, hb⟩
      subst he
      have hzv3 : v2.heap.size ≤ v3.heap.size := hb.size
      replace BX := hid (blk_below BX.out hb (blk_lt BX.out))
      replace BM := hid (blk_below BM.out hb (blk_lt BM.out))
      replace BA := hid (blk_below BA.out hb (blk_lt BA.out))
      replace BT := hid (blk_below BT.out hb (blk_lt BT.out))
      replace Z := hid (Z.out.trans (hb.mono Z.out.size))
      clear hb
      go_wp2
      go_ret
      exact ⟨rfl, Z.out⟩
    | false =>
      have hs := hg rfl
      have KM := hid hs.ok
      clear hg hs
      by_cases hl : 60 < L.length
      · have hl60 : (60 : Int) < (L.length : Int) := by omega
        obtain ⟨bt0, bt1, bt2, bt3, bt4, bt5, btf, btl⟩ := blk6 BT.out
        go_wp2_with fail
        clear bt0 bt1 bt2 bt3 bt4 bt5 btf btl
        refine (wakes_any _).mono ?_
        rintro e v3 ⟨he, hb⟩
        subst he
        have hzv3 : v2.heap.size ≤ v3.heap.size := hb.size
        replace BX := hid (blk_below BX.out hb (blk_lt BX.out))
        replace BM := hid (blk_below BM.out hb (blk_lt BM.out))
        replace BA := hid (blk_below BA.out hb (blk_lt BA.out))
        replace BT := hid (blk_below BT.out hb (blk_lt BT.out))
        replace Z := hid (Z.out.trans (hb.mono Z.out.size))
        clear hb
        go_wp2
        go_ret
        exact ⟨rfl, Z.out⟩
      have hl60 : ¬ ((60 : Int) < (L.length : Int)) := by omega
      have KN := hid HS.out.ok
      have hL : L.length ≤ 1000000 := by omega
      obtain ⟨X, e1, hX⟩ : ∃ X e, sendV n x = (X, e) := ⟨_, _, rfl⟩
      obtain ⟨Y, e2, hY⟩ : ∃ X e, postV n ⟨qc, qk, qo, qi, L, qm⟩ = (X, e) := ⟨_, _, rfl⟩
      obtain ⟨A, y, o1, hA⟩ : ∃ A y o, askV n at' = (A, y, o) := ⟨_, _, _, rfl⟩
      obtain ⟨B, t, o2, hB⟩ : ∃ A y o, tellV n at' = (A, y, o) := ⟨_, _, _, rfl⟩
      obtain ⟨C, e3, hC⟩ : ∃ X e, twiceV n at' tells = (X, e) := ⟨_, _, rfl⟩
      obtain ⟨sb, hsb⟩ : ∃ b, nsameB n m = b := ⟨_, rfl⟩
      have KX : Hid (netOk X) := hid (by have := send_ok HS.out x; rw [hX] at this; exact this)
      have KY : Hid (netOk Y) := hid (by have := post_ok HS.out ⟨qc, qk, qo, qi, L, qm⟩ (by dsimp only; omega); rw [hY] at this; exact this)
      have KA : Hid (netOk A) := hid (by have := ask_ok HS.out at'; rw [hA] at this; exact this)
      have hkB := tell_ok HS.out at'
      rw [hB] at hkB
      have KB : Hid (netOk B) := hid hkB.1
      have hts : t.seen.length ≤ 1000000 := by have := hkB.2; dsimp only at this; omega
      have KC : Hid (netOk C) := hid (by have := twice_ok HS.out at' tells; rw [hC] at this; exact this)
      have HX := hid hX
      have HY := hid hY
      have HA := hid hA
      have HB := hid hB
      have HC := hid hC
      have HSB := hid hsb
      clear hX hY hA hB hC hsb hkB hl
      obtain ⟨bx0, bx1, bxf, bxl⟩ := blk2 BX.out
      obtain ⟨ba0, ba1, ba2, ba3, ba4, ba5, baf, bal⟩ := blk6 BA.out
      obtain ⟨bt0, bt1, bt2, bt3, bt4, bt5, btf, btl⟩ := blk6 BT.out
      go_wp2_with fail
      clear bx0 bx1 bxf bxl
      clear ba0 ba1 ba2 ba3 ba4 ba5 baf bal
      clear bt0 bt1 bt2 bt3 bt4 bt5 btf btl
      clear hl60
      refine (send_any _ _ n x _ (NI.out.below Z.out) KN.out).mono ?_
      rintro e v3 ⟨ua, ut, he, hn, hb⟩
      rw [HX.out] at he hn
      obtain ⟨a1, c1, b1, d1, rfl, rfl⟩ := hn.shape
      simp only [netv] at he
      subst he
      have hzv3 : v2.heap.size ≤ v3.heap.size := hb.size
      replace BX := hid (blk_below BX.out hb (blk_lt BX.out))
      replace BM := hid (blk_below BM.out hb (blk_lt BM.out))
      replace BA := hid (blk_below BA.out hb (blk_lt BA.out))
      replace BT := hid (blk_below BT.out hb (blk_lt BT.out))
      replace Z := hid (Z.out.trans (hb.mono Z.out.size))
      have N1 := hid hn
      clear hb hn
      go_upto_region 4 with fail
      obtain ⟨U3, hU3⟩ : ∃ U, U = (v3.alloc (.cells #[.slice a1 X.asks.length c1, .slice b1 X.tells.length d1] 25)) := ⟨_, rfl⟩
      have hzU3 : v3.heap.size + 1 = U3.heap.size := by rw [hU3]; simp
      replace BX : Hid (U3.heap[w.heap.size]? = some (.cells #[.slice a0 n.asks.length c0, .slice b0 n.tells.length d0] 25)) := hid (by rw [hU3]; exact blk_alloc (BX.out) _)
      replace BM : Hid (U3.heap[w.heap.size + 1]? = some (.cells #[.slice a9 m.asks.length c9, .slice b9 m.tells.length d9] 25)) := hid (by rw [hU3]; exact blk_alloc (BM.out) _)
      replace BA : Hid (U3.heap[w.heap.size + 2]? = some (.cells #[.int .u8 x.kind, .int .i64 x.call, .int .i64 x.a, .int .i64 x.b, .int .i64 x.c, .int .i64 x.d] 27)) := hid (by rw [hU3]; exact blk_alloc (BA.out) _)
      replace BT : Hid (U3.heap[w.heap.size + 3]? = some (.cells #[.int .i64 qc, .int .u8 qk, .int .u8 qo, .int .i64 qi, .slice qa L.length qcap, .bool qm] 30)) := hid (by rw [hU3]; exact blk_alloc (BT.out) _)
      have BB : Hid (U3.heap[v3.heap.size]? = some (.cells #[.slice a1 X.asks.length c1, .slice b1 X.tells.length d1] 25)) := hid (by rw [hU3]; exact heap_new (v3) _)
      replace N1 := hid (NetOwn.on N1.out (show On _ v3 U3 by rw [hU3]; exact ((On.refl _ _).alloc _)))
      replace Z : Hid (Below w.heap.size w U3) := hid (by rw [hU3]; exact (Z.out).alloc (by have := Z.out.size; simp; omega) _)
      rw [← hU3]
      clear hU3
      obtain ⟨bx0, bx1, bxf, bxl⟩ := blk2 BX.out
      obtain ⟨ba0, ba1, ba2, ba3, ba4, ba5, baf, bal⟩ := blk6 BA.out
      go_wp2_with fail
      clear bx0 bx1 bxf bxl
      clear ba0 ba1 ba2 ba3 ba4 ba5 baf bal
      refine (rsend_any _ _ n x _ (NI.out.below Z.out) KN.out).mono ?_
      rintro e v4 ⟨ua, ut, he, hn, hb⟩
      rw [HX.out] at he hn
      obtain ⟨a2, c2, b2, d2, rfl, rfl⟩ := hn.shape
      simp only [netv] at he
      subst he
      have hzv4 : U3.heap.size ≤ v4.heap.size := hb.size
      replace BX := hid (blk_below BX.out hb (blk_lt BX.out))
      replace BM := hid (blk_below BM.out hb (blk_lt BM.out))
      replace BA := hid (blk_below BA.out hb (blk_lt BA.out))
      replace BT := hid (blk_below BT.out hb (blk_lt BT.out))
      replace BB := hid (blk_below BB.out hb (blk_lt BB.out))
      replace N1 := hid (N1.out.below hb)
      replace Z := hid (Z.out.trans (hb.mono Z.out.size))
      have N2 := hid hn
      clear hb hn
      clear BA
      go_upto_region 5 with fail
      obtain ⟨U4, hU4⟩ : ∃ U, U = (v4.alloc (.cells #[.slice a2 X.asks.length c2, .slice b2 X.tells.length d2] 25)) := ⟨_, rfl⟩
      have hzU4 : v4.heap.size + 1 = U4.heap.size := by rw [hU4]; simp
      replace BX : Hid (U4.heap[w.heap.size]? = some (.cells #[.slice a0 n.asks.length c0, .slice b0 n.tells.length d0] 25)) := hid (by rw [hU4]; exact blk_alloc (BX.out) _)
      replace BM : Hid (U4.heap[w.heap.size + 1]? = some (.cells #[.slice a9 m.asks.length c9, .slice b9 m.tells.length d9] 25)) := hid (by rw [hU4]; exact blk_alloc (BM.out) _)
      replace BT : Hid (U4.heap[w.heap.size + 3]? = some (.cells #[.int .i64 qc, .int .u8 qk, .int .u8 qo, .int .i64 qi, .slice qa L.length qcap, .bool qm] 30)) := hid (by rw [hU4]; exact blk_alloc (BT.out) _)
      replace BB : Hid (U4.heap[v3.heap.size]? = some (.cells #[.slice a1 X.asks.length c1, .slice b1 X.tells.length d1] 25)) := hid (by rw [hU4]; exact blk_alloc (BB.out) _)
      have BC : Hid (U4.heap[v4.heap.size]? = some (.cells #[.slice a2 X.asks.length c2, .slice b2 X.tells.length d2] 25)) := hid (by rw [hU4]; exact heap_new (v4) _)
      replace N1 := hid (NetOwn.on N1.out (show On _ v4 U4 by rw [hU4]; exact ((On.refl _ _).alloc _)))
      replace N2 := hid (NetOwn.on N2.out (show On _ v4 U4 by rw [hU4]; exact ((On.refl _ _).alloc _)))
      replace Z : Hid (Below w.heap.size w U4) := hid (by rw [hU4]; exact (Z.out).alloc (by have := Z.out.size; simp; omega) _)
      rw [← hU4]
      clear hU4
      obtain ⟨bx0, bx1, bxf, bxl⟩ := blk2 BX.out
      obtain ⟨bt0, bt1, bt2, bt3, bt4, bt5, btf, btl⟩ := blk6 BT.out
      go_wp2_with fail
      clear bx0 bx1 bxf bxl
      clear bt0 bt1 bt2 bt3 bt4 bt5 btf btl
      refine (post_any _ _ n qc qk qo qi qa _ qcap qm L _ (NI.out.below Z.out) KN.out (RowOf.below QI.out Z.out) hL).mono ?_
      rintro e v5 ⟨ua, ut, he, hn, hb⟩
      rw [HY.out] at he hn
      obtain ⟨a3, c3, b3, d3, rfl, rfl⟩ := hn.shape
      simp only [netv] at he
      subst he
      have hzv5 : U4.heap.size ≤ v5.heap.size := hb.size
      replace BX := hid (blk_below BX.out hb (blk_lt BX.out))
      replace BM := hid (blk_below BM.out hb (blk_lt BM.out))
      replace BT := hid (blk_below BT.out hb (blk_lt BT.out))
      replace BB := hid (blk_below BB.out hb (blk_lt BB.out))
      replace BC := hid (blk_below BC.out hb (blk_lt BC.out))
      replace N1 := hid (N1.out.below hb)
      replace N2 := hid (N2.out.below hb)
      replace Z := hid (Z.out.trans (hb.mono Z.out.size))
      have N3 := hid hn
      clear hb hn
      go_upto_region 6 with fail
      obtain ⟨U5, hU5⟩ : ∃ U, U = (v5.alloc (.cells #[.slice a3 Y.asks.length c3, .slice b3 Y.tells.length d3] 25)) := ⟨_, rfl⟩
      have hzU5 : v5.heap.size + 1 = U5.heap.size := by rw [hU5]; simp
      replace BX : Hid (U5.heap[w.heap.size]? = some (.cells #[.slice a0 n.asks.length c0, .slice b0 n.tells.length d0] 25)) := hid (by rw [hU5]; exact blk_alloc (BX.out) _)
      replace BM : Hid (U5.heap[w.heap.size + 1]? = some (.cells #[.slice a9 m.asks.length c9, .slice b9 m.tells.length d9] 25)) := hid (by rw [hU5]; exact blk_alloc (BM.out) _)
      replace BT : Hid (U5.heap[w.heap.size + 3]? = some (.cells #[.int .i64 qc, .int .u8 qk, .int .u8 qo, .int .i64 qi, .slice qa L.length qcap, .bool qm] 30)) := hid (by rw [hU5]; exact blk_alloc (BT.out) _)
      replace BB : Hid (U5.heap[v3.heap.size]? = some (.cells #[.slice a1 X.asks.length c1, .slice b1 X.tells.length d1] 25)) := hid (by rw [hU5]; exact blk_alloc (BB.out) _)
      replace BC : Hid (U5.heap[v4.heap.size]? = some (.cells #[.slice a2 X.asks.length c2, .slice b2 X.tells.length d2] 25)) := hid (by rw [hU5]; exact blk_alloc (BC.out) _)
      have BD : Hid (U5.heap[v5.heap.size]? = some (.cells #[.slice a3 Y.asks.length c3, .slice b3 Y.tells.length d3] 25)) := hid (by rw [hU5]; exact heap_new (v5) _)
      replace N1 := hid (NetOwn.on N1.out (show On _ v5 U5 by rw [hU5]; exact ((On.refl _ _).alloc _)))
      replace N2 := hid (NetOwn.on N2.out (show On _ v5 U5 by rw [hU5]; exact ((On.refl _ _).alloc _)))
      replace N3 := hid (NetOwn.on N3.out (show On _ v5 U5 by rw [hU5]; exact ((On.refl _ _).alloc _)))
      replace Z : Hid (Below w.heap.size w U5) := hid (by rw [hU5]; exact (Z.out).alloc (by have := Z.out.size; simp; omega) _)
      rw [← hU5]
      clear hU5
      obtain ⟨bx0, bx1, bxf, bxl⟩ := blk2 BX.out
      obtain ⟨bt0, bt1, bt2, bt3, bt4, bt5, btf, btl⟩ := blk6 BT.out
      go_wp2_with fail
      clear bx0 bx1 bxf bxl
      clear bt0 bt1 bt2 bt3 bt4 bt5 btf btl
      refine (rpost_any _ _ n qc qk qo qi qa _ qcap qm L _ (NI.out.below Z.out) KN.out (RowOf.below QI.out Z.out) hL).mono ?_
      rintro e v6 ⟨ua, ut, he, hn, hb⟩
      rw [HY.out] at he hn
      obtain ⟨a4, c4, b4, d4, rfl, rfl⟩ := hn.shape
      simp only [netv] at he
      subst he
      have hzv6 : U5.heap.size ≤ v6.heap.size := hb.size
      replace BX := hid (blk_below BX.out hb (blk_lt BX.out))
      replace BM := hid (blk_below BM.out hb (blk_lt BM.out))
      replace BT := hid (blk_below BT.out hb (blk_lt BT.out))
      replace BB := hid (blk_below BB.out hb (blk_lt BB.out))
      replace BC := hid (blk_below BC.out hb (blk_lt BC.out))
      replace BD := hid (blk_below BD.out hb (blk_lt BD.out))
      replace N1 := hid (N1.out.below hb)
      replace N2 := hid (N2.out.below hb)
      replace N3 := hid (N3.out.below hb)
      replace Z := hid (Z.out.trans (hb.mono Z.out.size))
      have N4 := hid hn
      clear hb hn
      clear BT
      go_upto_region 7 with fail
      obtain ⟨U6, hU6⟩ : ∃ U, U = (v6.alloc (.cells #[.slice a4 Y.asks.length c4, .slice b4 Y.tells.length d4] 25)) := ⟨_, rfl⟩
      have hzU6 : v6.heap.size + 1 = U6.heap.size := by rw [hU6]; simp
      replace BX : Hid (U6.heap[w.heap.size]? = some (.cells #[.slice a0 n.asks.length c0, .slice b0 n.tells.length d0] 25)) := hid (by rw [hU6]; exact blk_alloc (BX.out) _)
      replace BM : Hid (U6.heap[w.heap.size + 1]? = some (.cells #[.slice a9 m.asks.length c9, .slice b9 m.tells.length d9] 25)) := hid (by rw [hU6]; exact blk_alloc (BM.out) _)
      replace BB : Hid (U6.heap[v3.heap.size]? = some (.cells #[.slice a1 X.asks.length c1, .slice b1 X.tells.length d1] 25)) := hid (by rw [hU6]; exact blk_alloc (BB.out) _)
      replace BC : Hid (U6.heap[v4.heap.size]? = some (.cells #[.slice a2 X.asks.length c2, .slice b2 X.tells.length d2] 25)) := hid (by rw [hU6]; exact blk_alloc (BC.out) _)
      replace BD : Hid (U6.heap[v5.heap.size]? = some (.cells #[.slice a3 Y.asks.length c3, .slice b3 Y.tells.length d3] 25)) := hid (by rw [hU6]; exact blk_alloc (BD.out) _)
      have BH : Hid (U6.heap[v6.heap.size]? = some (.cells #[.slice a4 Y.asks.length c4, .slice b4 Y.tells.length d4] 25)) := hid (by rw [hU6]; exact heap_new (v6) _)
      replace N1 := hid (NetOwn.on N1.out (show On _ v6 U6 by rw [hU6]; exact ((On.refl _ _).alloc _)))
      replace N2 := hid (NetOwn.on N2.out (show On _ v6 U6 by rw [hU6]; exact ((On.refl _ _).alloc _)))
      replace N3 := hid (NetOwn.on N3.out (show On _ v6 U6 by rw [hU6]; exact ((On.refl _ _).alloc _)))
      replace N4 := hid (NetOwn.on N4.out (show On _ v6 U6 by rw [hU6]; exact ((On.refl _ _).alloc _)))
      replace Z : Hid (Below w.heap.size w U6) := hid (by rw [hU6]; exact (Z.out).alloc (by have := Z.out.size; simp; omega) _)
      rw [← hU6]
      clear hU6
      have NN := hid (NI.out.below Z.out)
      have MM := hid (MI.out.below Z.out)
      replace N1 := hid N1.out.is
      replace N2 := hid N2.out.is
      replace N3 := hid N3.out.is
      replace N4 := hid N4.out.is
      obtain ⟨Ev, hEvdef⟩ : ∃ Ev : World → Prop, Ev = fun W => W.heap[w.heap.size]? = some (.cells #[.slice a0 n.asks.length c0, .slice b0 n.tells.length d0] 25) ∧ W.heap[w.heap.size + 1]? = some (.cells #[.slice a9 m.asks.length c9, .slice b9 m.tells.length d9] 25) ∧ W.heap[v3.heap.size]? = some (.cells #[.slice a1 X.asks.length c1, .slice b1 X.tells.length d1] 25) ∧ W.heap[v4.heap.size]? = some (.cells #[.slice a2 X.asks.length c2, .slice b2 X.tells.length d2] 25) ∧ W.heap[v5.heap.size]? = some (.cells #[.slice a3 Y.asks.length c3, .slice b3 Y.tells.length d3] 25) ∧ W.heap[v6.heap.size]? = some (.cells #[.slice a4 Y.asks.length c4, .slice b4 Y.tells.length d4] 25) ∧ NetIs W (.slice a1 X.asks.length c1) (.slice b1 X.tells.length d1) X ∧ NetIs W (.slice a2 X.asks.length c2) (.slice b2 X.tells.length d2) X ∧ NetIs W (.slice a3 Y.asks.length c3) (.slice b3 Y.tells.length d3) Y ∧ NetIs W (.slice a4 Y.asks.length c4) (.slice b4 Y.tells.length d4) Y ∧ NetIs W (.slice a0 n.asks.length c0) (.slice b0 n.tells.length d0) n ∧ NetIs W (.slice a9 m.asks.length c9) (.slice b9 m.tells.length d9) m ∧ Below w.heap.size w W := ⟨_, rfl⟩
      have hEv0 : Ev U6 := by rw [hEvdef]; exact ⟨BX.out, BM.out, BB.out, BC.out, BD.out, BH.out, N1.out, N2.out, N3.out, N4.out, NN.out, MM.out, Z.out⟩
      have hEvk : ∀ W W', Below W.heap.size W W' → Ev W → Ev W' := by
        rw [hEvdef]
        rintro W W' hb ⟨q0, q1, q2, q3, q4, q5, q6, q7, q8, q9, q10, q11, q12⟩
        exact ⟨blk_below q0 hb (blk_lt q0), blk_below q1 hb (blk_lt q1), blk_below q2 hb (blk_lt q2), blk_below q3 hb (blk_lt q3), blk_below q4 hb (blk_lt q4), blk_below q5 hb (blk_lt q5), NetIs.below q6 hb, NetIs.below q7 hb, NetIs.below q8 hb, NetIs.below q9 hb, NetIs.below q10 hb, NetIs.below q11 hb, q12.trans (hb.mono q12.size)⟩
      have hEv_N1 : ∀ W, Ev W → NetIs W (.slice a1 X.asks.length c1) (.slice b1 X.tells.length d1) X := by
        rw [hEvdef]
        rintro W ⟨q0, q1, q2, q3, q4, q5, q6, q7, q8, q9, q10, q11, q12⟩
        exact q6
      have hEv_N2 : ∀ W, Ev W → NetIs W (.slice a2 X.asks.length c2) (.slice b2 X.tells.length d2) X := by
        rw [hEvdef]
        rintro W ⟨q0, q1, q2, q3, q4, q5, q6, q7, q8, q9, q10, q11, q12⟩
        exact q7
      have hEv_N3 : ∀ W, Ev W → NetIs W (.slice a3 Y.asks.length c3) (.slice b3 Y.tells.length d3) Y := by
        rw [hEvdef]
        rintro W ⟨q0, q1, q2, q3, q4, q5, q6, q7, q8, q9, q10, q11, q12⟩
        exact q8
      have hEv_N4 : ∀ W, Ev W → NetIs W (.slice a4 Y.asks.length c4) (.slice b4 Y.tells.length d4) Y := by
        rw [hEvdef]
        rintro W ⟨q0, q1, q2, q3, q4, q5, q6, q7, q8, q9, q10, q11, q12⟩
        exact q9
      have hEv_NN : ∀ W, Ev W → NetIs W (.slice a0 n.asks.length c0) (.slice b0 n.tells.length d0) n := by
        rw [hEvdef]
        rintro W ⟨q0, q1, q2, q3, q4, q5, q6, q7, q8, q9, q10, q11, q12⟩
        exact q10
      have hEv_MM : ∀ W, Ev W → NetIs W (.slice a9 m.asks.length c9) (.slice b9 m.tells.length d9) m := by
        rw [hEvdef]
        rintro W ⟨q0, q1, q2, q3, q4, q5, q6, q7, q8, q9, q10, q11, q12⟩
        exact q11
      have hEv_Z : ∀ W, Ev W → Below w.heap.size w W := by
        rw [hEvdef]
        rintro W ⟨q0, q1, q2, q3, q4, q5, q6, q7, q8, q9, q10, q11, q12⟩
        exact q12
      have hEv_BX : ∀ W, Ev W → W.heap[w.heap.size]? = some (.cells #[.slice a0 n.asks.length c0, .slice b0 n.tells.length d0] 25) := by
        rw [hEvdef]
        rintro W ⟨q0, q1, q2, q3, q4, q5, q6, q7, q8, q9, q10, q11, q12⟩
        exact q0
      have hEv_BM : ∀ W, Ev W → W.heap[w.heap.size + 1]? = some (.cells #[.slice a9 m.asks.length c9, .slice b9 m.tells.length d9] 25) := by
        rw [hEvdef]
        rintro W ⟨q0, q1, q2, q3, q4, q5, q6, q7, q8, q9, q10, q11, q12⟩
        exact q1
      have hEv_BB : ∀ W, Ev W → W.heap[v3.heap.size]? = some (.cells #[.slice a1 X.asks.length c1, .slice b1 X.tells.length d1] 25) := by
        rw [hEvdef]
        rintro W ⟨q0, q1, q2, q3, q4, q5, q6, q7, q8, q9, q10, q11, q12⟩
        exact q2
      have hEv_BC : ∀ W, Ev W → W.heap[v4.heap.size]? = some (.cells #[.slice a2 X.asks.length c2, .slice b2 X.tells.length d2] 25) := by
        rw [hEvdef]
        rintro W ⟨q0, q1, q2, q3, q4, q5, q6, q7, q8, q9, q10, q11, q12⟩
        exact q3
      have hEv_BD : ∀ W, Ev W → W.heap[v5.heap.size]? = some (.cells #[.slice a3 Y.asks.length c3, .slice b3 Y.tells.length d3] 25) := by
        rw [hEvdef]
        rintro W ⟨q0, q1, q2, q3, q4, q5, q6, q7, q8, q9, q10, q11, q12⟩
        exact q4
      have hEv_BH : ∀ W, Ev W → W.heap[v6.heap.size]? = some (.cells #[.slice a4 Y.asks.length c4, .slice b4 Y.tells.length d4] 25) := by
        rw [hEvdef]
        rintro W ⟨q0, q1, q2, q3, q4, q5, q6, q7, q8, q9, q10, q11, q12⟩
        exact q5
      have hEvc : ∀ W, Ev W → W.cell? ⟨w.heap.size, 0, none⟩ = some (.slice a0 n.asks.length c0) ∧ W.cell? ⟨w.heap.size, 1, none⟩ = some (.slice b0 n.tells.length d0) ∧ W.cell? ⟨w.heap.size + 1, 0, none⟩ = some (.slice a9 m.asks.length c9) ∧ W.cell? ⟨w.heap.size + 1, 1, none⟩ = some (.slice b9 m.tells.length d9) ∧ W.cell? ⟨v3.heap.size, 0, none⟩ = some (.slice a1 X.asks.length c1) ∧ W.cell? ⟨v3.heap.size, 1, none⟩ = some (.slice b1 X.tells.length d1) ∧ W.cell? ⟨v4.heap.size, 0, none⟩ = some (.slice a2 X.asks.length c2) ∧ W.cell? ⟨v4.heap.size, 1, none⟩ = some (.slice b2 X.tells.length d2) ∧ W.cell? ⟨v5.heap.size, 0, none⟩ = some (.slice a3 Y.asks.length c3) ∧ W.cell? ⟨v5.heap.size, 1, none⟩ = some (.slice b3 Y.tells.length d3) ∧ W.cell? ⟨v6.heap.size, 0, none⟩ = some (.slice a4 Y.asks.length c4) ∧ W.cell? ⟨v6.heap.size, 1, none⟩ = some (.slice b4 Y.tells.length d4) := by
        rw [hEvdef]
        rintro W ⟨q0, q1, q2, q3, q4, q5, q6, q7, q8, q9, q10, q11, q12⟩
        exact ⟨blk_cell q0 0, blk_cell q0 1, blk_cell q1 0, blk_cell q1 1, blk_cell q2 0, blk_cell q2 1, blk_cell q3 0, blk_cell q3 1, blk_cell q4 0, blk_cell q4 1, blk_cell q5 0, blk_cell q5 1⟩
      have hEvs : ∀ W W', Below W.heap.size W W' → Ev W → Ev W' ∧ W'.cell? ⟨w.heap.size, 0, none⟩ = some (.slice a0 n.asks.length c0) ∧ W'.cell? ⟨w.heap.size, 1, none⟩ = some (.slice b0 n.tells.length d0) ∧ W'.cell? ⟨w.heap.size + 1, 0, none⟩ = some (.slice a9 m.asks.length c9) ∧ W'.cell? ⟨w.heap.size + 1, 1, none⟩ = some (.slice b9 m.tells.length d9) ∧ W'.cell? ⟨v3.heap.size, 0, none⟩ = some (.slice a1 X.asks.length c1) ∧ W'.cell? ⟨v3.heap.size, 1, none⟩ = some (.slice b1 X.tells.length d1) ∧ W'.cell? ⟨v4.heap.size, 0, none⟩ = some (.slice a2 X.asks.length c2) ∧ W'.cell? ⟨v4.heap.size, 1, none⟩ = some (.slice b2 X.tells.length d2) ∧ W'.cell? ⟨v5.heap.size, 0, none⟩ = some (.slice a3 Y.asks.length c3) ∧ W'.cell? ⟨v5.heap.size, 1, none⟩ = some (.slice b3 Y.tells.length d3) ∧ W'.cell? ⟨v6.heap.size, 0, none⟩ = some (.slice a4 Y.asks.length c4) ∧ W'.cell? ⟨v6.heap.size, 1, none⟩ = some (.slice b4 Y.tells.length d4) := fun W W' hb h => ⟨hEvk W W' hb h, hEvc W' (hEvk W W' hb h)⟩
      have Ev_0 := hid hEv0
      have Ev_S := hid hEvs
      have Ev_K := hid hEvk
      have Ev_C := hid hEvc
      have Ev_N1 := hid hEv_N1
      have Ev_N2 := hid hEv_N2
      have Ev_N3 := hid hEv_N3
      have Ev_N4 := hid hEv_N4
      have Ev_NN := hid hEv_NN
      have Ev_MM := hid hEv_MM
      have Ev_Z := hid hEv_Z
      have Ev_BX := hid hEv_BX
      have Ev_BM := hid hEv_BM
      have Ev_BB := hid hEv_BB
      have Ev_BC := hid hEv_BC
      have Ev_BD := hid hEv_BD
      have Ev_BH := hid hEv_BH
      have Ev_D := hid hEvdef
      clear BX BM BB BC BD BH N1 N2 N3 N4 NN MM Z hEv0 hEvk hEvs hEvdef hEv_N1 hEv_N2 hEv_N3 hEv_N4 hEv_NN hEv_MM hEv_Z hEv_BX hEv_BM hEv_BB hEv_BC hEv_BD hEv_BH hEvc
      go_region_held3 (fun W => Ev W ∧ W.cell? ⟨w.heap.size, 0, none⟩ = some (.slice a0 n.asks.length c0) ∧ W.cell? ⟨w.heap.size, 1, none⟩ = some (.slice b0 n.tells.length d0) ∧ W.cell? ⟨w.heap.size + 1, 0, none⟩ = some (.slice a9 m.asks.length c9) ∧ W.cell? ⟨w.heap.size + 1, 1, none⟩ = some (.slice b9 m.tells.length d9) ∧ W.cell? ⟨v3.heap.size, 0, none⟩ = some (.slice a1 X.asks.length c1) ∧ W.cell? ⟨v3.heap.size, 1, none⟩ = some (.slice b1 X.tells.length d1) ∧ W.cell? ⟨v4.heap.size, 0, none⟩ = some (.slice a2 X.asks.length c2) ∧ W.cell? ⟨v4.heap.size, 1, none⟩ = some (.slice b2 X.tells.length d2) ∧ W.cell? ⟨v5.heap.size, 0, none⟩ = some (.slice a3 Y.asks.length c3) ∧ W.cell? ⟨v5.heap.size, 1, none⟩ = some (.slice b3 Y.tells.length d3) ∧ W.cell? ⟨v6.heap.size, 0, none⟩ = some (.slice a4 Y.asks.length c4) ∧ W.cell? ⟨v6.heap.size, 1, none⟩ = some (.slice b4 Y.tells.length d4)) (first | exact Ev_S.out _ _ (below_drewN (Below.refl _ _) 1) Ev_0.out | (go_split_ands; exact Ev_S.out _ _ (below_drewN (Below.refl _ _) 1) (by assumption)) | (go_split_ands; exact Ev_S.out _ _ hb1 (by assumption)) | (go_split_ands; exact Ev_S.out _ _ hb2 (by assumption)) | (go_split_ands; exact Ev_S.out _ _ hb3 (by assumption)) | (go_split_ands; exact Ev_S.out _ _ hb4 (by assumption)) | (go_split_ands; exact Ev_S.out _ _ hb5 (by assumption)) | (go_split_ands; exact Ev_S.out _ _ hb6 (by assumption))) (first | (go_at_call_of 14 (Value.agg #[.slice a1 X.asks.length c1, .slice b1 X.tells.length d1]); go_split_ands; refine (tn_self _ _ _ _ X _ (Ev_N1.out _ (by assumption)) (Ev_N2.out _ (by assumption)) KX.out).mono ?_; rintro e w1 ⟨rfl, hb1⟩) | (go_at_call_of 14 (Value.agg #[.slice a3 Y.asks.length c3, .slice b3 Y.tells.length d3]); go_split_ands; refine (tn_self _ _ _ _ Y _ (Ev_N3.out _ (by assumption)) (Ev_N4.out _ (by assumption)) KY.out).mono ?_; rintro e w2 ⟨rfl, hb2⟩) | (go_at_call 15; go_split_ands; refine (tn_own _ _ n _ (Ev_NN.out _ (by assumption)) KN.out).mono ?_; rintro e w3 ⟨oa, oc, ob, od, rfl, ho, hb3⟩; have HO := hid ho; clear ho) | (go_at_call 16; go_split_ands; refine (tn_same _ _ _ _ n m sb _ HSB.out (Ev_NN.out _ (by assumption)) (Ev_MM.out _ (by assumption)) KN.out KM.out).mono ?_; rintro e w5 ⟨rfl, hb5⟩) | (go_at_call_of 14 (Value.agg #[.slice a9 m.asks.length c9, .slice b9 m.tells.length d9]); go_split_ands; refine (tn_rsame _ _ _ _ n m sb _ HSB.out (Ev_NN.out _ (by assumption)) (Ev_MM.out _ (by assumption)) KN.out KM.out).mono ?_; rintro e w6 ⟨rfl, hb6⟩) | (go_at_call 14; go_split_ands; refine (tn_self _ _ _ _ n _ HO.out (Ev_NN.out _ (by assumption)) KN.out).mono ?_; rintro e w4 ⟨rfl, hb4⟩))
      go_upto_region 9 with fail
      go_split_ands
      refine wp_at (Q := Ev) (by assumption) ?_
      intro V hV
      have BX := hid (Ev_BX.out _ hV)
      have BM := hid (Ev_BM.out _ hV)
      have BB := hid (Ev_BB.out _ hV)
      have BC := hid (Ev_BC.out _ hV)
      have BD := hid (Ev_BD.out _ hV)
      have BH := hid (Ev_BH.out _ hV)
      have Z := hid (Ev_Z.out _ hV)
      have hzBB := blk_lt BB.out
      have hzBC := blk_lt BC.out
      have hzBD := blk_lt BD.out
      have hzBH := blk_lt BH.out
      obtain ⟨bx0, bx1, bxf, bxl⟩ := blk2 BX.out
      go_wp2_with fail
      clear bx0 bx1 bxf bxl
      refine (ask_any _ _ n at' _ (NI.out.below Z.out) KN.out).mono ?_
      rintro e v7 ⟨ua, ut, he, hn, hb⟩
      rw [HA.out] at he hn
      obtain ⟨a5, c5, b5, d5, rfl, rfl⟩ := hn.shape
      simp only [netv, aggA] at he
      subst he
      have hzv7 : V.heap.size ≤ v7.heap.size := hb.size
      replace BX := hid (blk_below BX.out hb (blk_lt BX.out))
      replace BM := hid (blk_below BM.out hb (blk_lt BM.out))
      replace BB := hid (blk_below BB.out hb (blk_lt BB.out))
      replace BC := hid (blk_below BC.out hb (blk_lt BC.out))
      replace BD := hid (blk_below BD.out hb (blk_lt BD.out))
      replace BH := hid (blk_below BH.out hb (blk_lt BH.out))
      replace Z := hid (Z.out.trans (hb.mono Z.out.size))
      have N5 := hid hn
      clear hb hn
      obtain ⟨bb0, bb1, bbf, bbl⟩ := blk2 BB.out
      go_upto_region 10 with fail
      clear bb0 bb1 bbf bbl
      obtain ⟨U7, hU7⟩ : ∃ U, U = (((v7.setCell ⟨v3.heap.size, 0, none⟩ (.slice a5 A.asks.length c5)).setCell ⟨v3.heap.size, 1, none⟩ (.slice b5 A.tells.length d5)).alloc (.cells #[.int .u8 y.kind, .int .i64 y.call, .int .i64 y.a, .int .i64 y.b, .int .i64 y.c, .int .i64 y.d] 27)) := ⟨_, rfl⟩
      have hzU7 : v7.heap.size + 1 = U7.heap.size := by rw [hU7]; simp [World.setCell]
      replace BX : Hid (U7.heap[w.heap.size]? = some (.cells #[.slice a0 n.asks.length c0, .slice b0 n.tells.length d0] 25)) := hid (by rw [hU7]; exact blk_alloc (blk_far (blk_far (BX.out) (by omega) _) (by omega) _) _)
      replace BM : Hid (U7.heap[w.heap.size + 1]? = some (.cells #[.slice a9 m.asks.length c9, .slice b9 m.tells.length d9] 25)) := hid (by rw [hU7]; exact blk_alloc (blk_far (blk_far (BM.out) (by omega) _) (by omega) _) _)
      replace BB : Hid (U7.heap[v3.heap.size]? = some (.cells #[.slice a5 A.asks.length c5, .slice b5 A.tells.length d5] 25)) := hid (by rw [hU7]; exact blk_alloc (blk_set (blk_set (BB.out) 0 _) 1 _) _)
      replace BC : Hid (U7.heap[v4.heap.size]? = some (.cells #[.slice a2 X.asks.length c2, .slice b2 X.tells.length d2] 25)) := hid (by rw [hU7]; exact blk_alloc (blk_far (blk_far (BC.out) (by omega) _) (by omega) _) _)
      replace BD : Hid (U7.heap[v5.heap.size]? = some (.cells #[.slice a3 Y.asks.length c3, .slice b3 Y.tells.length d3] 25)) := hid (by rw [hU7]; exact blk_alloc (blk_far (blk_far (BD.out) (by omega) _) (by omega) _) _)
      replace BH : Hid (U7.heap[v6.heap.size]? = some (.cells #[.slice a4 Y.asks.length c4, .slice b4 Y.tells.length d4] 25)) := hid (by rw [hU7]; exact blk_alloc (blk_far (blk_far (BH.out) (by omega) _) (by omega) _) _)
      have BY : Hid (U7.heap[v7.heap.size]? = some (.cells #[.int .u8 y.kind, .int .i64 y.call, .int .i64 y.a, .int .i64 y.b, .int .i64 y.c, .int .i64 y.d] 27)) := hid (by rw [hU7]; exact by have hq : ((v7.setCell ⟨v3.heap.size, 0, none⟩ (.slice a5 A.asks.length c5)).setCell ⟨v3.heap.size, 1, none⟩ (.slice b5 A.tells.length d5)).heap.size = v7.heap.size := (by simp [World.setCell]); have hp := heap_new (((v7.setCell ⟨v3.heap.size, 0, none⟩ (.slice a5 A.asks.length c5)).setCell ⟨v3.heap.size, 1, none⟩ (.slice b5 A.tells.length d5))) (.cells #[.int .u8 y.kind, .int .i64 y.call, .int .i64 y.a, .int .i64 y.b, .int .i64 y.c, .int .i64 y.d] 27); rw [hq] at hp; exact hp)
      replace N5 := hid (NetOwn.on N5.out (show On _ v7 U7 by rw [hU7]; exact ((((On.refl _ _).setCell (p := ⟨v3.heap.size, 0, none⟩) (by dsimp only; omega) _).setCell (p := ⟨v3.heap.size, 1, none⟩) (by dsimp only; omega) _).alloc _)))
      replace Z : Hid (Below w.heap.size w U7) := hid (by rw [hU7]; exact (((Z.out).setCell (p := ⟨v3.heap.size, 0, none⟩) (by dsimp only; omega) _).setCell (p := ⟨v3.heap.size, 1, none⟩) (by dsimp only; omega) _).alloc (by have := Z.out.size; simp; omega) _)
      rw [← hU7]
      clear hU7
      obtain ⟨bx0, bx1, bxf, bxl⟩ := blk2 BX.out
      go_wp2_with fail
      clear bx0 bx1 bxf bxl
      refine (rask_any _ _ n at' _ (NI.out.below Z.out) KN.out).mono ?_
      rintro e v8 ⟨ua, ut, he, hn, hb⟩
      rw [HA.out] at he hn
      obtain ⟨a6, c6, b6, d6, rfl, rfl⟩ := hn.shape
      simp only [netv, aggA] at he
      subst he
      have hzv8 : U7.heap.size ≤ v8.heap.size := hb.size
      replace BX := hid (blk_below BX.out hb (blk_lt BX.out))
      replace BM := hid (blk_below BM.out hb (blk_lt BM.out))
      replace BB := hid (blk_below BB.out hb (blk_lt BB.out))
      replace BC := hid (blk_below BC.out hb (blk_lt BC.out))
      replace BD := hid (blk_below BD.out hb (blk_lt BD.out))
      replace BH := hid (blk_below BH.out hb (blk_lt BH.out))
      replace BY := hid (blk_below BY.out hb (blk_lt BY.out))
      replace N5 := hid (N5.out.below hb)
      replace Z := hid (Z.out.trans (hb.mono Z.out.size))
      have N6 := hid hn
      clear hb hn
      obtain ⟨bc0, bc1, bcf, bcl⟩ := blk2 BC.out
      go_upto_region 11 with fail
      clear bc0 bc1 bcf bcl
      obtain ⟨U8, hU8⟩ : ∃ U, U = (((v8.setCell ⟨v4.heap.size, 0, none⟩ (.slice a6 A.asks.length c6)).setCell ⟨v4.heap.size, 1, none⟩ (.slice b6 A.tells.length d6)).alloc (.cells #[.int .u8 y.kind, .int .i64 y.call, .int .i64 y.a, .int .i64 y.b, .int .i64 y.c, .int .i64 y.d] 27)) := ⟨_, rfl⟩
      have hzU8 : v8.heap.size + 1 = U8.heap.size := by rw [hU8]; simp [World.setCell]
      replace BX : Hid (U8.heap[w.heap.size]? = some (.cells #[.slice a0 n.asks.length c0, .slice b0 n.tells.length d0] 25)) := hid (by rw [hU8]; exact blk_alloc (blk_far (blk_far (BX.out) (by omega) _) (by omega) _) _)
      replace BM : Hid (U8.heap[w.heap.size + 1]? = some (.cells #[.slice a9 m.asks.length c9, .slice b9 m.tells.length d9] 25)) := hid (by rw [hU8]; exact blk_alloc (blk_far (blk_far (BM.out) (by omega) _) (by omega) _) _)
      replace BB : Hid (U8.heap[v3.heap.size]? = some (.cells #[.slice a5 A.asks.length c5, .slice b5 A.tells.length d5] 25)) := hid (by rw [hU8]; exact blk_alloc (blk_far (blk_far (BB.out) (by omega) _) (by omega) _) _)
      replace BC : Hid (U8.heap[v4.heap.size]? = some (.cells #[.slice a6 A.asks.length c6, .slice b6 A.tells.length d6] 25)) := hid (by rw [hU8]; exact blk_alloc (blk_set (blk_set (BC.out) 0 _) 1 _) _)
      replace BD : Hid (U8.heap[v5.heap.size]? = some (.cells #[.slice a3 Y.asks.length c3, .slice b3 Y.tells.length d3] 25)) := hid (by rw [hU8]; exact blk_alloc (blk_far (blk_far (BD.out) (by omega) _) (by omega) _) _)
      replace BH : Hid (U8.heap[v6.heap.size]? = some (.cells #[.slice a4 Y.asks.length c4, .slice b4 Y.tells.length d4] 25)) := hid (by rw [hU8]; exact blk_alloc (blk_far (blk_far (BH.out) (by omega) _) (by omega) _) _)
      replace BY : Hid (U8.heap[v7.heap.size]? = some (.cells #[.int .u8 y.kind, .int .i64 y.call, .int .i64 y.a, .int .i64 y.b, .int .i64 y.c, .int .i64 y.d] 27)) := hid (by rw [hU8]; exact blk_alloc (blk_far (blk_far (BY.out) (by omega) _) (by omega) _) _)
      have BZ : Hid (U8.heap[v8.heap.size]? = some (.cells #[.int .u8 y.kind, .int .i64 y.call, .int .i64 y.a, .int .i64 y.b, .int .i64 y.c, .int .i64 y.d] 27)) := hid (by rw [hU8]; exact by have hq : ((v8.setCell ⟨v4.heap.size, 0, none⟩ (.slice a6 A.asks.length c6)).setCell ⟨v4.heap.size, 1, none⟩ (.slice b6 A.tells.length d6)).heap.size = v8.heap.size := (by simp [World.setCell]); have hp := heap_new (((v8.setCell ⟨v4.heap.size, 0, none⟩ (.slice a6 A.asks.length c6)).setCell ⟨v4.heap.size, 1, none⟩ (.slice b6 A.tells.length d6))) (.cells #[.int .u8 y.kind, .int .i64 y.call, .int .i64 y.a, .int .i64 y.b, .int .i64 y.c, .int .i64 y.d] 27); rw [hq] at hp; exact hp)
      replace N5 := hid (NetOwn.on N5.out (show On _ v8 U8 by rw [hU8]; exact ((((On.refl _ _).setCell (p := ⟨v4.heap.size, 0, none⟩) (by dsimp only; omega) _).setCell (p := ⟨v4.heap.size, 1, none⟩) (by dsimp only; omega) _).alloc _)))
      replace N6 := hid (NetOwn.on N6.out (show On _ v8 U8 by rw [hU8]; exact ((((On.refl _ _).setCell (p := ⟨v4.heap.size, 0, none⟩) (by dsimp only; omega) _).setCell (p := ⟨v4.heap.size, 1, none⟩) (by dsimp only; omega) _).alloc _)))
      replace Z : Hid (Below w.heap.size w U8) := hid (by rw [hU8]; exact (((Z.out).setCell (p := ⟨v4.heap.size, 0, none⟩) (by dsimp only; omega) _).setCell (p := ⟨v4.heap.size, 1, none⟩) (by dsimp only; omega) _).alloc (by have := Z.out.size; simp; omega) _)
      rw [← hU8]
      clear hU8
      obtain ⟨bx0, bx1, bxf, bxl⟩ := blk2 BX.out
      go_wp2_with fail
      clear bx0 bx1 bxf bxl
      refine (tell_any _ _ n at' _ (NI.out.below Z.out) KN.out).mono ?_
      rintro e v9 ⟨ua, ut, s, he, hn, hs, hb⟩
      rw [HB.out] at he hn
      obtain ⟨a7, c7, b7, d7, rfl, rfl⟩ := hn.shape
      simp only [netv, tellS] at he
      subst he
      obtain ⟨sa7, sc7, hss⟩ := shape_row hs
      rw [HB.out] at hss hs
      subst hss
      have hzv9 : U8.heap.size ≤ v9.heap.size := hb.size
      replace BX := hid (blk_below BX.out hb (blk_lt BX.out))
      replace BM := hid (blk_below BM.out hb (blk_lt BM.out))
      replace BB := hid (blk_below BB.out hb (blk_lt BB.out))
      replace BC := hid (blk_below BC.out hb (blk_lt BC.out))
      replace BD := hid (blk_below BD.out hb (blk_lt BD.out))
      replace BH := hid (blk_below BH.out hb (blk_lt BH.out))
      replace BY := hid (blk_below BY.out hb (blk_lt BY.out))
      replace BZ := hid (blk_below BZ.out hb (blk_lt BZ.out))
      replace N5 := hid (N5.out.below hb)
      replace N6 := hid (N6.out.below hb)
      replace Z := hid (Z.out.trans (hb.mono Z.out.size))
      have N7 := hid hn
      have R7 := hid hs
      clear hb hn hs
      obtain ⟨bd0, bd1, bdf, bdl⟩ := blk2 BD.out
      go_upto_region 12 with fail
      clear bd0 bd1 bdf bdl
      obtain ⟨U9, hU9⟩ : ∃ U, U = (((v9.setCell ⟨v5.heap.size, 0, none⟩ (.slice a7 B.asks.length c7)).setCell ⟨v5.heap.size, 1, none⟩ (.slice b7 B.tells.length d7)).alloc (.cells #[.int .i64 t.call, .int .u8 t.kind, .int .u8 t.code, .int .i64 t.id, .slice sa7 t.seen.length sc7, .bool t.more] 30)) := ⟨_, rfl⟩
      have hzU9 : v9.heap.size + 1 = U9.heap.size := by rw [hU9]; simp [World.setCell]
      replace R7 := hid (show RowN U9 _ _ by rw [hU9]; exact RowOf.below (RowN.box (RowN.box (R7.out) (BD.out) (by simp) (by simp) 0 _) (blk_set (BD.out) 0 _) (by simp) (by simp) 1 _) ((Below.refl _ _).alloc (Nat.le_refl _) _))
      replace BX : Hid (U9.heap[w.heap.size]? = some (.cells #[.slice a0 n.asks.length c0, .slice b0 n.tells.length d0] 25)) := hid (by rw [hU9]; exact blk_alloc (blk_far (blk_far (BX.out) (by omega) _) (by omega) _) _)
      replace BM : Hid (U9.heap[w.heap.size + 1]? = some (.cells #[.slice a9 m.asks.length c9, .slice b9 m.tells.length d9] 25)) := hid (by rw [hU9]; exact blk_alloc (blk_far (blk_far (BM.out) (by omega) _) (by omega) _) _)
      replace BB : Hid (U9.heap[v3.heap.size]? = some (.cells #[.slice a5 A.asks.length c5, .slice b5 A.tells.length d5] 25)) := hid (by rw [hU9]; exact blk_alloc (blk_far (blk_far (BB.out) (by omega) _) (by omega) _) _)
      replace BC : Hid (U9.heap[v4.heap.size]? = some (.cells #[.slice a6 A.asks.length c6, .slice b6 A.tells.length d6] 25)) := hid (by rw [hU9]; exact blk_alloc (blk_far (blk_far (BC.out) (by omega) _) (by omega) _) _)
      replace BD : Hid (U9.heap[v5.heap.size]? = some (.cells #[.slice a7 B.asks.length c7, .slice b7 B.tells.length d7] 25)) := hid (by rw [hU9]; exact blk_alloc (blk_set (blk_set (BD.out) 0 _) 1 _) _)
      replace BH : Hid (U9.heap[v6.heap.size]? = some (.cells #[.slice a4 Y.asks.length c4, .slice b4 Y.tells.length d4] 25)) := hid (by rw [hU9]; exact blk_alloc (blk_far (blk_far (BH.out) (by omega) _) (by omega) _) _)
      replace BY : Hid (U9.heap[v7.heap.size]? = some (.cells #[.int .u8 y.kind, .int .i64 y.call, .int .i64 y.a, .int .i64 y.b, .int .i64 y.c, .int .i64 y.d] 27)) := hid (by rw [hU9]; exact blk_alloc (blk_far (blk_far (BY.out) (by omega) _) (by omega) _) _)
      replace BZ : Hid (U9.heap[v8.heap.size]? = some (.cells #[.int .u8 y.kind, .int .i64 y.call, .int .i64 y.a, .int .i64 y.b, .int .i64 y.c, .int .i64 y.d] 27)) := hid (by rw [hU9]; exact blk_alloc (blk_far (blk_far (BZ.out) (by omega) _) (by omega) _) _)
      have BU : Hid (U9.heap[v9.heap.size]? = some (.cells #[.int .i64 t.call, .int .u8 t.kind, .int .u8 t.code, .int .i64 t.id, .slice sa7 t.seen.length sc7, .bool t.more] 30)) := hid (by rw [hU9]; exact by have hq : ((v9.setCell ⟨v5.heap.size, 0, none⟩ (.slice a7 B.asks.length c7)).setCell ⟨v5.heap.size, 1, none⟩ (.slice b7 B.tells.length d7)).heap.size = v9.heap.size := (by simp [World.setCell]); have hp := heap_new (((v9.setCell ⟨v5.heap.size, 0, none⟩ (.slice a7 B.asks.length c7)).setCell ⟨v5.heap.size, 1, none⟩ (.slice b7 B.tells.length d7))) (.cells #[.int .i64 t.call, .int .u8 t.kind, .int .u8 t.code, .int .i64 t.id, .slice sa7 t.seen.length sc7, .bool t.more] 30); rw [hq] at hp; exact hp)
      replace N5 := hid (NetOwn.on N5.out (show On _ v9 U9 by rw [hU9]; exact ((((On.refl _ _).setCell (p := ⟨v5.heap.size, 0, none⟩) (by dsimp only; omega) _).setCell (p := ⟨v5.heap.size, 1, none⟩) (by dsimp only; omega) _).alloc _)))
      replace N6 := hid (NetOwn.on N6.out (show On _ v9 U9 by rw [hU9]; exact ((((On.refl _ _).setCell (p := ⟨v5.heap.size, 0, none⟩) (by dsimp only; omega) _).setCell (p := ⟨v5.heap.size, 1, none⟩) (by dsimp only; omega) _).alloc _)))
      replace N7 := hid (NetOwn.on N7.out (show On _ v9 U9 by rw [hU9]; exact ((((On.refl _ _).setCell (p := ⟨v5.heap.size, 0, none⟩) (by dsimp only; omega) _).setCell (p := ⟨v5.heap.size, 1, none⟩) (by dsimp only; omega) _).alloc _)))
      replace Z : Hid (Below w.heap.size w U9) := hid (by rw [hU9]; exact (((Z.out).setCell (p := ⟨v5.heap.size, 0, none⟩) (by dsimp only; omega) _).setCell (p := ⟨v5.heap.size, 1, none⟩) (by dsimp only; omega) _).alloc (by have := Z.out.size; simp; omega) _)
      rw [← hU9]
      clear hU9
      obtain ⟨bx0, bx1, bxf, bxl⟩ := blk2 BX.out
      go_wp2_with fail
      clear bx0 bx1 bxf bxl
      refine (rtellm_any _ _ n at' _ (NI.out.below Z.out) KN.out).mono ?_
      rintro e v10 ⟨ua, ut, s, he, hn, hs, hb⟩
      rw [HB.out] at he hn
      obtain ⟨a8, c8, b8, d8, rfl, rfl⟩ := hn.shape
      simp only [netv, tellS] at he
      subst he
      obtain ⟨sa8, sc8, hss⟩ := shape_row hs
      rw [HB.out] at hss hs
      subst hss
      have hzv10 : U9.heap.size ≤ v10.heap.size := hb.size
      replace BX := hid (blk_below BX.out hb (blk_lt BX.out))
      replace BM := hid (blk_below BM.out hb (blk_lt BM.out))
      replace BB := hid (blk_below BB.out hb (blk_lt BB.out))
      replace BC := hid (blk_below BC.out hb (blk_lt BC.out))
      replace BD := hid (blk_below BD.out hb (blk_lt BD.out))
      replace BH := hid (blk_below BH.out hb (blk_lt BH.out))
      replace BY := hid (blk_below BY.out hb (blk_lt BY.out))
      replace BZ := hid (blk_below BZ.out hb (blk_lt BZ.out))
      replace BU := hid (blk_below BU.out hb (blk_lt BU.out))
      replace N5 := hid (N5.out.below hb)
      replace N6 := hid (N6.out.below hb)
      replace N7 := hid (N7.out.below hb)
      replace R7 := hid (RowOf.below R7.out hb)
      replace Z := hid (Z.out.trans (hb.mono Z.out.size))
      have N8 := hid hn
      have R8 := hid hs
      clear hb hn hs
      obtain ⟨bh0, bh1, bhf, bhl⟩ := blk2 BH.out
      go_upto_region 13 with fail
      clear bh0 bh1 bhf bhl
      obtain ⟨U10, hU10⟩ : ∃ U, U = (((v10.setCell ⟨v6.heap.size, 0, none⟩ (.slice a8 B.asks.length c8)).setCell ⟨v6.heap.size, 1, none⟩ (.slice b8 B.tells.length d8)).alloc (.cells #[.int .i64 t.call, .int .u8 t.kind, .int .u8 t.code, .int .i64 t.id, .slice sa8 t.seen.length sc8, .bool t.more] 30)) := ⟨_, rfl⟩
      have hzU10 : v10.heap.size + 1 = U10.heap.size := by rw [hU10]; simp [World.setCell]
      replace R7 := hid (show RowN U10 _ _ by rw [hU10]; exact RowOf.below (RowN.box (RowN.box (R7.out) (BH.out) (by simp) (by simp) 0 _) (blk_set (BH.out) 0 _) (by simp) (by simp) 1 _) ((Below.refl _ _).alloc (Nat.le_refl _) _))
      replace R8 := hid (show RowN U10 _ _ by rw [hU10]; exact RowOf.below (RowN.box (RowN.box (R8.out) (BH.out) (by simp) (by simp) 0 _) (blk_set (BH.out) 0 _) (by simp) (by simp) 1 _) ((Below.refl _ _).alloc (Nat.le_refl _) _))
      replace BX : Hid (U10.heap[w.heap.size]? = some (.cells #[.slice a0 n.asks.length c0, .slice b0 n.tells.length d0] 25)) := hid (by rw [hU10]; exact blk_alloc (blk_far (blk_far (BX.out) (by omega) _) (by omega) _) _)
      replace BM : Hid (U10.heap[w.heap.size + 1]? = some (.cells #[.slice a9 m.asks.length c9, .slice b9 m.tells.length d9] 25)) := hid (by rw [hU10]; exact blk_alloc (blk_far (blk_far (BM.out) (by omega) _) (by omega) _) _)
      replace BB : Hid (U10.heap[v3.heap.size]? = some (.cells #[.slice a5 A.asks.length c5, .slice b5 A.tells.length d5] 25)) := hid (by rw [hU10]; exact blk_alloc (blk_far (blk_far (BB.out) (by omega) _) (by omega) _) _)
      replace BC : Hid (U10.heap[v4.heap.size]? = some (.cells #[.slice a6 A.asks.length c6, .slice b6 A.tells.length d6] 25)) := hid (by rw [hU10]; exact blk_alloc (blk_far (blk_far (BC.out) (by omega) _) (by omega) _) _)
      replace BD : Hid (U10.heap[v5.heap.size]? = some (.cells #[.slice a7 B.asks.length c7, .slice b7 B.tells.length d7] 25)) := hid (by rw [hU10]; exact blk_alloc (blk_far (blk_far (BD.out) (by omega) _) (by omega) _) _)
      replace BH : Hid (U10.heap[v6.heap.size]? = some (.cells #[.slice a8 B.asks.length c8, .slice b8 B.tells.length d8] 25)) := hid (by rw [hU10]; exact blk_alloc (blk_set (blk_set (BH.out) 0 _) 1 _) _)
      replace BY : Hid (U10.heap[v7.heap.size]? = some (.cells #[.int .u8 y.kind, .int .i64 y.call, .int .i64 y.a, .int .i64 y.b, .int .i64 y.c, .int .i64 y.d] 27)) := hid (by rw [hU10]; exact blk_alloc (blk_far (blk_far (BY.out) (by omega) _) (by omega) _) _)
      replace BZ : Hid (U10.heap[v8.heap.size]? = some (.cells #[.int .u8 y.kind, .int .i64 y.call, .int .i64 y.a, .int .i64 y.b, .int .i64 y.c, .int .i64 y.d] 27)) := hid (by rw [hU10]; exact blk_alloc (blk_far (blk_far (BZ.out) (by omega) _) (by omega) _) _)
      replace BU : Hid (U10.heap[v9.heap.size]? = some (.cells #[.int .i64 t.call, .int .u8 t.kind, .int .u8 t.code, .int .i64 t.id, .slice sa7 t.seen.length sc7, .bool t.more] 30)) := hid (by rw [hU10]; exact blk_alloc (blk_far (blk_far (BU.out) (by omega) _) (by omega) _) _)
      have BV : Hid (U10.heap[v10.heap.size]? = some (.cells #[.int .i64 t.call, .int .u8 t.kind, .int .u8 t.code, .int .i64 t.id, .slice sa8 t.seen.length sc8, .bool t.more] 30)) := hid (by rw [hU10]; exact by have hq : ((v10.setCell ⟨v6.heap.size, 0, none⟩ (.slice a8 B.asks.length c8)).setCell ⟨v6.heap.size, 1, none⟩ (.slice b8 B.tells.length d8)).heap.size = v10.heap.size := (by simp [World.setCell]); have hp := heap_new (((v10.setCell ⟨v6.heap.size, 0, none⟩ (.slice a8 B.asks.length c8)).setCell ⟨v6.heap.size, 1, none⟩ (.slice b8 B.tells.length d8))) (.cells #[.int .i64 t.call, .int .u8 t.kind, .int .u8 t.code, .int .i64 t.id, .slice sa8 t.seen.length sc8, .bool t.more] 30); rw [hq] at hp; exact hp)
      replace N5 := hid (NetOwn.on N5.out (show On _ v10 U10 by rw [hU10]; exact ((((On.refl _ _).setCell (p := ⟨v6.heap.size, 0, none⟩) (by dsimp only; omega) _).setCell (p := ⟨v6.heap.size, 1, none⟩) (by dsimp only; omega) _).alloc _)))
      replace N6 := hid (NetOwn.on N6.out (show On _ v10 U10 by rw [hU10]; exact ((((On.refl _ _).setCell (p := ⟨v6.heap.size, 0, none⟩) (by dsimp only; omega) _).setCell (p := ⟨v6.heap.size, 1, none⟩) (by dsimp only; omega) _).alloc _)))
      replace N7 := hid (NetOwn.on N7.out (show On _ v10 U10 by rw [hU10]; exact ((((On.refl _ _).setCell (p := ⟨v6.heap.size, 0, none⟩) (by dsimp only; omega) _).setCell (p := ⟨v6.heap.size, 1, none⟩) (by dsimp only; omega) _).alloc _)))
      replace N8 := hid (NetOwn.on N8.out (show On _ v10 U10 by rw [hU10]; exact ((((On.refl _ _).setCell (p := ⟨v6.heap.size, 0, none⟩) (by dsimp only; omega) _).setCell (p := ⟨v6.heap.size, 1, none⟩) (by dsimp only; omega) _).alloc _)))
      replace Z : Hid (Below w.heap.size w U10) := hid (by rw [hU10]; exact (((Z.out).setCell (p := ⟨v6.heap.size, 0, none⟩) (by dsimp only; omega) _).setCell (p := ⟨v6.heap.size, 1, none⟩) (by dsimp only; omega) _).alloc (by have := Z.out.size; simp; omega) _)
      rw [← hU10]
      clear hU10
      have hne := neqA_run y y
      rw [sameA_self] at hne
      obtain ⟨bb0, bb1, bbf, bbl⟩ := blk2 BB.out
      obtain ⟨bc0, bc1, bcf, bcl⟩ := blk2 BC.out
      go_wp2_with fail
      clear bb0 bb1 bbf bbl
      clear bc0 bc1 bcf bcl
      refine (tn_self _ _ _ _ A _ N5.out.is N6.out.is KA.out).mono ?_
      rintro e v11 ⟨he, hb⟩
      subst he
      have hzv11 : U10.heap.size ≤ v11.heap.size := hb.size
      replace BX := hid (blk_below BX.out hb (blk_lt BX.out))
      replace BM := hid (blk_below BM.out hb (blk_lt BM.out))
      replace BB := hid (blk_below BB.out hb (blk_lt BB.out))
      replace BC := hid (blk_below BC.out hb (blk_lt BC.out))
      replace BD := hid (blk_below BD.out hb (blk_lt BD.out))
      replace BH := hid (blk_below BH.out hb (blk_lt BH.out))
      replace BY := hid (blk_below BY.out hb (blk_lt BY.out))
      replace BZ := hid (blk_below BZ.out hb (blk_lt BZ.out))
      replace BU := hid (blk_below BU.out hb (blk_lt BU.out))
      replace BV := hid (blk_below BV.out hb (blk_lt BV.out))
      replace N5 := hid (N5.out.below hb)
      replace N6 := hid (N6.out.below hb)
      replace N7 := hid (N7.out.below hb)
      replace N8 := hid (N8.out.below hb)
      replace R7 := hid (RowOf.below R7.out hb)
      replace R8 := hid (RowOf.below R8.out hb)
      replace Z := hid (Z.out.trans (hb.mono Z.out.size))
      clear hb
      obtain ⟨bd0, bd1, bdf, bdl⟩ := blk2 BD.out
      obtain ⟨bh0, bh1, bhf, bhl⟩ := blk2 BH.out
      obtain ⟨by0, by1, by2, by3, by4, by5, byf, byl⟩ := blk6 BY.out
      obtain ⟨bz0, bz1, bz2, bz3, bz4, bz5, bzf, bzl⟩ := blk6 BZ.out
      go_wp2_with fail
      clear bd0 bd1 bdf bdl
      clear bh0 bh1 bhf bhl
      clear by0 by1 by2 by3 by4 by5 byf byl
      clear bz0 bz1 bz2 bz3 bz4 bz5 bzf bzl
      clear hne
      refine (tn_self _ _ _ _ B _ N7.out.is N8.out.is KB.out).mono ?_
      rintro e v12 ⟨he, hb⟩
      subst he
      have hzv12 : v11.heap.size ≤ v12.heap.size := hb.size
      replace BX := hid (blk_below BX.out hb (blk_lt BX.out))
      replace BM := hid (blk_below BM.out hb (blk_lt BM.out))
      replace BB := hid (blk_below BB.out hb (blk_lt BB.out))
      replace BC := hid (blk_below BC.out hb (blk_lt BC.out))
      replace BD := hid (blk_below BD.out hb (blk_lt BD.out))
      replace BH := hid (blk_below BH.out hb (blk_lt BH.out))
      replace BY := hid (blk_below BY.out hb (blk_lt BY.out))
      replace BZ := hid (blk_below BZ.out hb (blk_lt BZ.out))
      replace BU := hid (blk_below BU.out hb (blk_lt BU.out))
      replace BV := hid (blk_below BV.out hb (blk_lt BV.out))
      replace N5 := hid (N5.out.below hb)
      replace N6 := hid (N6.out.below hb)
      replace N7 := hid (N7.out.below hb)
      replace N8 := hid (N8.out.below hb)
      replace R7 := hid (RowOf.below R7.out hb)
      replace R8 := hid (RowOf.below R8.out hb)
      replace Z := hid (Z.out.trans (hb.mono Z.out.size))
      clear hb
      obtain ⟨bu0, bu1, bu2, bu3, bu4, bu5, buf, bul⟩ := blk6 BU.out
      obtain ⟨bv0, bv1, bv2, bv3, bv4, bv5, bvf, bvl⟩ := blk6 BV.out
      go_wp2_with fail
      clear bu0 bu1 bu2 bu3 bu4 bu5 buf bul
      clear bv0 bv1 bv2 bv3 bv4 bv5 bvf bvl
      refine (told_at ⟨t.call, t.kind, t.code, t.id, .slice sa7 t.seen.length sc7, t.more⟩ ⟨t.call, t.kind, t.code, t.id, .slice sa8 t.seen.length sc8, t.more⟩ t.seen t.seen true _ hts hts R7.out R8.out (toldB_iff.2 rfl)).mono ?_
      rintro e v13 ⟨he, hb⟩
      subst he
      have hzv13 : v12.heap.size ≤ v13.heap.size := hb.size
      replace BX := hid (blk_below BX.out hb (blk_lt BX.out))
      replace BM := hid (blk_below BM.out hb (blk_lt BM.out))
      replace BB := hid (blk_below BB.out hb (blk_lt BB.out))
      replace BC := hid (blk_below BC.out hb (blk_lt BC.out))
      replace BD := hid (blk_below BD.out hb (blk_lt BD.out))
      replace BH := hid (blk_below BH.out hb (blk_lt BH.out))
      replace BY := hid (blk_below BY.out hb (blk_lt BY.out))
      replace BZ := hid (blk_below BZ.out hb (blk_lt BZ.out))
      replace BU := hid (blk_below BU.out hb (blk_lt BU.out))
      replace BV := hid (blk_below BV.out hb (blk_lt BV.out))
      replace N5 := hid (N5.out.below hb)
      replace N6 := hid (N6.out.below hb)
      replace N7 := hid (N7.out.below hb)
      replace N8 := hid (N8.out.below hb)
      replace R7 := hid (RowOf.below R7.out hb)
      replace R8 := hid (RowOf.below R8.out hb)
      replace Z := hid (Z.out.trans (hb.mono Z.out.size))
      clear hb
      clear N5
      clear N6
      clear N7
      clear N8
      clear R7
      clear R8
      clear BU
      clear BV
      clear BY
      clear BZ
      clear BD
      clear BH
      clear BM
      go_upto_region 15 with fail
      obtain ⟨bx0, bx1, bxf, bxl⟩ := blk2 BX.out
      go_wp2_with fail
      clear bx0 bx1 bxf bxl
      refine (twice_any _ _ n at' tells _ (NI.out.below Z.out) KN.out).mono ?_
      rintro e v14 ⟨ua, ut, he, hn, hb⟩
      rw [HC.out] at he hn
      obtain ⟨a9, c9, b9, d9, rfl, rfl⟩ := hn.shape
      simp only [netv] at he
      subst he
      have hzv14 : v13.heap.size ≤ v14.heap.size := hb.size
      replace BX := hid (blk_below BX.out hb (blk_lt BX.out))
      replace BB := hid (blk_below BB.out hb (blk_lt BB.out))
      replace BC := hid (blk_below BC.out hb (blk_lt BC.out))
      replace Z := hid (Z.out.trans (hb.mono Z.out.size))
      have N9 := hid hn
      clear hb hn
      obtain ⟨bb0, bb1, bbf, bbl⟩ := blk2 BB.out
      go_upto_region 16 with fail
      clear bb0 bb1 bbf bbl
      obtain ⟨U14, hU14⟩ : ∃ U, U = ((v14.setCell ⟨v3.heap.size, 0, none⟩ (.slice a9 C.asks.length c9)).setCell ⟨v3.heap.size, 1, none⟩ (.slice b9 C.tells.length d9)) := ⟨_, rfl⟩
      have hzU14 : v14.heap.size + 0 = U14.heap.size := by rw [hU14]; simp [World.setCell]
      replace BX : Hid (U14.heap[w.heap.size]? = some (.cells #[.slice a0 n.asks.length c0, .slice b0 n.tells.length d0] 25)) := hid (by rw [hU14]; exact blk_far (blk_far (BX.out) (by omega) _) (by omega) _)
      replace BB : Hid (U14.heap[v3.heap.size]? = some (.cells #[.slice a9 C.asks.length c9, .slice b9 C.tells.length d9] 25)) := hid (by rw [hU14]; exact blk_set (blk_set (BB.out) 0 _) 1 _)
      replace BC : Hid (U14.heap[v4.heap.size]? = some (.cells #[.slice a6 A.asks.length c6, .slice b6 A.tells.length d6] 25)) := hid (by rw [hU14]; exact blk_far (blk_far (BC.out) (by omega) _) (by omega) _)
      replace N9 := hid (NetOwn.on N9.out (show On _ v14 U14 by rw [hU14]; exact (((On.refl _ _).setCell (p := ⟨v3.heap.size, 0, none⟩) (by dsimp only; omega) _).setCell (p := ⟨v3.heap.size, 1, none⟩) (by dsimp only; omega) _)))
      replace Z : Hid (Below w.heap.size w U14) := hid (by rw [hU14]; exact ((Z.out).setCell (p := ⟨v3.heap.size, 0, none⟩) (by dsimp only; omega) _).setCell (p := ⟨v3.heap.size, 1, none⟩) (by dsimp only; omega) _)
      rw [← hU14]
      clear hU14
      obtain ⟨bx0, bx1, bxf, bxl⟩ := blk2 BX.out
      go_wp2_with fail
      clear bx0 bx1 bxf bxl
      refine (rtwice_any _ _ n at' tells _ (NI.out.below Z.out) KN.out).mono ?_
      rintro e v15 ⟨ua, ut, he, hn, hb⟩
      rw [HC.out] at he hn
      obtain ⟨a10, c10, b10, d10, rfl, rfl⟩ := hn.shape
      simp only [netv] at he
      subst he
      have hzv15 : U14.heap.size ≤ v15.heap.size := hb.size
      replace BX := hid (blk_below BX.out hb (blk_lt BX.out))
      replace BB := hid (blk_below BB.out hb (blk_lt BB.out))
      replace BC := hid (blk_below BC.out hb (blk_lt BC.out))
      replace N9 := hid (N9.out.below hb)
      replace Z := hid (Z.out.trans (hb.mono Z.out.size))
      have N10 := hid hn
      clear hb hn
      obtain ⟨bc0, bc1, bcf, bcl⟩ := blk2 BC.out
      go_upto_region 17 with fail
      clear bc0 bc1 bcf bcl
      obtain ⟨U15, hU15⟩ : ∃ U, U = ((v15.setCell ⟨v4.heap.size, 0, none⟩ (.slice a10 C.asks.length c10)).setCell ⟨v4.heap.size, 1, none⟩ (.slice b10 C.tells.length d10)) := ⟨_, rfl⟩
      have hzU15 : v15.heap.size + 0 = U15.heap.size := by rw [hU15]; simp [World.setCell]
      replace BX : Hid (U15.heap[w.heap.size]? = some (.cells #[.slice a0 n.asks.length c0, .slice b0 n.tells.length d0] 25)) := hid (by rw [hU15]; exact blk_far (blk_far (BX.out) (by omega) _) (by omega) _)
      replace BB : Hid (U15.heap[v3.heap.size]? = some (.cells #[.slice a9 C.asks.length c9, .slice b9 C.tells.length d9] 25)) := hid (by rw [hU15]; exact blk_far (blk_far (BB.out) (by omega) _) (by omega) _)
      replace BC : Hid (U15.heap[v4.heap.size]? = some (.cells #[.slice a10 C.asks.length c10, .slice b10 C.tells.length d10] 25)) := hid (by rw [hU15]; exact blk_set (blk_set (BC.out) 0 _) 1 _)
      replace N9 := hid (NetOwn.on N9.out (show On _ v15 U15 by rw [hU15]; exact (((On.refl _ _).setCell (p := ⟨v4.heap.size, 0, none⟩) (by dsimp only; omega) _).setCell (p := ⟨v4.heap.size, 1, none⟩) (by dsimp only; omega) _)))
      replace N10 := hid (NetOwn.on N10.out (show On _ v15 U15 by rw [hU15]; exact (((On.refl _ _).setCell (p := ⟨v4.heap.size, 0, none⟩) (by dsimp only; omega) _).setCell (p := ⟨v4.heap.size, 1, none⟩) (by dsimp only; omega) _)))
      replace Z : Hid (Below w.heap.size w U15) := hid (by rw [hU15]; exact ((Z.out).setCell (p := ⟨v4.heap.size, 0, none⟩) (by dsimp only; omega) _).setCell (p := ⟨v4.heap.size, 1, none⟩) (by dsimp only; omega) _)
      rw [← hU15]
      clear hU15
      obtain ⟨bb0, bb1, bbf, bbl⟩ := blk2 BB.out
      obtain ⟨bc0, bc1, bcf, bcl⟩ := blk2 BC.out
      go_wp2_with fail
      clear bb0 bb1 bbf bbl
      clear bc0 bc1 bcf bcl
      refine (tn_self _ _ _ _ C _ N9.out.is N10.out.is KC.out).mono ?_
      rintro e v16 ⟨he, hb⟩
      subst he
      have hzv16 : U15.heap.size ≤ v16.heap.size := hb.size
      replace BX := hid (blk_below BX.out hb (blk_lt BX.out))
      replace BB := hid (blk_below BB.out hb (blk_lt BB.out))
      replace BC := hid (blk_below BC.out hb (blk_lt BC.out))
      replace N9 := hid (N9.out.below hb)
      replace N10 := hid (N10.out.below hb)
      replace Z := hid (Z.out.trans (hb.mono Z.out.size))
      clear hb
      go_wp2_with fail
      refine (wakes_any _).mono ?_
      rintro e v17 ⟨he, hb⟩
      subst he
      have hzv17 : v16.heap.size ≤ v17.heap.size := hb.size
      replace BX := hid (blk_below BX.out hb (blk_lt BX.out))
      replace BB := hid (blk_below BB.out hb (blk_lt BB.out))
      replace BC := hid (blk_below BC.out hb (blk_lt BC.out))
      replace N9 := hid (N9.out.below hb)
      replace N10 := hid (N10.out.below hb)
      replace Z := hid (Z.out.trans (hb.mono Z.out.size))
      clear hb
      go_wp2
      go_ret
      exact ⟨rfl, Z.out⟩
end Go.Proofs.Ythnlppbfmmiioaa
