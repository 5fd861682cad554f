/- The walk of NetRoom. -/
import Derived.Test.YthnlppbfmmiioaaRm0
import Derived.Deep.RegionHeld3
namespace Go.Proofs.Ythnlppbfmmiioaa
open Go.RowKit Go.Shelf

/-- What holds of the world, held for the world by a new name. -/
theorem wp_at' {P : Program} {s : Code} {K : Exit → Act → World → Prop} {a : Act} {w : World} {Q : World → Prop} (h : Q w) (k : ∀ W, Q W → Code.wp P s K a W) : Code.wp P s K a w := k w h
set_option maxHeartbeats 4000000 in
set_option maxRecDepth 100000 in
theorem room_any (va vt : Value) (n : NetV) (x : AskV) (at' : Int) (tells : Bool) (w : World) (hn : NetIs w va vt n) :
    Calls Try.prog 5 #[netv va vt, aggA x, .int .i64 at', .bool tells] w fun e w' => e = .returned (.bool true) ∧ Below w.heap.size w w' := by
  obtain ⟨a0, c0, b0, d0, rfl, rfl⟩ := hn.shape
  obtain ⟨U0, hU0⟩ : ∃ U, U = (w.alloc (.cells #[.slice a0 n.asks.length c0, .slice b0 n.tells.length d0] 25)).alloc (.cells #[.int .u8 x.kind, .int .i64 x.call, .int .i64 x.a, .int .i64 x.b, .int .i64 x.c, .int .i64 x.d] 27) := ⟨_, rfl⟩
  have hZ : Below w.heap.size w U0 := by rw [hU0]; exact ((Below.refl _ _).alloc (Nat.le_refl _) _).alloc (by simp) _
  have hzU0 : w.heap.size + 2 = U0.heap.size := by rw [hU0]; simp
  have Z := hid hZ
  have BX : Hid (U0.heap[w.heap.size]? = some (.cells #[.slice a0 n.asks.length c0, .slice b0 n.tells.length d0] 25)) := hid (by rw [hU0]; exact blk_alloc (heap_new _ _) _)
  have BA : Hid (U0.heap[w.heap.size + 1]? = some (.cells #[.int .u8 x.kind, .int .i64 x.call, .int .i64 x.a, .int .i64 x.b, .int .i64 x.c, .int .i64 x.d] 27)) := hid (by rw [hU0]; exact heap_new2 _ _ _)
  have NI := hid hn
  clear hn hZ
  unfold netv aggA
  go_enter Try.func5, Try.ntmps5
  go_upto_region 1 with fail
  rw [← hU0]
  clear hU0
  obtain ⟨bx0, bx1, bxf, bxl⟩ := blk2 BX.out
  go_wp2_with fail
  clear bx0 bx1 bxf bxl
  refine (great_any _ _ n _ (NI.out.below Z.out)).mono ?_
  rintro e v1 ⟨gb, he, hg, hb⟩
  subst he
  have hzv1 : U0.heap.size ≤ v1.heap.size := hb.size
  replace BX := hid (blk_below BX.out hb (blk_lt BX.out))
  replace BA := hid (blk_below BA.out hb (blk_lt BA.out))
  replace Z := hid (Z.out.trans (hb.mono Z.out.size))
  clear hb
  cases gb with
  | true =>
    clear hg
    go_wp2_with fail
    refine (wakes_any _).mono ?_
    rintro e v2 ⟨he, hb⟩
    subst he
    have hzv2 : v1.heap.size ≤ v2.heap.size := hb.size
    replace BX := hid (blk_below BX.out hb (blk_lt BX.out))
    replace BA := hid (blk_below BA.out hb (blk_lt BA.out))
    replace Z := hid (Z.out.trans (hb.mono Z.out.size))
    clear hb
    go_wp2
    go_ret
    exact ⟨rfl, Z.out⟩
  | false =>
    have hs := hg rfl
    have HS := hid hs
    have KN := hid hs.ok
    clear hg
    obtain ⟨D, f, hD⟩ : ∃ D f, twiceV n at' tells = (D, f) := ⟨_, _, rfl⟩
    have hroom := room_is hs at' tells hD
    have HD := hid hD
    have HRM := hid hroom
    clear hD hroom
    by_cases hl : n.asks.length < 60
    · obtain ⟨O, hO⟩ : ∃ O : NetV, O = ⟨n.asks ++ [x], n.tells⟩ := ⟨_, rfl⟩
      have hO1 : sendV n x = (O, 0) := by rw [hO]; exact sendV_room n x hl
      have hO2 : askV O (-1) = (n, x, true) := by rw [hO]; exact askV_last _ _ _ hs.ok.1
      have hOl : O.asks.length = n.asks.length + 1 := by rw [hO]; simp
      have hOx : O.asks[n.asks.length]? = some x := by rw [hO]; simp
      have KO : Hid (netOk O) := hid (by rw [hO]; exact hs.send x)
      have HO1 := hid hO1
      have HO2 := hid hO2
      have HOL := hid hOl
      have HOX := hid hOx
      have e3 : decide ((60 : Int) ≤ (n.asks.length : Int)) = false := by simp; omega
      have hnot : ¬ ((60 : Int) ≤ (n.asks.length : Int)) := by omega
      clear hO hO1 hO2 hOl hOx hs
      obtain ⟨bx0, bx1, bxf, bxl⟩ := blk2 BX.out
      obtain ⟨ba0, ba1, ba2, ba3, ba4, ba5, baf, bal⟩ := blk6 BA.out
      go_wp2_with fail
      clear bx0 bx1 bxf bxl
      clear ba0 ba1 ba2 ba3 ba4 ba5 baf bal
      refine (send_any _ _ n x _ (NI.out.below Z.out) KN.out).mono ?_
      rintro e v2 ⟨ua, ut, he, hn, hb⟩
      rw [HO1.out] at he hn
      obtain ⟨a1, c1, b1, d1, rfl, rfl⟩ := hn.shape
      simp only [netv] at he
      subst he
      have hzv2 : v1.heap.size ≤ v2.heap.size := hb.size
      replace BX := hid (blk_below BX.out hb (blk_lt BX.out))
      replace BA := hid (blk_below BA.out hb (blk_lt BA.out))
      replace Z := hid (Z.out.trans (hb.mono Z.out.size))
      have N1 := hid hn
      clear hb hn
      go_upto_region 4 with fail
      obtain ⟨U2, hU2⟩ : ∃ U, U = (v2.alloc (.cells #[.slice a1 O.asks.length c1, .slice b1 O.tells.length d1] 25)) := ⟨_, rfl⟩
      have hzU2 : v2.heap.size + 1 = U2.heap.size := by rw [hU2]; simp
      replace BX : Hid (U2.heap[w.heap.size]? = some (.cells #[.slice a0 n.asks.length c0, .slice b0 n.tells.length d0] 25)) := hid (by rw [hU2]; exact blk_alloc (BX.out) _)
      replace BA : Hid (U2.heap[w.heap.size + 1]? = some (.cells #[.int .u8 x.kind, .int .i64 x.call, .int .i64 x.a, .int .i64 x.b, .int .i64 x.c, .int .i64 x.d] 27)) := hid (by rw [hU2]; exact blk_alloc (BA.out) _)
      have BO : Hid (U2.heap[v2.heap.size]? = some (.cells #[.slice a1 O.asks.length c1, .slice b1 O.tells.length d1] 25)) := hid (by rw [hU2]; exact heap_new (v2) _)
      replace N1 := hid (NetOwn.on N1.out (show On _ v2 U2 by rw [hU2]; exact ((On.refl _ _).alloc _)))
      replace Z : Hid (Below w.heap.size w U2) := hid (by rw [hU2]; exact (Z.out).alloc (by have := Z.out.size; simp; omega) _)
      rw [← hU2]
      clear hU2
      obtain ⟨va', vc', hde, hl1, hl2, hl3, hop⟩ := N1.out.is.1.open
      cases hde
      obtain ⟨g1, off, hgo, hgl, hrw⟩ := hop (by rw [HOL.out]; omega)
      subst hgo
      obtain ⟨q0, q1, q2, q3, q4, q5⟩ := rowA hrw HOX.out
      have G0 := hid q0
      have G1 := hid q1
      have G2 := hid q2
      have G3 := hid q3
      have G4 := hid q4
      have G5 := hid q5
      have hlo : n.asks.length < O.asks.length := by rw [HOL.out]; omega
      have hwr : IntKind.i64.wrap ((n.asks.length : Int) + 1) = (O.asks.length : Int) := by rw [HOL.out]; exact IntWalk.i64_in _ (by omega)
      replace N1 := hid N1.out.is
      have NN := hid (NI.out.below Z.out)
      clear hl1 hl2 hl3 hop hrw q0 q1 q2 q3 q4 q5
      go_wp2_with fail
      obtain ⟨Ev, hEvdef⟩ : ∃ Ev : World → Prop, Ev = fun W => W.heap[w.heap.size]? = some (.cells #[.slice a0 n.asks.length c0, .slice b0 n.tells.length d0] 25) ∧ W.heap[w.heap.size + 1]? = some (.cells #[.int .u8 x.kind, .int .i64 x.call, .int .i64 x.a, .int .i64 x.b, .int .i64 x.c, .int .i64 x.d] 27) ∧ W.heap[v2.heap.size]? = some (.cells #[.slice (some ⟨g1, off, none⟩) O.asks.length c1, .slice b1 O.tells.length d1] 25) ∧ NetIs W (.slice (some ⟨g1, off, none⟩) O.asks.length c1) (.slice b1 O.tells.length d1) O ∧ NetIs W (.slice a0 n.asks.length c0) (.slice b0 n.tells.length d0) n ∧ W.cell? ⟨g1, off + n.asks.length * 6, none⟩ = some (.int .u8 x.kind) ∧ W.cell? ⟨g1, off + n.asks.length * 6 + 1, none⟩ = some (.int .i64 x.call) ∧ W.cell? ⟨g1, off + n.asks.length * 6 + 2, none⟩ = some (.int .i64 x.a) ∧ W.cell? ⟨g1, off + n.asks.length * 6 + 3, none⟩ = some (.int .i64 x.b) ∧ W.cell? ⟨g1, off + n.asks.length * 6 + 4, none⟩ = some (.int .i64 x.c) ∧ W.cell? ⟨g1, off + n.asks.length * 6 + 5, none⟩ = some (.int .i64 x.d) ∧ Below w.heap.size w W := ⟨_, rfl⟩
      have hEv0 : Ev U2 := by rw [hEvdef]; exact ⟨BX.out, BA.out, BO.out, N1.out, NN.out, G0.out, G1.out, G2.out, G3.out, G4.out, G5.out, Z.out⟩
      have hEvk : ∀ W W', Below W.heap.size W W' → Ev W → Ev W' := by
        rw [hEvdef]
        rintro W W' hb ⟨q0, q1, q2, q3, q4, q5, q6, q7, q8, q9, q10, q11⟩
        exact ⟨blk_below q0 hb (blk_lt q0), blk_below q1 hb (blk_lt q1), blk_below q2 hb (blk_lt q2), NetIs.below q3 hb, NetIs.below q4 hb, cell_below q5 hb, cell_below q6 hb, cell_below q7 hb, cell_below q8 hb, cell_below q9 hb, cell_below q10 hb, q11.trans (hb.mono q11.size)⟩
      have hEv_N1 : ∀ W, Ev W → NetIs W (.slice (some ⟨g1, off, none⟩) O.asks.length c1) (.slice b1 O.tells.length d1) O := by
        rw [hEvdef]
        rintro W ⟨q0, q1, q2, q3, q4, q5, q6, q7, q8, q9, q10, q11⟩
        exact q3
      have hEv_NN : ∀ W, Ev W → NetIs W (.slice a0 n.asks.length c0) (.slice b0 n.tells.length d0) n := by
        rw [hEvdef]
        rintro W ⟨q0, q1, q2, q3, q4, q5, q6, q7, q8, q9, q10, q11⟩
        exact q4
      have hEv_Z : ∀ W, Ev W → Below w.heap.size w W := by
        rw [hEvdef]
        rintro W ⟨q0, q1, q2, q3, q4, q5, q6, q7, q8, q9, q10, q11⟩
        exact q11
      have hEv_BX : ∀ W, Ev W → W.heap[w.heap.size]? = some (.cells #[.slice a0 n.asks.length c0, .slice b0 n.tells.length d0] 25) := by
        rw [hEvdef]
        rintro W ⟨q0, q1, q2, q3, q4, q5, q6, q7, q8, q9, q10, q11⟩
        exact q0
      have hEv_BA : ∀ W, Ev W → W.heap[w.heap.size + 1]? = some (.cells #[.int .u8 x.kind, .int .i64 x.call, .int .i64 x.a, .int .i64 x.b, .int .i64 x.c, .int .i64 x.d] 27) := by
        rw [hEvdef]
        rintro W ⟨q0, q1, q2, q3, q4, q5, q6, q7, q8, q9, q10, q11⟩
        exact q1
      have hEv_BO : ∀ W, Ev W → W.heap[v2.heap.size]? = some (.cells #[.slice (some ⟨g1, off, none⟩) O.asks.length c1, .slice b1 O.tells.length d1] 25) := by
        rw [hEvdef]
        rintro W ⟨q0, q1, q2, q3, q4, q5, q6, q7, q8, q9, q10, q11⟩
        exact q2
      have hEvc : ∀ W, Ev W → W.cell? ⟨w.heap.size, 0, none⟩ = some (.slice a0 n.asks.length c0) ∧ W.cell? ⟨w.heap.size, 1, none⟩ = some (.slice b0 n.tells.length d0) ∧ W.cell? ⟨w.heap.size + 1, 0, none⟩ = some (.int .u8 x.kind) ∧ W.cell? ⟨w.heap.size + 1, 1, none⟩ = some (.int .i64 x.call) ∧ W.cell? ⟨w.heap.size + 1, 2, none⟩ = some (.int .i64 x.a) ∧ W.cell? ⟨w.heap.size + 1, 3, none⟩ = some (.int .i64 x.b) ∧ W.cell? ⟨w.heap.size + 1, 4, none⟩ = some (.int .i64 x.c) ∧ W.cell? ⟨w.heap.size + 1, 5, none⟩ = some (.int .i64 x.d) ∧ W.cell? ⟨v2.heap.size, 0, none⟩ = some (.slice (some ⟨g1, off, none⟩) O.asks.length c1) ∧ W.cell? ⟨v2.heap.size, 1, none⟩ = some (.slice b1 O.tells.length d1) ∧ W.cell? ⟨g1, off + n.asks.length * 6, none⟩ = some (.int .u8 x.kind) ∧ W.cell? ⟨g1, off + n.asks.length * 6 + 1, none⟩ = some (.int .i64 x.call) ∧ W.cell? ⟨g1, off + n.asks.length * 6 + 2, none⟩ = some (.int .i64 x.a) ∧ W.cell? ⟨g1, off + n.asks.length * 6 + 3, none⟩ = some (.int .i64 x.b) ∧ W.cell? ⟨g1, off + n.asks.length * 6 + 4, none⟩ = some (.int .i64 x.c) ∧ W.cell? ⟨g1, off + n.asks.length * 6 + 5, none⟩ = some (.int .i64 x.d) := by
        rw [hEvdef]
        rintro W ⟨q0, q1, q2, q3, q4, q5, q6, q7, q8, q9, q10, q11⟩
        exact ⟨blk_cell q0 0, blk_cell q0 1, blk_cell q1 0, blk_cell q1 1, blk_cell q1 2, blk_cell q1 3, blk_cell q1 4, blk_cell q1 5, blk_cell q2 0, blk_cell q2 1, q5, q6, q7, q8, q9, q10⟩
      have hEvs : ∀ W W', Below W.heap.size W W' → Ev W → Ev W' ∧ W'.cell? ⟨w.heap.size, 0, none⟩ = some (.slice a0 n.asks.length c0) ∧ W'.cell? ⟨w.heap.size, 1, none⟩ = some (.slice b0 n.tells.length d0) ∧ W'.cell? ⟨w.heap.size + 1, 0, none⟩ = some (.int .u8 x.kind) ∧ W'.cell? ⟨w.heap.size + 1, 1, none⟩ = some (.int .i64 x.call) ∧ W'.cell? ⟨w.heap.size + 1, 2, none⟩ = some (.int .i64 x.a) ∧ W'.cell? ⟨w.heap.size + 1, 3, none⟩ = some (.int .i64 x.b) ∧ W'.cell? ⟨w.heap.size + 1, 4, none⟩ = some (.int .i64 x.c) ∧ W'.cell? ⟨w.heap.size + 1, 5, none⟩ = some (.int .i64 x.d) ∧ W'.cell? ⟨v2.heap.size, 0, none⟩ = some (.slice (some ⟨g1, off, none⟩) O.asks.length c1) ∧ W'.cell? ⟨v2.heap.size, 1, none⟩ = some (.slice b1 O.tells.length d1) ∧ W'.cell? ⟨g1, off + n.asks.length * 6, none⟩ = some (.int .u8 x.kind) ∧ W'.cell? ⟨g1, off + n.asks.length * 6 + 1, none⟩ = some (.int .i64 x.call) ∧ W'.cell? ⟨g1, off + n.asks.length * 6 + 2, none⟩ = some (.int .i64 x.a) ∧ W'.cell? ⟨g1, off + n.asks.length * 6 + 3, none⟩ = some (.int .i64 x.b) ∧ W'.cell? ⟨g1, off + n.asks.length * 6 + 4, none⟩ = some (.int .i64 x.c) ∧ W'.cell? ⟨g1, off + n.asks.length * 6 + 5, none⟩ = some (.int .i64 x.d) := fun W W' hb h => ⟨hEvk W W' hb h, hEvc W' (hEvk W W' hb h)⟩
      have Ev_0 := hid hEv0
      have Ev_S := hid hEvs
      have Ev_K := hid hEvk
      have Ev_C := hid hEvc
      have Ev_N1 := hid hEv_N1
      have Ev_NN := hid hEv_NN
      have Ev_Z := hid hEv_Z
      have Ev_BX := hid hEv_BX
      have Ev_BA := hid hEv_BA
      have Ev_BO := hid hEv_BO
      have Ev_D := hid hEvdef
      clear BX BA BO N1 NN G0 G1 G2 G3 G4 G5 Z hEv0 hEvk hEvs hEvdef hEv_N1 hEv_NN hEv_Z hEv_BX hEv_BA hEv_BO hEvc
      have hne := neqA_run x x
      rw [sameA_self] at hne
      go_region_held3 (fun W => Ev W ∧ W.cell? ⟨w.heap.size, 0, none⟩ = some (.slice a0 n.asks.length c0) ∧ W.cell? ⟨w.heap.size, 1, none⟩ = some (.slice b0 n.tells.length d0) ∧ W.cell? ⟨w.heap.size + 1, 0, none⟩ = some (.int .u8 x.kind) ∧ W.cell? ⟨w.heap.size + 1, 1, none⟩ = some (.int .i64 x.call) ∧ W.cell? ⟨w.heap.size + 1, 2, none⟩ = some (.int .i64 x.a) ∧ W.cell? ⟨w.heap.size + 1, 3, none⟩ = some (.int .i64 x.b) ∧ W.cell? ⟨w.heap.size + 1, 4, none⟩ = some (.int .i64 x.c) ∧ W.cell? ⟨w.heap.size + 1, 5, none⟩ = some (.int .i64 x.d) ∧ W.cell? ⟨v2.heap.size, 0, none⟩ = some (.slice (some ⟨g1, off, none⟩) O.asks.length c1) ∧ W.cell? ⟨v2.heap.size, 1, none⟩ = some (.slice b1 O.tells.length d1) ∧ W.cell? ⟨g1, off + n.asks.length * 6, none⟩ = some (.int .u8 x.kind) ∧ W.cell? ⟨g1, off + n.asks.length * 6 + 1, none⟩ = some (.int .i64 x.call) ∧ W.cell? ⟨g1, off + n.asks.length * 6 + 2, none⟩ = some (.int .i64 x.a) ∧ W.cell? ⟨g1, off + n.asks.length * 6 + 3, none⟩ = some (.int .i64 x.b) ∧ W.cell? ⟨g1, off + n.asks.length * 6 + 4, none⟩ = some (.int .i64 x.c) ∧ W.cell? ⟨g1, off + n.asks.length * 6 + 5, none⟩ = some (.int .i64 x.d)) (first | exact Ev_S.out _ _ (below_drewN (Below.refl _ _) 1) Ev_0.out | (go_split_ands; exact Ev_S.out _ _ (below_drewN (Below.refl _ _) 1) (by assumption))) (fail)
      clear hwr hlo
      go_upto_region 9 with fail
      go_split_ands
      refine wp_at' (Q := Ev) (by assumption) ?_
      intro V hV
      have BX := hid (Ev_BX.out _ hV)
      have BA := hid (Ev_BA.out _ hV)
      have BO := hid (Ev_BO.out _ hV)
      have N1 := hid (Ev_N1.out _ hV)
      have Z := hid (Ev_Z.out _ hV)
      have hzBO := blk_lt BO.out
      obtain ⟨bo0, bo1, bof, bol⟩ := blk2 BO.out
      go_wp2_with fail
      clear bo0 bo1 bof bol
      refine (ask_any _ _ O (-1) _ N1.out KO.out).mono ?_
      rintro e v3 ⟨ua, ut, he, hn, hb⟩
      rw [HO2.out] at he hn
      obtain ⟨a2, c2, b2, d2, rfl, rfl⟩ := hn.shape
      simp only [netv, aggA] at he
      subst he
      have hzv3 : V.heap.size ≤ v3.heap.size := hb.size
      replace BX := hid (blk_below BX.out hb (blk_lt BX.out))
      replace BA := hid (blk_below BA.out hb (blk_lt BA.out))
      replace BO := hid (blk_below BO.out hb (blk_lt BO.out))
      replace Z := hid (Z.out.trans (hb.mono Z.out.size))
      have N2 := hid hn
      clear hb hn
      go_upto_region 10 with fail
      obtain ⟨U3, hU3⟩ : ∃ U, U = ((v3.alloc (.cells #[.slice a2 n.asks.length c2, .slice b2 n.tells.length d2] 25)).alloc (.cells #[.int .u8 x.kind, .int .i64 x.call, .int .i64 x.a, .int .i64 x.b, .int .i64 x.c, .int .i64 x.d] 27)) := ⟨_, rfl⟩
      have hzU3 : v3.heap.size + 2 = U3.heap.size := by rw [hU3]; simp
      replace BX : Hid (U3.heap[w.heap.size]? = some (.cells #[.slice a0 n.asks.length c0, .slice b0 n.tells.length d0] 25)) := hid (by rw [hU3]; exact blk_alloc (blk_alloc (BX.out) _) _)
      replace BA : Hid (U3.heap[w.heap.size + 1]? = some (.cells #[.int .u8 x.kind, .int .i64 x.call, .int .i64 x.a, .int .i64 x.b, .int .i64 x.c, .int .i64 x.d] 27)) := hid (by rw [hU3]; exact blk_alloc (blk_alloc (BA.out) _) _)
      replace BO : Hid (U3.heap[v2.heap.size]? = some (.cells #[.slice (some ⟨g1, off, none⟩) O.asks.length c1, .slice b1 O.tells.length d1] 25)) := hid (by rw [hU3]; exact blk_alloc (blk_alloc (BO.out) _) _)
      have BP : Hid (U3.heap[v3.heap.size]? = some (.cells #[.slice a2 n.asks.length c2, .slice b2 n.tells.length d2] 25)) := hid (by rw [hU3]; exact blk_alloc (heap_new (v3) _) _)
      have BB : Hid (U3.heap[v3.heap.size + 1]? = some (.cells #[.int .u8 x.kind, .int .i64 x.call, .int .i64 x.a, .int .i64 x.b, .int .i64 x.c, .int .i64 x.d] 27)) := hid (by rw [hU3]; exact by simpa using heap_new ((v3.alloc (.cells #[.slice a2 n.asks.length c2, .slice b2 n.tells.length d2] 25))) _)
      replace N2 := hid (NetOwn.on N2.out (show On _ v3 U3 by rw [hU3]; exact (((On.refl _ _).alloc _).alloc _)))
      replace Z : Hid (Below w.heap.size w U3) := hid (by rw [hU3]; exact ((Z.out).alloc (by have := Z.out.size; simp; omega) _).alloc (by have := Z.out.size; simp; omega) _)
      rw [← hU3]
      clear hU3
      obtain ⟨bp0, bp1, bpf, bpl⟩ := blk2 BP.out
      obtain ⟨bx0, bx1, bxf, bxl⟩ := blk2 BX.out
      obtain ⟨ba0, ba1, ba2, ba3, ba4, ba5, baf, bal⟩ := blk6 BA.out
      obtain ⟨bb0, bb1, bb2, bb3, bb4, bb5, bbf, bbl⟩ := blk6 BB.out
      go_wp2_with fail
      clear bp0 bp1 bpf bpl
      clear bx0 bx1 bxf bxl
      clear ba0 ba1 ba2 ba3 ba4 ba5 baf bal
      clear bb0 bb1 bb2 bb3 bb4 bb5 bbf bbl
      refine (tn_self _ _ _ _ n _ N2.out.is (NI.out.below Z.out) KN.out).mono ?_
      rintro e v4 ⟨he, hb⟩
      subst he
      have hzv4 : U3.heap.size ≤ v4.heap.size := hb.size
      replace BX := hid (blk_below BX.out hb (blk_lt BX.out))
      replace BA := hid (blk_below BA.out hb (blk_lt BA.out))
      replace BO := hid (blk_below BO.out hb (blk_lt BO.out))
      replace BP := hid (blk_below BP.out hb (blk_lt BP.out))
      replace BB := hid (blk_below BB.out hb (blk_lt BB.out))
      replace N2 := hid (N2.out.below hb)
      replace Z := hid (Z.out.trans (hb.mono Z.out.size))
      clear hb
      clear N2
      clear BP
      clear BB
      clear BO
      clear hne
      go_upto_region 12 with fail
      clear BA
      obtain ⟨bx0, bx1, bxf, bxl⟩ := blk2 BX.out
      go_wp2_with fail
      clear bx0 bx1 bxf bxl
      refine (twice_any _ _ n at' tells _ (NI.out.below Z.out) KN.out).mono ?_
      rintro e v5 ⟨ua, ut, he, hn, hb⟩
      rw [HD.out] at he hn
      obtain ⟨a9, c9, b9, d9, rfl, rfl⟩ := hn.shape
      simp only [netv] at he
      subst he
      clear hn
      have hzv5 : v4.heap.size ≤ v5.heap.size := hb.size
      replace BX := hid (blk_below BX.out hb (blk_lt BX.out))
      replace Z := hid (Z.out.trans (hb.mono Z.out.size))
      clear hb
      go_upto_region 13 with fail
      obtain ⟨U5, hU5⟩ : ∃ U, U = (v5.alloc (.cells #[.slice a9 D.asks.length c9, .slice b9 D.tells.length d9] 25)) := ⟨_, rfl⟩
      have hzU5 : v5.heap.size + 1 = U5.heap.size := by rw [hU5]; simp
      replace BX : Hid (U5.heap[w.heap.size]? = some (.cells #[.slice a0 n.asks.length c0, .slice b0 n.tells.length d0] 25)) := hid (by rw [hU5]; exact blk_alloc (BX.out) _)
      have BD : Hid (U5.heap[v5.heap.size]? = some (.cells #[.slice a9 D.asks.length c9, .slice b9 D.tells.length d9] 25)) := hid (by rw [hU5]; exact heap_new (v5) _)
      replace Z : Hid (Below w.heap.size w U5) := hid (by rw [hU5]; exact (Z.out).alloc (by have := Z.out.size; simp; omega) _)
      rw [← hU5]
      clear hU5
      have hrm := HRM.out
      unfold roomOf at hrm
      clear HD HRM
      have hsm := HS.out
      have sp : n.asks.length ≤ 70 := hsm.1
      have sq : n.tells.length ≤ 70 := hsm.2.1
      clear hsm
      obtain ⟨p, hp⟩ : ∃ p, p = n.asks.length := ⟨_, rfl⟩
      obtain ⟨q, hq⟩ : ∃ q, q = n.tells.length := ⟨_, rfl⟩
      obtain ⟨p', hp'⟩ : ∃ p, p = D.asks.length := ⟨_, rfl⟩
      obtain ⟨q', hq'⟩ : ∃ q, q = D.tells.length := ⟨_, rfl⟩
      simp only [← hp, ← hq, ← hp', ← hq'] at *
      have bp0 : (0 : Int) ≤ (p : Int) := by omega
      have bp1 : (p : Int) ≤ 70 := by omega
      have bq0 : (0 : Int) ≤ (q : Int) := by omega
      have bq1 : (q : Int) ≤ 70 := by omega
      cases tells
      · simp only [Bool.false_eq_true, if_false] at hrm
        obtain ⟨ho, ⟨h1, h2, h3⟩ | ⟨h1, h2, h3⟩ | ⟨h0, h1, h2, h3⟩⟩ := hrm
        · subst h3
          replace ho := ho.symm
          subst ho
          subst h2
          subst h1
          clear bp0 bp1
          have hm1 : (q : Int) - (q : Int) = 0 := by omega
          obtain ⟨bx0, bx1, bxf, bxl⟩ := blk2 BX.out
          obtain ⟨bd0, bd1, bdf, bdl⟩ := blk2 BD.out
          go_wp2_with fail
          clear bx0 bx1 bxf bxl
          clear bd0 bd1 bdf bdl
          refine (wakes_any _).mono ?_
          rintro e v6 ⟨he, hb⟩
          subst he
          have hzv6 : U5.heap.size ≤ v6.heap.size := hb.size
          replace BX := hid (blk_below BX.out hb (blk_lt BX.out))
          replace BD := hid (blk_below BD.out hb (blk_lt BD.out))
          replace Z := hid (Z.out.trans (hb.mono Z.out.size))
          clear hb
          go_wp2
          go_ret
          exact ⟨rfl, Z.out⟩
        · exfalso; omega
        · subst h3
          replace ho := ho.symm
          subst ho
          subst h2
          have hm1 : (p : Int) + 1 + (q : Int) - (p : Int) - (q : Int) = 1 := by omega
          have hz : ((p : Int) == 0) = false := by simp; omega
          have hz2 : ¬ (p = 0) := by omega
          have hz3 : ¬ (60 ≤ p) := by omega
          have hz4 : decide ((60 : Int) ≤ (p : Int)) = false := by simp; omega
          obtain ⟨bx0, bx1, bxf, bxl⟩ := blk2 BX.out
          obtain ⟨bd0, bd1, bdf, bdl⟩ := blk2 BD.out
          go_wp2_with fail
          clear bx0 bx1 bxf bxl
          clear bd0 bd1 bdf bdl
          refine (wakes_any _).mono ?_
          rintro e v6 ⟨he, hb⟩
          subst he
          have hzv6 : U5.heap.size ≤ v6.heap.size := hb.size
          replace BX := hid (blk_below BX.out hb (blk_lt BX.out))
          replace BD := hid (blk_below BD.out hb (blk_lt BD.out))
          replace Z := hid (Z.out.trans (hb.mono Z.out.size))
          clear hb
          go_wp2
          go_ret
          exact ⟨rfl, Z.out⟩
      · simp only [if_true] at hrm
        obtain ⟨ho, ⟨h1, h2, h3⟩ | ⟨h1, h2, h3⟩ | ⟨h0, h1, h2, h3⟩⟩ := hrm
        · subst h3
          replace ho := ho.symm
          subst ho
          subst h2
          subst h1
          clear bq0 bq1
          have hm1 : (p : Int) - (p : Int) = 0 := by omega
          obtain ⟨bx0, bx1, bxf, bxl⟩ := blk2 BX.out
          obtain ⟨bd0, bd1, bdf, bdl⟩ := blk2 BD.out
          go_wp2_with fail
          clear bx0 bx1 bxf bxl
          clear bd0 bd1 bdf bdl
          refine (wakes_any _).mono ?_
          rintro e v6 ⟨he, hb⟩
          subst he
          have hzv6 : U5.heap.size ≤ v6.heap.size := hb.size
          replace BX := hid (blk_below BX.out hb (blk_lt BX.out))
          replace BD := hid (blk_below BD.out hb (blk_lt BD.out))
          replace Z := hid (Z.out.trans (hb.mono Z.out.size))
          clear hb
          go_wp2
          go_ret
          exact ⟨rfl, Z.out⟩
        · subst h3
          replace ho := ho.symm
          subst ho
          replace h2 := h2.symm
          subst h2
          have hm1 : (p : Int) + (q : Int) - (p : Int) - (q : Int) = 0 := by omega
          have hz : ((q : Int) == 0) = false := by simp; omega
          have hz2 : ¬ (q = 0) := by omega
          obtain ⟨bx0, bx1, bxf, bxl⟩ := blk2 BX.out
          obtain ⟨bd0, bd1, bdf, bdl⟩ := blk2 BD.out
          go_wp2_with fail
          clear bx0 bx1 bxf bxl
          clear bd0 bd1 bdf bdl
          refine (wakes_any _).mono ?_
          rintro e v6 ⟨he, hb⟩
          subst he
          have hzv6 : U5.heap.size ≤ v6.heap.size := hb.size
          replace BX := hid (blk_below BX.out hb (blk_lt BX.out))
          replace BD := hid (blk_below BD.out hb (blk_lt BD.out))
          replace Z := hid (Z.out.trans (hb.mono Z.out.size))
          clear hb
          go_wp2
          go_ret
          exact ⟨rfl, Z.out⟩
        · subst h3
          replace ho := ho.symm
          subst ho
          subst h2
          have hm1 : (p : Int) + ((q : Int) + 1) - (p : Int) - (q : Int) = 1 := by omega
          have hz : ((q : Int) == 0) = false := by simp; omega
          have hz2 : ¬ (q = 0) := by omega
          have hz3 : ¬ (60 ≤ q) := by omega
          have hz4 : decide ((60 : Int) ≤ (q : Int)) = false := by simp; omega
          obtain ⟨bx0, bx1, bxf, bxl⟩ := blk2 BX.out
          obtain ⟨bd0, bd1, bdf, bdl⟩ := blk2 BD.out
          go_wp2_with fail
          clear bx0 bx1 bxf bxl
          clear bd0 bd1 bdf bdl
          refine (wakes_any _).mono ?_
          rintro e v6 ⟨he, hb⟩
          subst he
          have hzv6 : U5.heap.size ≤ v6.heap.size := hb.size
          replace BX := hid (blk_below BX.out hb (blk_lt BX.out))
          replace BD := hid (blk_below BD.out hb (blk_lt BD.out))
          replace Z := hid (Z.out.trans (hb.mono Z.out.size))
          clear hb
          go_wp2
          go_ret
          exact ⟨rfl, Z.out⟩
    · have hO1 : sendV n x = (n, 110) := sendV_full n x (by omega)
      have HO1 := hid hO1
      have hge : (60 : Int) ≤ (n.asks.length : Int) := by omega
      clear hO1 hs
      obtain ⟨bx0, bx1, bxf, bxl⟩ := blk2 BX.out
      obtain ⟨ba0, ba1, ba2, ba3, ba4, ba5, baf, bal⟩ := blk6 BA.out
      go_wp2_with fail
      clear bx0 bx1 bxf bxl
      clear ba0 ba1 ba2 ba3 ba4 ba5 baf bal
      refine (send_any _ _ n x _ (NI.out.below Z.out) KN.out).mono ?_
      rintro e v2 ⟨ua, ut, he, hn, hb⟩
      rw [HO1.out] at he hn
      obtain ⟨a1, c1, b1, d1, rfl, rfl⟩ := hn.shape
      simp only [netv] at he
      subst he
      have hzv2 : v1.heap.size ≤ v2.heap.size := hb.size
      replace BX := hid (blk_below BX.out hb (blk_lt BX.out))
      replace BA := hid (blk_below BA.out hb (blk_lt BA.out))
      replace Z := hid (Z.out.trans (hb.mono Z.out.size))
      have N1 := hid hn
      clear hb hn
      go_upto_region 4 with fail
      obtain ⟨U2, hU2⟩ : ∃ U, U = (v2.alloc (.cells #[.slice a1 n.asks.length c1, .slice b1 n.tells.length d1] 25)) := ⟨_, rfl⟩
      have hzU2 : v2.heap.size + 1 = U2.heap.size := by rw [hU2]; simp
      replace BX : Hid (U2.heap[w.heap.size]? = some (.cells #[.slice a0 n.asks.length c0, .slice b0 n.tells.length d0] 25)) := hid (by rw [hU2]; exact blk_alloc (BX.out) _)
      replace BA : Hid (U2.heap[w.heap.size + 1]? = some (.cells #[.int .u8 x.kind, .int .i64 x.call, .int .i64 x.a, .int .i64 x.b, .int .i64 x.c, .int .i64 x.d] 27)) := hid (by rw [hU2]; exact blk_alloc (BA.out) _)
      have BO : Hid (U2.heap[v2.heap.size]? = some (.cells #[.slice a1 n.asks.length c1, .slice b1 n.tells.length d1] 25)) := hid (by rw [hU2]; exact heap_new (v2) _)
      replace N1 := hid (NetOwn.on N1.out (show On _ v2 U2 by rw [hU2]; exact ((On.refl _ _).alloc _)))
      replace Z : Hid (Below w.heap.size w U2) := hid (by rw [hU2]; exact (Z.out).alloc (by have := Z.out.size; simp; omega) _)
      rw [← hU2]
      clear hU2
      obtain ⟨bx0, bx1, bxf, bxl⟩ := blk2 BX.out
      obtain ⟨bo0, bo1, bof, bol⟩ := blk2 BO.out
      go_wp2_with fail
      clear bx0 bx1 bxf bxl
      clear bo0 bo1 bof bol
      refine (tn_self _ _ _ _ n _ N1.out.is (NI.out.below Z.out) KN.out).mono ?_
      rintro e v3 ⟨he, hb⟩
      subst he
      have hzv3 : U2.heap.size ≤ v3.heap.size := hb.size
      replace BX := hid (blk_below BX.out hb (blk_lt BX.out))
      replace BA := hid (blk_below BA.out hb (blk_lt BA.out))
      replace BO := hid (blk_below BO.out hb (blk_lt BO.out))
      replace N1 := hid (N1.out.below hb)
      replace Z := hid (Z.out.trans (hb.mono Z.out.size))
      clear hb
      clear N1
      clear BO
      go_upto_region 12 with fail
      clear BA
      obtain ⟨bx0, bx1, bxf, bxl⟩ := blk2 BX.out
      go_wp2_with fail
      clear bx0 bx1 bxf bxl
      refine (twice_any _ _ n at' tells _ (NI.out.below Z.out) KN.out).mono ?_
      rintro e v4 ⟨ua, ut, he, hn, hb⟩
      rw [HD.out] at he hn
      obtain ⟨a9, c9, b9, d9, rfl, rfl⟩ := hn.shape
      simp only [netv] at he
      subst he
      clear hn
      have hzv4 : v3.heap.size ≤ v4.heap.size := hb.size
      replace BX := hid (blk_below BX.out hb (blk_lt BX.out))
      replace Z := hid (Z.out.trans (hb.mono Z.out.size))
      clear hb
      go_upto_region 13 with fail
      obtain ⟨U4, hU4⟩ : ∃ U, U = (v4.alloc (.cells #[.slice a9 D.asks.length c9, .slice b9 D.tells.length d9] 25)) := ⟨_, rfl⟩
      have hzU4 : v4.heap.size + 1 = U4.heap.size := by rw [hU4]; simp
      replace BX : Hid (U4.heap[w.heap.size]? = some (.cells #[.slice a0 n.asks.length c0, .slice b0 n.tells.length d0] 25)) := hid (by rw [hU4]; exact blk_alloc (BX.out) _)
      have BD : Hid (U4.heap[v4.heap.size]? = some (.cells #[.slice a9 D.asks.length c9, .slice b9 D.tells.length d9] 25)) := hid (by rw [hU4]; exact heap_new (v4) _)
      replace Z : Hid (Below w.heap.size w U4) := hid (by rw [hU4]; exact (Z.out).alloc (by have := Z.out.size; simp; omega) _)
      rw [← hU4]
      clear hU4
      have hrm := HRM.out
      unfold roomOf at hrm
      clear HD HRM
      have hsm := HS.out
      have sp : n.asks.length ≤ 70 := hsm.1
      have sq : n.tells.length ≤ 70 := hsm.2.1
      clear hsm
      obtain ⟨p, hp⟩ : ∃ p, p = n.asks.length := ⟨_, rfl⟩
      obtain ⟨q, hq⟩ : ∃ q, q = n.tells.length := ⟨_, rfl⟩
      obtain ⟨p', hp'⟩ : ∃ p, p = D.asks.length := ⟨_, rfl⟩
      obtain ⟨q', hq'⟩ : ∃ q, q = D.tells.length := ⟨_, rfl⟩
      simp only [← hp, ← hq, ← hp', ← hq'] at *
      have bp0 : (0 : Int) ≤ (p : Int) := by omega
      have bp1 : (p : Int) ≤ 70 := by omega
      have bq0 : (0 : Int) ≤ (q : Int) := by omega
      have bq1 : (q : Int) ≤ 70 := by omega
      cases tells
      · simp only [Bool.false_eq_true, if_false] at hrm
        obtain ⟨ho, ⟨h1, h2, h3⟩ | ⟨h1, h2, h3⟩ | ⟨h0, h1, h2, h3⟩⟩ := hrm
        · exfalso; omega
        · subst h3
          replace ho := ho.symm
          subst ho
          replace h2 := h2.symm
          subst h2
          have hm1 : (p : Int) + (q : Int) - (p : Int) - (q : Int) = 0 := by omega
          have hz : ((p : Int) == 0) = false := by simp; omega
          have hz2 : ¬ (p = 0) := by omega
          obtain ⟨bx0, bx1, bxf, bxl⟩ := blk2 BX.out
          obtain ⟨bd0, bd1, bdf, bdl⟩ := blk2 BD.out
          go_wp2_with fail
          clear bx0 bx1 bxf bxl
          clear bd0 bd1 bdf bdl
          refine (wakes_any _).mono ?_
          rintro e v5 ⟨he, hb⟩
          subst he
          have hzv5 : U4.heap.size ≤ v5.heap.size := hb.size
          replace BX := hid (blk_below BX.out hb (blk_lt BX.out))
          replace BD := hid (blk_below BD.out hb (blk_lt BD.out))
          replace Z := hid (Z.out.trans (hb.mono Z.out.size))
          clear hb
          go_wp2
          go_ret
          exact ⟨rfl, Z.out⟩
        · exfalso; omega
      · simp only [if_true] at hrm
        obtain ⟨ho, ⟨h1, h2, h3⟩ | ⟨h1, h2, h3⟩ | ⟨h0, h1, h2, h3⟩⟩ := hrm
        · subst h3
          replace ho := ho.symm
          subst ho
          subst h2
          subst h1
          clear bq0 bq1
          have hm1 : (p : Int) - (p : Int) = 0 := by omega
          obtain ⟨bx0, bx1, bxf, bxl⟩ := blk2 BX.out
          obtain ⟨bd0, bd1, bdf, bdl⟩ := blk2 BD.out
          go_wp2_with fail
          clear bx0 bx1 bxf bxl
          clear bd0 bd1 bdf bdl
          refine (wakes_any _).mono ?_
          rintro e v5 ⟨he, hb⟩
          subst he
          have hzv5 : U4.heap.size ≤ v5.heap.size := hb.size
          replace BX := hid (blk_below BX.out hb (blk_lt BX.out))
          replace BD := hid (blk_below BD.out hb (blk_lt BD.out))
          replace Z := hid (Z.out.trans (hb.mono Z.out.size))
          clear hb
          go_wp2
          go_ret
          exact ⟨rfl, Z.out⟩
        · subst h3
          replace ho := ho.symm
          subst ho
          replace h2 := h2.symm
          subst h2
          have hm1 : (p : Int) + (q : Int) - (p : Int) - (q : Int) = 0 := by omega
          have hz : ((q : Int) == 0) = false := by simp; omega
          have hz2 : ¬ (q = 0) := by omega
          obtain ⟨bx0, bx1, bxf, bxl⟩ := blk2 BX.out
          obtain ⟨bd0, bd1, bdf, bdl⟩ := blk2 BD.out
          go_wp2_with fail
          clear bx0 bx1 bxf bxl
          clear bd0 bd1 bdf bdl
          refine (wakes_any _).mono ?_
          rintro e v5 ⟨he, hb⟩
          subst he
          have hzv5 : U4.heap.size ≤ v5.heap.size := hb.size
          replace BX := hid (blk_below BX.out hb (blk_lt BX.out))
          replace BD := hid (blk_below BD.out hb (blk_lt BD.out))
          replace Z := hid (Z.out.trans (hb.mono Z.out.size))
          clear hb
          go_wp2
          go_ret
          exact ⟨rfl, Z.out⟩
        · subst h3
          replace ho := ho.symm
          subst ho
          subst h2
          have hm1 : (p : Int) + ((q : Int) + 1) - (p : Int) - (q : Int) = 1 := by omega
          have hz : ((q : Int) == 0) = false := by simp; omega
          have hz2 : ¬ (q = 0) := by omega
          have hz3 : ¬ (60 ≤ q) := by omega
          have hz4 : decide ((60 : Int) ≤ (q : Int)) = false := by simp; omega
          obtain ⟨bx0, bx1, bxf, bxl⟩ := blk2 BX.out
          obtain ⟨bd0, bd1, bdf, bdl⟩ := blk2 BD.out
          go_wp2_with fail
          clear bx0 bx1 bxf bxl
          clear bd0 bd1 bdf bdl
          refine (wakes_any _).mono ?_
          rintro e v5 ⟨he, hb⟩
          subst he
          have hzv5 : U4.heap.size ≤ v5.heap.size := hb.size
          replace BX := hid (blk_below BX.out hb (blk_lt BX.out))
          replace BD := hid (blk_below BD.out hb (blk_lt BD.out))
          replace Z := hid (Z.out.trans (hb.mono Z.out.size))
          clear hb
          go_wp2
          go_ret
          exact ⟨rfl, Z.out⟩
end Go.Proofs.Ythnlppbfmmiioaa
