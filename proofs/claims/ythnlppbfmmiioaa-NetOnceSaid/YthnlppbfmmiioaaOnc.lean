/- The walk of NetOnce: what is on its way is taken, each once, in whatever order, and then nothing is left. -/
import Derived.Test.YthnlppbfmmiioaaOnc0
import Derived.Deep.RegionHeld3
import Derived.Deep.Cut
import Derived.Deep.CutRange
namespace Go.Proofs.Ythnlppbfmmiioaa
open Go.RowKit Go.Shelf

def encI (x : Int) : List Value := [.int .i64 x]
theorem once_told (m q : TellM) (L M : List SeenV) (t u : TellV) (b : Bool) (w : World) (hm : m.val L = t) (hq : q.val M = u) (hL : L.length ≤ 1000000) (hM : M.length ≤ 1000000) (hs : RowN w m.sv L) (ht : RowN w q.sv M) (hb : toldB t u = b) :
    Calls Try.prog 21 #[aggT m, aggT q] w fun e w' => e = .returned (.bool b) ∧ Below w.heap.size w w' := by
  rw [← hb, ← hm, ← hq]; exact told_any m q L M w hL hM hs ht

theorem int_eq {a b : Int} (h : a = b) : Value.int .i64 a = .int .i64 b := by rw [h]
/-- What holds of the world, held for the world by a new name. -/
theorem wp_at3 {P : Program} {s : Code} {K : Exit → Act → World → Prop} {a : Act} {w : World} {Q : World → Prop} (h : Q w) (k : ∀ W, Q W → Code.wp P s K a W) : Code.wp P s K a w := k w h
set_option maxHeartbeats 8000000 in
set_option maxRecDepth 100000 in
theorem once_any (va vt pv : Value) (n : NetV) (P : List Int) (w : World) (hn : NetIs w va vt n) (hp : RowOf 1 encI w pv P) :
    Calls Try.prog 4 #[netv va vt, pv] w fun e w' => e = .returned (.bool true) ∧ Below w.heap.size w w' := by
  obtain ⟨a0, c0, b0, d0, rfl, rfl⟩ := hn.shape
  obtain ⟨pa, pc, rfl, hp1, hp2, hp3, hpop⟩ := hp.open
  obtain ⟨U0, hU0⟩ : ∃ U, U = w.alloc (.cells #[.slice a0 n.asks.length c0, .slice b0 n.tells.length d0] 25) := ⟨_, rfl⟩
  have hZ : Below w.heap.size w U0 := by rw [hU0]; exact (Below.refl _ _).alloc (Nat.le_refl _) _
  have hzU0 : w.heap.size + 1 = U0.heap.size := by rw [hU0]; simp
  have Z := hid hZ
  have BX := hid (show U0.heap[w.heap.size]? = some (.cells #[.slice a0 n.asks.length c0, .slice b0 n.tells.length d0] 25) by rw [hU0]; exact heap_new _ _)
  have NI := hid hn
  have HPOP := hid hpop
  obtain ⟨i0, hi, hi0, hi1, hi2⟩ := info_parts infoA
  have HI := hid hi
  have HI0 := hid hi0
  have HI1 := hid hi1
  have HI2 := hid hi2
  obtain ⟨j0, hj, hj0, hj1, hj2⟩ := info_parts infoT
  have HJ := hid hj
  have HJ0 := hid hj0
  have HJ1 := hid hj1
  have HJ2 := hid hj2
  clear hn hp hpop hZ hp1 hp2 hp3 hi hi0 hi1 hi2 hj hj0 hj1 hj2
  unfold netv
  go_enter Try.func4, Try.ntmps4
  go_upto_region 1 with fail
  rw [← hU0]
  clear hU0
  obtain ⟨bx0, bx1, bxf, bxl⟩ := blk2 BX.out
  go_wp2_with fail
  clear bx0 bx1 bxf bxl
  refine (great_any _ _ n _ (NI.out.below Z.out)).mono ?_
  rintro e v1 ⟨gb, he, hg, hb⟩
  subst he
  have hzv1 : U0.heap.size ≤ v1.heap.size := hb.size
  replace BX := hid (blk_below BX.out hb (blk_lt BX.out))
  replace Z := hid (Z.out.trans (hb.mono Z.out.size))
  clear hb
  cases gb with
  | true =>
    clear hg
    obtain ⟨bx0, bx1, bxf, bxl⟩ := blk2 BX.out
    go_wp2_with fail
    clear bx0 bx1 bxf bxl
    refine (wakes_any _).mono ?_
    rintro e x1 ⟨he, hb⟩
    subst he
    have hzx1 : v1.heap.size ≤ x1.heap.size := hb.size
    replace BX := hid (blk_below BX.out hb (blk_lt BX.out))
    replace Z := hid (Z.out.trans (hb.mono Z.out.size))
    clear hb
    go_wp2
    go_ret
    exact ⟨rfl, Z.out⟩
  | false =>
    have hs := hg rfl
    have HS := hid hs
    have KN := hid hs.ok
    have sa70 : n.asks.length ≤ 70 := hs.1
    have st70 : n.tells.length ≤ 70 := hs.2.1
    clear hg hs
    obtain ⟨bx0, bx1, bxf, bxl⟩ := blk2 BX.out
    go_wp2_with fail
    clear bx0 bx1 bxf bxl
    refine (own_any _ _ n _ (NI.out.below Z.out) KN.out).mono ?_
    rintro e v2 ⟨ua, ut, he, hn, hb⟩
    obtain ⟨a1, c1, b1, d1, rfl, rfl⟩ := hn.shape
    simp only [netv] at he
    subst he
    have N1 := hid hn
    clear hn
    have hzv2 : v1.heap.size ≤ v2.heap.size := hb.size
    replace BX := hid (blk_below BX.out hb (blk_lt BX.out))
    replace Z := hid (Z.out.trans (hb.mono Z.out.size))
    clear hb
    go_upto_region 4 with fail
    obtain ⟨U1, hU1⟩ : ∃ U, U = (v2.alloc (.cells #[.slice a1 n.asks.length c1, .slice b1 n.tells.length d1] 25)) := ⟨_, rfl⟩
    have hb : Below v2.heap.size v2 U1 := by rw [hU1]; exact ((Below.refl _ _).alloc (by simp) _)
    have hsU1 : v2.heap.size + 1 = U1.heap.size := by rw [hU1]; simp
    have hzU1 : v2.heap.size ≤ U1.heap.size := hb.size
    replace BX := hid (blk_below BX.out hb (blk_lt BX.out))
    replace N1 := hid (NetOwn.below N1.out hb)
    replace Z := hid (Z.out.trans (hb.mono Z.out.size))
    clear hb
    have BO := hid (show U1.heap[v2.heap.size]? = some (.cells #[.slice a1 n.asks.length c1, .slice b1 n.tells.length d1] 25) by rw [hU1]; exact heap_new _ _)
    rw [← hU1]
    clear hU1
    obtain ⟨bo, hbo⟩ : ∃ bo, bo = v2.heap.size := ⟨_, rfl⟩
    rw [← hbo] at BO ⊢
    have hb1 : bo < U1.heap.size := by omega
    have hb2 : w.heap.size < bo := by rw [hbo]; have := blk_lt BX.out; have := Z.out.size; omega
    clear hbo
    go_wp2_with fail
    have hst : OnceR n U1.heap.size bo 0 (.slice none 0 0) (.slice none 0 0) U1 := ⟨n, [], [], [], a1, c1, b1, d1, OnceP.start n, BO.out, N1.out.is, Owns.nil _ _, Owns.nil _ _, TellsOwn.nil _ _⟩
    have HST := hid hst
    clear hst N1 BO
    go_loopw [6, 7, 8] (fun va vt i wr => ∃ k : Nat, i = .int .i64 k ∧ k ≤ n.asks.length + n.tells.length ∧ OnceR n U1.heap.size bo k va vt wr ∧ wr.heap[w.heap.size]? = some (.cells #[.slice a0 n.asks.length c0, .slice b0 n.tells.length d0] 25) ∧ Below w.heap.size w wr ∧ U1.heap.size ≤ wr.heap.size) (fun _ _ i _ => n.asks.length + n.tells.length - (intOf i).toNat)
    case atStart => exact ⟨0, rfl, Nat.zero_le _, HST.out, BX.out, Z.out, Nat.le_refl _⟩
    case round =>
      clear HST BX Z
      obtain ⟨k, rfl, hk, ⟨O, TA, TM, TT, a2, c2, b2, d2, hP, hbo, hno, hoa, hot, hts⟩, hbx, hz, hsz⟩ := hrel
      obtain ⟨wa, rfl⟩ : ∃ wo : World, wo = wr := ⟨_, rfl⟩
      have BX := hid hbx
      have BO := hid hbo
      have NO := hid hno
      have OA := hid hoa
      have OT := hid hot
      have TS := hid hts
      have HP := hid hP
      have Z := hid hz
      have KO := hid (hP.ok HS.out).1
      have ta70 := (hP.ok HS.out).2.1
      have tt70 := (hP.ok HS.out).2.2.1
      have HGA := hid (Owns.block hoa)
      have HGT := hid (Owns.block hot)
      have HTM := hid hts.1
      obtain ⟨va, vn, vc, rfl⟩ := hoa.shape
      obtain ⟨ta, tn, tc, rfl⟩ := hot.shape
      clear hP hbo hno hoa hot hts hbx hz
      have q1 : (n.asks.length : Int) ≤ 70 := by omega
      have q2 : (n.tells.length : Int) ≤ 70 := by omega
      by_cases hlt : k < n.asks.length + n.tells.length
      · have hki : (k : Int) < (n.asks.length : Int) + (n.tells.length : Int) := by omega
        obtain ⟨bx0, bx1, bxf, bxl⟩ := blk2 BX.out
        go_upto_if 42 with (fail)
        clear bx0 bx1 bxf bxl
        go_cut [9] from 27 to 85 (fun s9 wx => ∃ at' : Int, s9 = .int .i64 at' ∧ wa = wx)
        case first =>
          by_cases hpk : k < P.length
          · have hpi : (k : Int) < (P.length : Int) := by omega
            obtain ⟨pb, poff, rfl, hpb, hpr⟩ := HPOP.out (by omega)
            obtain ⟨px, hpx⟩ := get_lt hpk
            have g0 : wa.cell? ⟨pb, poff + k, none⟩ = some (.int .i64 px) := by
              have := (hpr.below Z.out hpb) k px hpx 0 _ rfl
              simpa using this
            have hpz : pb < wa.heap.size := by have := Z.out.size; omega
            clear hpr hpx
            go_wp2_with fail
            go_meet
            exact ⟨_, rfl, rfl⟩
          · have hpi : ¬ ((k : Int) < (P.length : Int)) := by omega
            go_wp2_with fail
            go_meet
            exact ⟨_, rfl, rfl⟩
        case rest =>
          obtain ⟨at', rfl, rfl⟩ := hcut
          obtain ⟨bo0, bo1, bof, bol⟩ := blk2 BO.out
          go_wp2_with fail
          clear bo0 bo1 bof bol
          refine (ask_takes _ _ _ _ O _ _ NO.out KO.out).mono ?_
          rintro e v3 ⟨a3, c3, b3, d3, x, A, ok, rfl, hnA, hb, hA1, hok, hA2, hA3, hA4⟩
          have NP := hid hnA
          have HA1 := hid hA1
          have HA2 := hid hA2
          have HA3 := hid hA3
          have KA := hid hA4
          have HOK := hid hok
          clear hnA hA1 hA2 hA3 hA4 hok
          have hzv3 : wa.heap.size ≤ v3.heap.size := hb.size
          replace BX := hid (blk_below BX.out hb (blk_lt BX.out))
          replace BO := hid (blk_below BO.out hb (blk_lt BO.out))
          replace NO := hid (NetIs.below NO.out hb)
          replace OA := hid (Owns.below OA.out hb)
          replace OT := hid (Owns.below OT.out hb)
          replace TS := hid (TellsOwn.below TS.out hb)
          replace Z := hid (Z.out.trans (hb.mono Z.out.size))
          clear hb
          clear NO
          go_upto_region 13 with fail
          obtain ⟨U3, hU3⟩ : ∃ U, U = ((v3.alloc (.cells #[.slice a3 A.asks.length c3, .slice b3 A.tells.length d3] 25)).alloc (.cells #[.int .u8 x.kind, .int .i64 x.call, .int .i64 x.a, .int .i64 x.b, .int .i64 x.c, .int .i64 x.d] 27)) := ⟨_, rfl⟩
          have hb : Below v3.heap.size v3 U3 := by rw [hU3]; exact (((Below.refl _ _).alloc (by simp) _).alloc (by simp) _)
          have hsU3 : v3.heap.size + 2 = U3.heap.size := by rw [hU3]; simp
          have hzU3 : v3.heap.size ≤ U3.heap.size := hb.size
          replace BX := hid (blk_below BX.out hb (blk_lt BX.out))
          replace BO := hid (blk_below BO.out hb (blk_lt BO.out))
          replace OA := hid (Owns.below OA.out hb)
          replace OT := hid (Owns.below OT.out hb)
          replace TS := hid (TellsOwn.below TS.out hb)
          replace NP := hid (NetOwn.below NP.out hb)
          replace Z := hid (Z.out.trans (hb.mono Z.out.size))
          clear hb
          have BP := hid (show U3.heap[v3.heap.size]? = some (.cells #[.slice a3 A.asks.length c3, .slice b3 A.tells.length d3] 25) by rw [hU3]; exact blk_alloc (heap_new _ _) _)
          have BA := hid (show U3.heap[v3.heap.size + 1]? = some (.cells #[.int .u8 x.kind, .int .i64 x.call, .int .i64 x.a, .int .i64 x.b, .int .i64 x.c, .int .i64 x.d] 27) by rw [hU3]; exact heap_new2 _ _ _)
          rw [← hU3]
          clear hU3
          by_cases hoa : 0 < O.asks.length
          · obtain rfl : ok = true := by rw [HOK.out]; simpa using hoa
            clear HOK
            have hal : Below U3.heap.size U3 (U3.alloc (.cells #[.int .u8 x.kind, .int .i64 x.call, .int .i64 x.a, .int .i64 x.b, .int .i64 x.c, .int .i64 x.d] 27)) := (Below.refl _ _).alloc (Nat.le_refl _) _
            have OB := hid (Owns.below OA.out hal)
            have e1 : TA.length + 1 ≤ maxLen := by unfold maxLen;  omega
            have e2 : (TA.length + 1) * 48 ≤ 140737488355328 := by  omega
            have e3 : U1.heap.size ≤ (U3.alloc (.cells #[.int .u8 x.kind, .int .i64 x.call, .int .i64 x.a, .int .i64 x.b, .int .i64 x.c, .int .i64 x.d] 27)).heap.size := by simp; omega
            have HAL := hid hal
            clear hal
            obtain ⟨ba0, ba1, ba2, ba3, ba4, ba5, baf, bal⟩ := blk6 BA.out
            go_upto_region 15 with (at_builtin; refine append_one' rfl _ _ 22 rfl U1.heap.size 27 i0 _ 48 Try.underlying22 HI.out HI0.out HI1.out HI2.out rfl (by decide) encA_len _ TA rfl OB.out ⟨U3.heap.size, 0, none⟩ x rfl (encA_one x) (new_cells' U3 #[.int .u8 x.kind, .int .i64 x.call, .int .i64 x.a, .int .i64 x.b, .int .i64 x.c, .int .i64 x.d] _) e1 e2 e3 ?_; intro lv w4 hown hbw hgr; obtain ⟨la, ln, lc, rfl⟩ := hown.shape; have HOW := hid hown; have HGR := hid hgr; clear hown hbw hgr)
            clear ba0 ba1 ba2 ba3 ba4 ba5 baf bal
            clear e1 e2 e3
            replace BX := hid (blk_grown (blk_alloc BX.out _) HGR.out (fun e => by have := HGA.out _ e.symm; omega))
            replace BO := hid (blk_grown (blk_alloc BO.out _) HGR.out (fun e => by have := HGA.out _ e.symm; omega))
            replace BP := hid (blk_grown (blk_alloc BP.out _) HGR.out (fun e => by have := HGA.out _ e.symm; omega))
            replace BA := hid (blk_grown (blk_alloc BA.out _) HGR.out (fun e => by have := HGA.out _ e.symm; omega))
            replace OT := hid (Owns.apart (Owns.below OT.out HAL.out) HGR.out (fun r e => by obtain ⟨c, hc⟩ := Owns.typed OA.out r e; exact ⟨c, blk_alloc hc _⟩) (by decide))
            replace TS := hid (TellsOwn.apart (TellsOwn.below TS.out HAL.out) HGR.out (fun r e => by obtain ⟨c, hc⟩ := Owns.typed OA.out r e; exact ⟨c, blk_alloc hc _⟩) (by decide))
            replace NP := hid (netown_grown (NetOwn.below NP.out HAL.out) HGR.out (fun r e => by have := HGA.out r e; omega))
            replace Z := hid ((Z.out.alloc (by have := Z.out.size; omega) _).grown HGR.out (by have := Z.out.size; simp; omega) (fun r e => by have := HGA.out r e; omega))
            have hzw4 : U3.heap.size + 1 ≤ w4.heap.size := by have := HGR.out.size; simpa using this
            replace OA := hid HOW.out
            clear HOW HGR HAL OB
            obtain ⟨bp0, bp1, bpf, bpl⟩ := blk2 BP.out
            go_wp2_with fail
            clear bp0 bp1 bpf bpl
            refine (tell_takes _ _ _ _ A _ _ NP.out.is KA.out).mono ?_
            rintro e v5 ⟨a5, c5, b5, d5, sa, sc, t, Q, ok2, rfl, hnQ, hso, hb, hQ1, hok2, hQ2, hQ3⟩
            have NQ := hid hnQ
            have SO := hid hso
            have HQ1 := hid hQ1
            have HQ2 := hid hQ2
            have HQ3 := hid hQ3
            have HOK2 := hid hok2
            clear hnQ hso hQ1 hQ2 hQ3 hok2
            have hzv5 : w4.heap.size ≤ v5.heap.size := hb.size
            replace BX := hid (blk_below BX.out hb (blk_lt BX.out))
            replace BO := hid (blk_below BO.out hb (blk_lt BO.out))
            replace BP := hid (blk_below BP.out hb (blk_lt BP.out))
            replace BA := hid (blk_below BA.out hb (blk_lt BA.out))
            replace OA := hid (Owns.below OA.out hb)
            replace OT := hid (Owns.below OT.out hb)
            replace TS := hid (TellsOwn.below TS.out hb)
            replace NP := hid (NetOwn.below NP.out hb)
            replace Z := hid (Z.out.trans (hb.mono Z.out.size))
            clear hb
            clear NP
            go_upto_region 16 with fail
            obtain ⟨U6, hU6⟩ : ∃ U, U = ((v5.alloc (.cells #[.slice a5 Q.asks.length c5, .slice b5 Q.tells.length d5] 25)).alloc (.cells #[.int .i64 t.call, .int .u8 t.kind, .int .u8 t.code, .int .i64 t.id, .slice sa t.seen.length sc, .bool t.more] 30)) := ⟨_, rfl⟩
            have hb : Below v5.heap.size v5 U6 := by rw [hU6]; exact (((Below.refl _ _).alloc (by simp) _).alloc (by simp) _)
            have hsU6 : v5.heap.size + 2 = U6.heap.size := by rw [hU6]; simp
            have hzU6 : v5.heap.size ≤ U6.heap.size := hb.size
            replace BX := hid (blk_below BX.out hb (blk_lt BX.out))
            replace BO := hid (blk_below BO.out hb (blk_lt BO.out))
            replace BP := hid (blk_below BP.out hb (blk_lt BP.out))
            replace BA := hid (blk_below BA.out hb (blk_lt BA.out))
            replace OA := hid (Owns.below OA.out hb)
            replace OT := hid (Owns.below OT.out hb)
            replace TS := hid (TellsOwn.below TS.out hb)
            replace NQ := hid (NetOwn.below NQ.out hb)
            replace SO := hid (Owns.below SO.out hb)
            replace Z := hid (Z.out.trans (hb.mono Z.out.size))
            clear hb
            have BQ := hid (show U6.heap[v5.heap.size]? = some (.cells #[.slice a5 Q.asks.length c5, .slice b5 Q.tells.length d5] 25) by rw [hU6]; exact blk_alloc (heap_new _ _) _)
            have BU := hid (show U6.heap[v5.heap.size + 1]? = some (.cells #[.int .i64 t.call, .int .u8 t.kind, .int .u8 t.code, .int .i64 t.id, .slice sa t.seen.length sc, .bool t.more] 30) by rw [hU6]; exact heap_new2 _ _ _)
            rw [← hU6]
            clear hU6
            rw [HA1.out] at HOK2 HQ2 HQ3
            by_cases hot : 0 < O.tells.length
            · obtain rfl : ok2 = true := by rw [HOK2.out]; simpa using hot
              clear HOK2
              have hal : Below U6.heap.size U6 (U6.alloc (.cells #[.int .i64 t.call, .int .u8 t.kind, .int .u8 t.code, .int .i64 t.id, .slice sa t.seen.length sc, .bool t.more] 30)) := (Below.refl _ _).alloc (Nat.le_refl _) _
              have OB := hid (Owns.below OT.out hal)
              have e1 : TM.length + 1 ≤ maxLen := by unfold maxLen; have := HTM.out; omega
              have e2 : (TM.length + 1) * 56 ≤ 140737488355328 := by have := HTM.out; omega
              have e3 : U1.heap.size ≤ (U6.alloc (.cells #[.int .i64 t.call, .int .u8 t.kind, .int .u8 t.code, .int .i64 t.id, .slice sa t.seen.length sc, .bool t.more] 30)).heap.size := by simp; omega
              have HAL := hid hal
              clear hal
              obtain ⟨bu0, bu1, bu2, bu3, bu4, bu5, buf, bul⟩ := blk6 BU.out
              go_upto_region 18 with (at_builtin; refine append_one' rfl _ _ 23 rfl U1.heap.size 30 j0 _ 56 Try.underlying23 HJ.out HJ0.out HJ1.out HJ2.out rfl (by decide) encT_len _ TM rfl OB.out ⟨U6.heap.size, 0, none⟩ ⟨t.call, t.kind, t.code, t.id, .slice sa t.seen.length sc, t.more⟩ rfl (encT_one ⟨t.call, t.kind, t.code, t.id, .slice sa t.seen.length sc, t.more⟩ rfl) (new_cells' U6 #[.int .i64 t.call, .int .u8 t.kind, .int .u8 t.code, .int .i64 t.id, .slice sa t.seen.length sc, .bool t.more] _) e1 e2 e3 ?_; intro lv w5 hown hbw hgr; obtain ⟨ma, mn, mc, rfl⟩ := hown.shape; have HOW := hid hown; have HGR := hid hgr; clear hown hbw hgr)
              clear bu0 bu1 bu2 bu3 bu4 bu5 buf bul
              clear e1 e2 e3
              replace BX := hid (blk_grown (blk_alloc BX.out _) HGR.out (fun e => by have := HGT.out _ e.symm; omega))
              replace BO := hid (blk_grown (blk_alloc BO.out _) HGR.out (fun e => by have := HGT.out _ e.symm; omega))
              replace BP := hid (blk_grown (blk_alloc BP.out _) HGR.out (fun e => by have := HGT.out _ e.symm; omega))
              replace BA := hid (blk_grown (blk_alloc BA.out _) HGR.out (fun e => by have := HGT.out _ e.symm; omega))
              replace BQ := hid (blk_grown (blk_alloc BQ.out _) HGR.out (fun e => by have := HGT.out _ e.symm; omega))
              replace BU := hid (blk_grown (blk_alloc BU.out _) HGR.out (fun e => by have := HGT.out _ e.symm; omega))
              replace OA := hid (Owns.apart (Owns.below OA.out HAL.out) HGR.out (fun r e => by obtain ⟨c, hc⟩ := Owns.typed OT.out r e; exact ⟨c, blk_alloc hc _⟩) (by decide))
              replace TS := hid (TellsOwn.apart (TellsOwn.below TS.out HAL.out) HGR.out (fun r e => by obtain ⟨c, hc⟩ := Owns.typed OT.out r e; exact ⟨c, blk_alloc hc _⟩) (by decide))
              replace NQ := hid (netown_grown (NetOwn.below NQ.out HAL.out) HGR.out (fun r e => by have := HGT.out r e; omega))
              have SO2 := hid (Owns.apart (Owns.below SO.out HAL.out) HGR.out (fun r e => by obtain ⟨c, hc⟩ := Owns.typed OT.out r e; exact ⟨c, blk_alloc hc _⟩) (by decide))
              replace Z := hid ((Z.out.alloc (by have := Z.out.size; omega) _).grown HGR.out (by have := Z.out.size; simp; omega) (fun r e => by have := HGT.out r e; omega))
              have hzw5 : U6.heap.size + 1 ≤ w5.heap.size := by have := HGR.out.size; simpa using this
              replace TS := hid (TellsOwn.snoc TS.out (show TellOwn w5 U1.heap.size ⟨t.call, t.kind, t.code, t.id, .slice sa t.seen.length sc, t.more⟩ t from ⟨Owns.mono SO2.out (by omega), rfl⟩))
              replace OT := hid HOW.out
              clear HOW HGR HAL OB
              obtain ⟨bo0, bo1, bof, bol⟩ := blk2 BO.out
              obtain ⟨bq0, bq1, bqf, bql⟩ := blk2 BQ.out
              go_wp2
              go_roundw
              case rel =>
                have hstep : OnceP n Q (TA ++ [x]) (TT ++ [t]) (k + 1) := OnceP.step (x := x) (t := t) HP.out HA1.out HQ1.out (.inl ⟨hoa, HA2.out hoa, rfl⟩) (.inl ⟨by rw [HA1.out]; exact hot, by rw [HA1.out]; exact HQ2.out hot, rfl⟩)
                refine ⟨k + 1, by go_num, by omega, ⟨Q, TA ++ [x], TM ++ [⟨t.call, t.kind, t.code, t.id, .slice sa t.seen.length sc, t.more⟩], TT ++ [t], a5, c5, b5, d5, hstep, blk_set (blk_set BO.out 0 _) 1 _, ?_, ?_, ?_, ?_⟩, blk_far (blk_far BX.out (by omega) _) (by omega) _, ?_, by simp [World.setCell]; omega⟩
                · exact ((NQ.out.other (p := ⟨bo, 0, none⟩) (by dsimp only; omega) _).other (p := ⟨bo, 1, none⟩) (by dsimp only; omega) _).is
                · exact Owns.other (Owns.other OA.out (p := ⟨bo, 0, none⟩) hb1 _) (p := ⟨bo, 1, none⟩) hb1 _
                · exact Owns.other (Owns.other OT.out (p := ⟨bo, 0, none⟩) hb1 _) (p := ⟨bo, 1, none⟩) hb1 _
                · exact TellsOwn.other (TellsOwn.other TS.out (p := ⟨bo, 0, none⟩) hb1 _) (p := ⟨bo, 1, none⟩) hb1 _
                · exact (Z.out.setCell (p := ⟨bo, 0, none⟩) (by dsimp only; omega) _).setCell (p := ⟨bo, 1, none⟩) (by dsimp only; omega) _
              case measure => simp [intOf]; omega
            · obtain rfl : ok2 = false := by rw [HOK2.out]; simpa using hot
              clear HOK2
              go_upto_region 18 with fail
              obtain ⟨bo0, bo1, bof, bol⟩ := blk2 BO.out
              obtain ⟨bq0, bq1, bqf, bql⟩ := blk2 BQ.out
              go_wp2
              go_roundw
              case rel =>
                have hstep : OnceP n Q (TA ++ [x]) (TT) (k + 1) := OnceP.step (x := x) (t := t) HP.out HA1.out HQ1.out (.inl ⟨hoa, HA2.out hoa, rfl⟩) (.inr ⟨by rw [HA1.out]; omega, by rw [HA1.out]; exact HQ3.out (by omega), rfl⟩)
                refine ⟨k + 1, by go_num, by omega, ⟨Q, TA ++ [x], TM, TT, a5, c5, b5, d5, hstep, blk_set (blk_set BO.out 0 _) 1 _, ?_, ?_, ?_, ?_⟩, blk_far (blk_far BX.out (by omega) _) (by omega) _, ?_, by simp [World.setCell]; omega⟩
                · exact ((NQ.out.other (p := ⟨bo, 0, none⟩) (by dsimp only; omega) _).other (p := ⟨bo, 1, none⟩) (by dsimp only; omega) _).is
                · exact Owns.other (Owns.other OA.out (p := ⟨bo, 0, none⟩) hb1 _) (p := ⟨bo, 1, none⟩) hb1 _
                · exact Owns.other (Owns.other OT.out (p := ⟨bo, 0, none⟩) hb1 _) (p := ⟨bo, 1, none⟩) hb1 _
                · exact TellsOwn.other (TellsOwn.other TS.out (p := ⟨bo, 0, none⟩) hb1 _) (p := ⟨bo, 1, none⟩) hb1 _
                · exact (Z.out.setCell (p := ⟨bo, 0, none⟩) (by dsimp only; omega) _).setCell (p := ⟨bo, 1, none⟩) (by dsimp only; omega) _
              case measure => simp [intOf]; omega
          · obtain rfl : ok = false := by rw [HOK.out]; simpa using hoa
            clear HOK
            go_upto_region 15 with fail
            obtain ⟨bp0, bp1, bpf, bpl⟩ := blk2 BP.out
            go_wp2_with fail
            clear bp0 bp1 bpf bpl
            refine (tell_takes _ _ _ _ A _ _ NP.out.is KA.out).mono ?_
            rintro e v5 ⟨a5, c5, b5, d5, sa, sc, t, Q, ok2, rfl, hnQ, hso, hb, hQ1, hok2, hQ2, hQ3⟩
            have NQ := hid hnQ
            have SO := hid hso
            have HQ1 := hid hQ1
            have HQ2 := hid hQ2
            have HQ3 := hid hQ3
            have HOK2 := hid hok2
            clear hnQ hso hQ1 hQ2 hQ3 hok2
            have hzv5 : U3.heap.size ≤ v5.heap.size := hb.size
            replace BX := hid (blk_below BX.out hb (blk_lt BX.out))
            replace BO := hid (blk_below BO.out hb (blk_lt BO.out))
            replace BP := hid (blk_below BP.out hb (blk_lt BP.out))
            replace BA := hid (blk_below BA.out hb (blk_lt BA.out))
            replace OA := hid (Owns.below OA.out hb)
            replace OT := hid (Owns.below OT.out hb)
            replace TS := hid (TellsOwn.below TS.out hb)
            replace NP := hid (NetOwn.below NP.out hb)
            replace Z := hid (Z.out.trans (hb.mono Z.out.size))
            clear hb
            clear NP
            go_upto_region 16 with fail
            obtain ⟨U6, hU6⟩ : ∃ U, U = ((v5.alloc (.cells #[.slice a5 Q.asks.length c5, .slice b5 Q.tells.length d5] 25)).alloc (.cells #[.int .i64 t.call, .int .u8 t.kind, .int .u8 t.code, .int .i64 t.id, .slice sa t.seen.length sc, .bool t.more] 30)) := ⟨_, rfl⟩
            have hb : Below v5.heap.size v5 U6 := by rw [hU6]; exact (((Below.refl _ _).alloc (by simp) _).alloc (by simp) _)
            have hsU6 : v5.heap.size + 2 = U6.heap.size := by rw [hU6]; simp
            have hzU6 : v5.heap.size ≤ U6.heap.size := hb.size
            replace BX := hid (blk_below BX.out hb (blk_lt BX.out))
            replace BO := hid (blk_below BO.out hb (blk_lt BO.out))
            replace BP := hid (blk_below BP.out hb (blk_lt BP.out))
            replace BA := hid (blk_below BA.out hb (blk_lt BA.out))
            replace OA := hid (Owns.below OA.out hb)
            replace OT := hid (Owns.below OT.out hb)
            replace TS := hid (TellsOwn.below TS.out hb)
            replace NQ := hid (NetOwn.below NQ.out hb)
            replace SO := hid (Owns.below SO.out hb)
            replace Z := hid (Z.out.trans (hb.mono Z.out.size))
            clear hb
            have BQ := hid (show U6.heap[v5.heap.size]? = some (.cells #[.slice a5 Q.asks.length c5, .slice b5 Q.tells.length d5] 25) by rw [hU6]; exact blk_alloc (heap_new _ _) _)
            have BU := hid (show U6.heap[v5.heap.size + 1]? = some (.cells #[.int .i64 t.call, .int .u8 t.kind, .int .u8 t.code, .int .i64 t.id, .slice sa t.seen.length sc, .bool t.more] 30) by rw [hU6]; exact heap_new2 _ _ _)
            rw [← hU6]
            clear hU6
            rw [HA1.out] at HOK2 HQ2 HQ3
            by_cases hot : 0 < O.tells.length
            · obtain rfl : ok2 = true := by rw [HOK2.out]; simpa using hot
              clear HOK2
              have hal : Below U6.heap.size U6 (U6.alloc (.cells #[.int .i64 t.call, .int .u8 t.kind, .int .u8 t.code, .int .i64 t.id, .slice sa t.seen.length sc, .bool t.more] 30)) := (Below.refl _ _).alloc (Nat.le_refl _) _
              have OB := hid (Owns.below OT.out hal)
              have e1 : TM.length + 1 ≤ maxLen := by unfold maxLen; have := HTM.out; omega
              have e2 : (TM.length + 1) * 56 ≤ 140737488355328 := by have := HTM.out; omega
              have e3 : U1.heap.size ≤ (U6.alloc (.cells #[.int .i64 t.call, .int .u8 t.kind, .int .u8 t.code, .int .i64 t.id, .slice sa t.seen.length sc, .bool t.more] 30)).heap.size := by simp; omega
              have HAL := hid hal
              clear hal
              obtain ⟨bu0, bu1, bu2, bu3, bu4, bu5, buf, bul⟩ := blk6 BU.out
              go_upto_region 18 with (at_builtin; refine append_one' rfl _ _ 23 rfl U1.heap.size 30 j0 _ 56 Try.underlying23 HJ.out HJ0.out HJ1.out HJ2.out rfl (by decide) encT_len _ TM rfl OB.out ⟨U6.heap.size, 0, none⟩ ⟨t.call, t.kind, t.code, t.id, .slice sa t.seen.length sc, t.more⟩ rfl (encT_one ⟨t.call, t.kind, t.code, t.id, .slice sa t.seen.length sc, t.more⟩ rfl) (new_cells' U6 #[.int .i64 t.call, .int .u8 t.kind, .int .u8 t.code, .int .i64 t.id, .slice sa t.seen.length sc, .bool t.more] _) e1 e2 e3 ?_; intro lv w5 hown hbw hgr; obtain ⟨ma, mn, mc, rfl⟩ := hown.shape; have HOW := hid hown; have HGR := hid hgr; clear hown hbw hgr)
              clear bu0 bu1 bu2 bu3 bu4 bu5 buf bul
              clear e1 e2 e3
              replace BX := hid (blk_grown (blk_alloc BX.out _) HGR.out (fun e => by have := HGT.out _ e.symm; omega))
              replace BO := hid (blk_grown (blk_alloc BO.out _) HGR.out (fun e => by have := HGT.out _ e.symm; omega))
              replace BP := hid (blk_grown (blk_alloc BP.out _) HGR.out (fun e => by have := HGT.out _ e.symm; omega))
              replace BA := hid (blk_grown (blk_alloc BA.out _) HGR.out (fun e => by have := HGT.out _ e.symm; omega))
              replace BQ := hid (blk_grown (blk_alloc BQ.out _) HGR.out (fun e => by have := HGT.out _ e.symm; omega))
              replace BU := hid (blk_grown (blk_alloc BU.out _) HGR.out (fun e => by have := HGT.out _ e.symm; omega))
              replace OA := hid (Owns.apart (Owns.below OA.out HAL.out) HGR.out (fun r e => by obtain ⟨c, hc⟩ := Owns.typed OT.out r e; exact ⟨c, blk_alloc hc _⟩) (by decide))
              replace TS := hid (TellsOwn.apart (TellsOwn.below TS.out HAL.out) HGR.out (fun r e => by obtain ⟨c, hc⟩ := Owns.typed OT.out r e; exact ⟨c, blk_alloc hc _⟩) (by decide))
              replace NQ := hid (netown_grown (NetOwn.below NQ.out HAL.out) HGR.out (fun r e => by have := HGT.out r e; omega))
              have SO2 := hid (Owns.apart (Owns.below SO.out HAL.out) HGR.out (fun r e => by obtain ⟨c, hc⟩ := Owns.typed OT.out r e; exact ⟨c, blk_alloc hc _⟩) (by decide))
              replace Z := hid ((Z.out.alloc (by have := Z.out.size; omega) _).grown HGR.out (by have := Z.out.size; simp; omega) (fun r e => by have := HGT.out r e; omega))
              have hzw5 : U6.heap.size + 1 ≤ w5.heap.size := by have := HGR.out.size; simpa using this
              replace TS := hid (TellsOwn.snoc TS.out (show TellOwn w5 U1.heap.size ⟨t.call, t.kind, t.code, t.id, .slice sa t.seen.length sc, t.more⟩ t from ⟨Owns.mono SO2.out (by omega), rfl⟩))
              replace OT := hid HOW.out
              clear HOW HGR HAL OB
              obtain ⟨bo0, bo1, bof, bol⟩ := blk2 BO.out
              obtain ⟨bq0, bq1, bqf, bql⟩ := blk2 BQ.out
              go_wp2
              go_roundw
              case rel =>
                have hstep : OnceP n Q (TA) (TT ++ [t]) (k + 1) := OnceP.step (x := x) (t := t) HP.out HA1.out HQ1.out (.inr ⟨by omega, HA3.out (by omega), rfl⟩) (.inl ⟨by rw [HA1.out]; exact hot, by rw [HA1.out]; exact HQ2.out hot, rfl⟩)
                refine ⟨k + 1, by go_num, by omega, ⟨Q, TA, TM ++ [⟨t.call, t.kind, t.code, t.id, .slice sa t.seen.length sc, t.more⟩], TT ++ [t], a5, c5, b5, d5, hstep, blk_set (blk_set BO.out 0 _) 1 _, ?_, ?_, ?_, ?_⟩, blk_far (blk_far BX.out (by omega) _) (by omega) _, ?_, by simp [World.setCell]; omega⟩
                · exact ((NQ.out.other (p := ⟨bo, 0, none⟩) (by dsimp only; omega) _).other (p := ⟨bo, 1, none⟩) (by dsimp only; omega) _).is
                · exact Owns.other (Owns.other OA.out (p := ⟨bo, 0, none⟩) hb1 _) (p := ⟨bo, 1, none⟩) hb1 _
                · exact Owns.other (Owns.other OT.out (p := ⟨bo, 0, none⟩) hb1 _) (p := ⟨bo, 1, none⟩) hb1 _
                · exact TellsOwn.other (TellsOwn.other TS.out (p := ⟨bo, 0, none⟩) hb1 _) (p := ⟨bo, 1, none⟩) hb1 _
                · exact (Z.out.setCell (p := ⟨bo, 0, none⟩) (by dsimp only; omega) _).setCell (p := ⟨bo, 1, none⟩) (by dsimp only; omega) _
              case measure => simp [intOf]; omega
            · obtain rfl : ok2 = false := by rw [HOK2.out]; simpa using hot
              clear HOK2
              go_upto_region 18 with fail
              obtain ⟨bo0, bo1, bof, bol⟩ := blk2 BO.out
              obtain ⟨bq0, bq1, bqf, bql⟩ := blk2 BQ.out
              go_wp2
              go_roundw
              case rel =>
                have hstep : OnceP n Q (TA) (TT) (k + 1) := OnceP.step (x := x) (t := t) HP.out HA1.out HQ1.out (.inr ⟨by omega, HA3.out (by omega), rfl⟩) (.inr ⟨by rw [HA1.out]; omega, by rw [HA1.out]; exact HQ3.out (by omega), rfl⟩)
                refine ⟨k + 1, by go_num, by omega, ⟨Q, TA, TM, TT, a5, c5, b5, d5, hstep, blk_set (blk_set BO.out 0 _) 1 _, ?_, ?_, ?_, ?_⟩, blk_far (blk_far BX.out (by omega) _) (by omega) _, ?_, by simp [World.setCell]; omega⟩
                · exact ((NQ.out.other (p := ⟨bo, 0, none⟩) (by dsimp only; omega) _).other (p := ⟨bo, 1, none⟩) (by dsimp only; omega) _).is
                · exact Owns.other (Owns.other OA.out (p := ⟨bo, 0, none⟩) hb1 _) (p := ⟨bo, 1, none⟩) hb1 _
                · exact Owns.other (Owns.other OT.out (p := ⟨bo, 0, none⟩) hb1 _) (p := ⟨bo, 1, none⟩) hb1 _
                · exact TellsOwn.other (TellsOwn.other TS.out (p := ⟨bo, 0, none⟩) hb1 _) (p := ⟨bo, 1, none⟩) hb1 _
                · exact (Z.out.setCell (p := ⟨bo, 0, none⟩) (by dsimp only; omega) _).setCell (p := ⟨bo, 1, none⟩) (by dsimp only; omega) _
              case measure => simp [intOf]; omega
      · have hki : ¬ ((k : Int) < (n.asks.length : Int) + (n.tells.length : Int)) := by omega
        obtain ⟨p1, p2, p3, p4⟩ := HP.out
        have z1 : O.asks.length = 0 := by omega
        have z2 : O.tells.length = 0 := by omega
        have hpa : TA.Perm n.asks := by rw [List.eq_nil_of_length_eq_zero z1, List.append_nil] at p1; exact p1
        have hpt : TT.Perm n.tells := by rw [List.eq_nil_of_length_eq_zero z2, List.append_nil] at p2; exact p2
        have HPA := hid hpa
        have HPT := hid hpt
        have HLA := hid hpa.length_eq
        have HLT := hid hpt.length_eq
        have SM := hid (HP.out.ok HS.out).2.2.2
        have SN := hid (HS.out.2.2)
        rw [z1, z2] at BO
        have l1 : vn = n.asks.length := (owns_len OA.out).trans hpa.length_eq
        have l2 : tn = n.tells.length := (owns_len OT.out).trans (HTM.out.trans hpt.length_eq)
        subst l1
        subst l2
        obtain ⟨ms, hrt, hms⟩ := (NI.out.below Z.out).2
        obtain ⟨_, _, hde, _, _, _, hop1⟩ := (NI.out.below Z.out).1.open
        cases hde
        obtain ⟨_, _, hde, _, _, _, hop2⟩ := (OA.out.row encA_len (by decide)).open
        simp only [Value.slice.injEq] at hde
        obtain ⟨rfl, -, rfl⟩ := hde
        obtain ⟨_, _, hde, _, _, _, hop3⟩ := hrt.open
        simp only [Value.slice.injEq] at hde
        obtain ⟨rfl, -, rfl⟩ := hde
        obtain ⟨_, _, hde, _, _, _, hop4⟩ := (OT.out.row encT_len (by decide)).open
        simp only [Value.slice.injEq] at hde
        obtain ⟨rfl, -, rfl⟩ := hde
        have HN1 := hid hop1
        have HA1 := hid hop2
        have HN2 := hid hop3
        have HA2 := hid hop4
        have HMS := hid hms
        have HTS := hid TS.out.is
        have HLM := hid hms.1
        have ZA := hid Z.out
        have BX0 := hid BX.out
        clear hki p1 p2 p3 p4 z1 z2 hpa hpt hop1 hop2 hop3 hop4 hrt hms NO OA OT TS HP KO ta70 tt70 HGA HGT
        have hki : ¬ ((k : Int) < (n.asks.length : Int) + (n.tells.length : Int)) := by omega
        obtain ⟨bx0, bx1, bxf, bxl⟩ := blk2 BX.out
        obtain ⟨bo0, bo1, bof, bol⟩ := blk2 BO.out
        go_wp2_with fail
        clear bx0 bx1 bxf bxl
        clear bo0 bo1 bof bol
        clear hki BO
        go_loopw [16] (fun i wr => ∃ m : Nat, i = .int .i64 m ∧ m ≤ n.asks.length ∧ Below wa.heap.size wa wr) (fun i _ => n.asks.length - (intOf i).toNat)
        case atStart => exact ⟨0, rfl, Nat.zero_le _, Below.refl _ _⟩
        case round =>
          obtain ⟨m, rfl, hm, hB⟩ := hrel
          obtain ⟨wb, rfl⟩ : ∃ wo : World, wo = wr := ⟨_, rfl⟩
          have HB := hid hB
          obtain ⟨bx0, bx1, bxf, bxl⟩ := blk2 (blk_below BX0.out hB (blk_lt BX0.out))
          clear hB BX Z
          by_cases hlt2 : m < n.asks.length
          · obtain ⟨x, hx⟩ := get_lt hlt2
            have HX := hid hx
            clear hx
            go_wp2_with fail
            clear bx0 bx1 bxf bxl
            go_loopw [17, 18] (fun kk i wr => ∃ j : Nat, i = .int .i64 j ∧ j ≤ n.asks.length ∧ kk = .int .i64 (dif (fun y => sameA y x) n.asks TA j) ∧ Below wa.heap.size wa wr) (fun _ i _ => n.asks.length - (intOf i).toNat)
            case atStart => exact ⟨0, rfl, Nat.zero_le _, by rw [dif_zero], HB.out⟩
            case round =>
              obtain ⟨j, rfl, hj, rfl, hB⟩ := hrel
              have HB2 := hid hB
              have hbd := dif_bd (fun y => sameA y x) n.asks TA j sa70 (by rw [HLA.out]; exact sa70)
              have BX1 := hid (blk_below BX0.out hB (blk_lt BX0.out))
              clear hB
              by_cases hlt3 : j < n.asks.length
              · obtain ⟨y, hy⟩ := get_lt hlt3
                obtain ⟨z, hz⟩ := get_lt (l := TA) (k := j) (by rw [HLA.out]; exact hlt3)
                obtain ⟨b1, o1, rfl, hb1, hr1⟩ := HN1.out (by omega)
                obtain ⟨b2, o2, rfl, hb2, hr2⟩ := HA1.out (by rw [HLA.out]; omega)
                have HST := hid (dif_step (p := fun y => sameA y x) hy hz)
                generalize dif (fun y => sameA y x) n.asks TA j = D at *
                have hd1 : -70 ≤ D := hbd.1
                have hd2 : D ≤ 70 := hbd.2
                have hjL : (j : Int) < (n.asks.length : Int) := by omega
                have hmL : (m : Int) < (n.asks.length : Int) := by omega
                have HY := hid hy
                have HZ := hid hz
                have HR1 := hid hr1
                have HR2 := hid hr2
                clear hy hz hr1 hr2 hbd
                obtain ⟨t1, ht1⟩ : ∃ t, sameA y x = t := ⟨_, rfl⟩
                obtain ⟨t2, ht2⟩ : ∃ t, sameA z x = t := ⟨_, rfl⟩
                have T1 := hid ht1
                have T2 := hid ht2
                have e1 := eqlA_run y x
                have e2 := eqlA_run z x
                rw [ht1] at e1
                rw [ht2] at e2
                clear ht1 ht2
                have hzb1 : b1 < wr.heap.size := by have := HB2.out.size; omega
                have hzb2 : b2 < wr.heap.size := by have := HB2.out.size; omega
                obtain ⟨bx0, bx1, bxf, bxl⟩ := blk2 BX1.out
                obtain ⟨g0, g1, g2, g3, g4, g5⟩ := rowA (RowAt.below HR1.out HB2.out hb1) HY.out
                obtain ⟨h0, h1, h2, h3, h4, h5⟩ := rowA (RowAt.below HR1.out HB2.out hb1) HX.out
                cases t1 <;> cases t2
                · go_wp2
                  go_quiet (fail)
                  obtain ⟨f0, f1, f2, f3, f4, f5⟩ := rowA (RowAt.below HR2.out HB2.out hb2) HZ.out
                  go_wp2
                  go_quiet (fail)
                  go_wp2
                  go_roundw
                  case rel => exact ⟨j + 1, by go_num, by omega, int_eq (by have := HST.out; rw [T1.out, T2.out] at this; simp at this; omega), below_drewN HB2.out _⟩
                  case measure => simp [intOf]; omega
                · go_wp2
                  go_quiet (fail)
                  obtain ⟨f0, f1, f2, f3, f4, f5⟩ := rowA (RowAt.below HR2.out HB2.out hb2) HZ.out
                  go_wp2
                  go_quiet (fail)
                  go_wp2
                  go_roundw
                  case rel => exact ⟨j + 1, by go_num, by omega, int_eq (by have := HST.out; rw [T1.out, T2.out] at this; simp at this; omega), below_drewN HB2.out _⟩
                  case measure => simp [intOf]; omega
                · go_wp2
                  go_quiet (fail)
                  obtain ⟨f0, f1, f2, f3, f4, f5⟩ := rowA (RowAt.below HR2.out HB2.out hb2) HZ.out
                  go_wp2
                  go_quiet (fail)
                  go_wp2
                  go_roundw
                  case rel => exact ⟨j + 1, by go_num, by omega, int_eq (by have := HST.out; rw [T1.out, T2.out] at this; simp at this; omega), below_drewN HB2.out _⟩
                  case measure => simp [intOf]; omega
                · go_wp2
                  go_quiet (fail)
                  obtain ⟨f0, f1, f2, f3, f4, f5⟩ := rowA (RowAt.below HR2.out HB2.out hb2) HZ.out
                  go_wp2
                  go_quiet (fail)
                  go_wp2
                  go_roundw
                  case rel => exact ⟨j + 1, by go_num, by omega, int_eq (by have := HST.out; rw [T1.out, T2.out] at this; simp at this; omega), below_drewN HB2.out _⟩
                  case measure => simp [intOf]; omega
              · obtain rfl : j = n.asks.length := by omega
                rw [dif_end _ HPA.out]
                obtain ⟨bx0, bx1, bxf, bxl⟩ := blk2 BX1.out
                go_wp2
                go_roundw
                case rel => exact ⟨m + 1, by go_num, by omega, HB2.out⟩
                case measure => simp [intOf]; omega
          · obtain rfl : m = n.asks.length := by omega
            go_wp2_with fail
            clear bx0 bx1 bxf bxl
            go_loopw [19] (fun i wr => ∃ m : Nat, i = .int .i64 m ∧ m ≤ n.tells.length ∧ Below wa.heap.size wa wr) (fun i _ => n.tells.length - (intOf i).toNat)
            case atStart => exact ⟨0, rfl, Nat.zero_le _, HB.out⟩
            case round =>
              clear HB
              obtain ⟨m, rfl, hm, hB⟩ := hrel
              obtain ⟨wc, rfl⟩ : ∃ wo : World, wo = wr := ⟨_, rfl⟩
              have HB := hid hB
              obtain ⟨bx0, bx1, bxf, bxl⟩ := blk2 (blk_below BX0.out hB (blk_lt BX0.out))
              clear hB
              by_cases hlt2 : m < n.tells.length
              · obtain ⟨x, hx⟩ := get_lt hlt2
                have HX := hid hx
                clear hx
                go_wp2_with fail
                clear bx0 bx1 bxf bxl
                go_loopw [20, 21] (fun kk i wr => ∃ j : Nat, i = .int .i64 j ∧ j ≤ n.tells.length ∧ kk = .int .i64 (dif (fun y => toldB y x) n.tells TT j) ∧ Below wa.heap.size wa wr) (fun _ i _ => n.tells.length - (intOf i).toNat)
                case atStart => exact ⟨0, rfl, Nat.zero_le _, by rw [dif_zero], HB.out⟩
                case round =>
                  obtain ⟨j, rfl, hj, rfl, hB⟩ := hrel
                  have HB2 := hid hB
                  have hbd := dif_bd (fun y => toldB y x) n.tells TT j st70 (by rw [HLT.out]; exact st70)
                  have BX1 := hid (blk_below BX0.out hB (blk_lt BX0.out))
                  clear hB
                  by_cases hlt3 : j < n.tells.length
                  · have hlm := HLM.out
                    have hlt := HLT.out
                    have hls := HTS.out.1
                    obtain ⟨y, hy⟩ := get_lt (l := ms) (k := j) (by omega)
                    obtain ⟨x', hx'⟩ := get_lt (l := ms) (k := m) (by omega)
                    obtain ⟨z, hz⟩ := get_lt (l := TM) (k := j) (by omega)
                    obtain ⟨ty, hty, hry, hvy⟩ := tell_at HMS.out hy
                    obtain ⟨tx, htx, hrx, hvx⟩ := tell_at HMS.out hx'
                    obtain ⟨tz, htz, hrz, hvz⟩ := tell_at HTS.out hz
                    obtain rfl : tx = x := by have := HX.out; rw [htx] at this; cases this; rfl
                    obtain ⟨b1, o1, rfl, hb1, hr1⟩ := HN2.out (by omega)
                    obtain ⟨b2, o2, rfl, hb2, hr2⟩ := HA2.out (by omega)
                    have HST := hid (dif_step (p := fun y => toldB y tx) hty htz)
                    generalize dif (fun y => toldB y tx) n.tells TT j = D at *
                    have hd1 : -70 ≤ D := hbd.1
                    have hd2 : D ≤ 70 := hbd.2
                    have hjL : (j : Int) < (n.tells.length : Int) := by omega
                    have hmL : (m : Int) < (n.tells.length : Int) := by omega
                    have hsy := SN.out ty (mem_get hty)
                    have hsx := SN.out tx (mem_get htx)
                    have hsz := SM.out tz (mem_get htz)
                    obtain ⟨ya, yc, hys⟩ := shape_row hry
                    obtain ⟨xa, xc, hxs⟩ := shape_row hrx
                    obtain ⟨za, zc, hzs⟩ := shape_row hrz
                    obtain ⟨ycall, ykind, ycode, yid, ysv, ymore⟩ := y
                    obtain ⟨xcall, xkind, xcode, xid, xsv, xmore⟩ := x'
                    obtain ⟨zcall, zkind, zcode, zid, zsv, zmore⟩ := z
                    simp only at hys hxs hzs
                    subst hys
                    subst hxs
                    subst hzs
                    obtain ⟨g0, g1, g2, g3, g4, g5⟩ := rowT (RowAt.below hr1 HB2.out hb1) hy
                    obtain ⟨h0, h1, h2, h3, h4, h5⟩ := rowT (RowAt.below hr1 HB2.out hb1) hx'
                    obtain ⟨f0, f1, f2, f3, f4, f5⟩ := rowT (RowAt.below hr2 HB2.out hb2) hz
                    have RY := hid (RowOf.below hry HB2.out)
                    have RX := hid (RowOf.below hrx HB2.out)
                    have RZ := hid (RowOf.below hrz HB2.out)
                    have HVY := hid hvy
                    have HVX := hid hvx
                    have HVZ := hid hvz
                    have GG0 := hid g0
                    have GG1 := hid g1
                    have GG2 := hid g2
                    have GG3 := hid g3
                    have GG4 := hid g4
                    have GG5 := hid g5
                    have HH0 := hid h0
                    have HH1 := hid h1
                    have HH2 := hid h2
                    have HH3 := hid h3
                    have HH4 := hid h4
                    have HH5 := hid h5
                    have FF0 := hid f0
                    have FF1 := hid f1
                    have FF2 := hid f2
                    have FF3 := hid f3
                    have FF4 := hid f4
                    have FF5 := hid f5
                    clear hy hx' hz hty htx htz hry hrx hrz hvy hvx hvz hr1 hr2 hlm hlt hls hbd g0 g1 g2 g3 g4 g5 h0 h1 h2 h3 h4 h5 f0 f1 f2 f3 f4 f5
                    obtain ⟨t1, ht1⟩ : ∃ t, toldB ty tx = t := ⟨_, rfl⟩
                    obtain ⟨t2, ht2⟩ : ∃ t, toldB tz tx = t := ⟨_, rfl⟩
                    have T1 := hid ht1
                    have T2 := hid ht2
                    clear ht1 ht2
                    obtain ⟨bx0, bx1, bxf, bxl⟩ := blk2 BX1.out
                    go_upto_region 43 with fail
                    clear bx0 bx1 bxf bxl
                    obtain ⟨Ev, hEvdef⟩ : ∃ Ev : World → Prop, Ev = fun W => W.heap[w.heap.size]? = some (.cells #[.slice a0 n.asks.length c0, .slice (some ⟨b1, o1, none⟩) n.tells.length d0] 25) ∧ RowN W (.slice ya ty.seen.length yc) ty.seen ∧ RowN W (.slice xa tx.seen.length xc) tx.seen ∧ RowN W (.slice za tz.seen.length zc) tz.seen ∧ W.cell? ⟨b1, o1 + j * 6, none⟩ = some (.int .i64 ycall) ∧ W.cell? ⟨b1, o1 + j * 6 + 1, none⟩ = some (.int .u8 ykind) ∧ W.cell? ⟨b1, o1 + j * 6 + 2, none⟩ = some (.int .u8 ycode) ∧ W.cell? ⟨b1, o1 + j * 6 + 3, none⟩ = some (.int .i64 yid) ∧ W.cell? ⟨b1, o1 + j * 6 + 4, none⟩ = some (.slice ya ty.seen.length yc) ∧ W.cell? ⟨b1, o1 + j * 6 + 5, none⟩ = some (.bool ymore) ∧ W.cell? ⟨b1, o1 + m * 6, none⟩ = some (.int .i64 xcall) ∧ W.cell? ⟨b1, o1 + m * 6 + 1, none⟩ = some (.int .u8 xkind) ∧ W.cell? ⟨b1, o1 + m * 6 + 2, none⟩ = some (.int .u8 xcode) ∧ W.cell? ⟨b1, o1 + m * 6 + 3, none⟩ = some (.int .i64 xid) ∧ W.cell? ⟨b1, o1 + m * 6 + 4, none⟩ = some (.slice xa tx.seen.length xc) ∧ W.cell? ⟨b1, o1 + m * 6 + 5, none⟩ = some (.bool xmore) ∧ W.cell? ⟨b2, o2 + j * 6, none⟩ = some (.int .i64 zcall) ∧ W.cell? ⟨b2, o2 + j * 6 + 1, none⟩ = some (.int .u8 zkind) ∧ W.cell? ⟨b2, o2 + j * 6 + 2, none⟩ = some (.int .u8 zcode) ∧ W.cell? ⟨b2, o2 + j * 6 + 3, none⟩ = some (.int .i64 zid) ∧ W.cell? ⟨b2, o2 + j * 6 + 4, none⟩ = some (.slice za tz.seen.length zc) ∧ W.cell? ⟨b2, o2 + j * 6 + 5, none⟩ = some (.bool zmore) ∧ Below wa.heap.size wa W := ⟨_, rfl⟩
                    have hEv0 : Ev wr := by rw [hEvdef]; exact ⟨BX1.out, RY.out, RX.out, RZ.out, GG0.out, GG1.out, GG2.out, GG3.out, GG4.out, GG5.out, HH0.out, HH1.out, HH2.out, HH3.out, HH4.out, HH5.out, FF0.out, FF1.out, FF2.out, FF3.out, FF4.out, FF5.out, HB2.out⟩
                    have hEvk : ∀ W W', Below W.heap.size W W' → Ev W → Ev W' := by
                      rw [hEvdef]
                      rintro W W' hb ⟨q0, q1, q2, q3, q4, q5, q6, q7, q8, q9, q10, q11, q12, q13, q14, q15, q16, q17, q18, q19, q20, q21, q22⟩
                      exact ⟨blk_below q0 hb (blk_lt q0), RowOf.below q1 hb, RowOf.below q2 hb, RowOf.below q3 hb, cell_below q4 hb, cell_below q5 hb, cell_below q6 hb, cell_below q7 hb, cell_below q8 hb, cell_below q9 hb, cell_below q10 hb, cell_below q11 hb, cell_below q12 hb, cell_below q13 hb, cell_below q14 hb, cell_below q15 hb, cell_below q16 hb, cell_below q17 hb, cell_below q18 hb, cell_below q19 hb, cell_below q20 hb, cell_below q21 hb, q22.trans (hb.mono q22.size)⟩
                    have hEv_RY : ∀ W, Ev W → RowN W (.slice ya ty.seen.length yc) ty.seen := by
                      rw [hEvdef]
                      rintro W ⟨q0, q1, q2, q3, q4, q5, q6, q7, q8, q9, q10, q11, q12, q13, q14, q15, q16, q17, q18, q19, q20, q21, q22⟩
                      exact q1
                    have hEv_RX : ∀ W, Ev W → RowN W (.slice xa tx.seen.length xc) tx.seen := by
                      rw [hEvdef]
                      rintro W ⟨q0, q1, q2, q3, q4, q5, q6, q7, q8, q9, q10, q11, q12, q13, q14, q15, q16, q17, q18, q19, q20, q21, q22⟩
                      exact q2
                    have hEv_RZ : ∀ W, Ev W → RowN W (.slice za tz.seen.length zc) tz.seen := by
                      rw [hEvdef]
                      rintro W ⟨q0, q1, q2, q3, q4, q5, q6, q7, q8, q9, q10, q11, q12, q13, q14, q15, q16, q17, q18, q19, q20, q21, q22⟩
                      exact q3
                    have hEv_HB2 : ∀ W, Ev W → Below wa.heap.size wa W := by
                      rw [hEvdef]
                      rintro W ⟨q0, q1, q2, q3, q4, q5, q6, q7, q8, q9, q10, q11, q12, q13, q14, q15, q16, q17, q18, q19, q20, q21, q22⟩
                      exact q22
                    have hEv_BX1 : ∀ W, Ev W → W.heap[w.heap.size]? = some (.cells #[.slice a0 n.asks.length c0, .slice (some ⟨b1, o1, none⟩) n.tells.length d0] 25) := by
                      rw [hEvdef]
                      rintro W ⟨q0, q1, q2, q3, q4, q5, q6, q7, q8, q9, q10, q11, q12, q13, q14, q15, q16, q17, q18, q19, q20, q21, q22⟩
                      exact q0
                    have hEvc : ∀ W, Ev W → W.cell? ⟨w.heap.size, 0, none⟩ = some (.slice a0 n.asks.length c0) ∧ W.cell? ⟨w.heap.size, 1, none⟩ = some (.slice (some ⟨b1, o1, none⟩) n.tells.length d0) ∧ W.cell? ⟨b1, o1 + j * 6, none⟩ = some (.int .i64 ycall) ∧ W.cell? ⟨b1, o1 + j * 6 + 1, none⟩ = some (.int .u8 ykind) ∧ W.cell? ⟨b1, o1 + j * 6 + 2, none⟩ = some (.int .u8 ycode) ∧ W.cell? ⟨b1, o1 + j * 6 + 3, none⟩ = some (.int .i64 yid) ∧ W.cell? ⟨b1, o1 + j * 6 + 4, none⟩ = some (.slice ya ty.seen.length yc) ∧ W.cell? ⟨b1, o1 + j * 6 + 5, none⟩ = some (.bool ymore) ∧ W.cell? ⟨b1, o1 + m * 6, none⟩ = some (.int .i64 xcall) ∧ W.cell? ⟨b1, o1 + m * 6 + 1, none⟩ = some (.int .u8 xkind) ∧ W.cell? ⟨b1, o1 + m * 6 + 2, none⟩ = some (.int .u8 xcode) ∧ W.cell? ⟨b1, o1 + m * 6 + 3, none⟩ = some (.int .i64 xid) ∧ W.cell? ⟨b1, o1 + m * 6 + 4, none⟩ = some (.slice xa tx.seen.length xc) ∧ W.cell? ⟨b1, o1 + m * 6 + 5, none⟩ = some (.bool xmore) ∧ W.cell? ⟨b2, o2 + j * 6, none⟩ = some (.int .i64 zcall) ∧ W.cell? ⟨b2, o2 + j * 6 + 1, none⟩ = some (.int .u8 zkind) ∧ W.cell? ⟨b2, o2 + j * 6 + 2, none⟩ = some (.int .u8 zcode) ∧ W.cell? ⟨b2, o2 + j * 6 + 3, none⟩ = some (.int .i64 zid) ∧ W.cell? ⟨b2, o2 + j * 6 + 4, none⟩ = some (.slice za tz.seen.length zc) ∧ W.cell? ⟨b2, o2 + j * 6 + 5, none⟩ = some (.bool zmore) := by
                      rw [hEvdef]
                      rintro W ⟨q0, q1, q2, q3, q4, q5, q6, q7, q8, q9, q10, q11, q12, q13, q14, q15, q16, q17, q18, q19, q20, q21, q22⟩
                      exact ⟨blk_cell q0 0, blk_cell q0 1, q4, q5, q6, q7, q8, q9, q10, q11, q12, q13, q14, q15, q16, q17, q18, q19, q20, q21⟩
                    have hEvs : ∀ W W', Below W.heap.size W W' → Ev W → Ev W' ∧ W'.cell? ⟨w.heap.size, 0, none⟩ = some (.slice a0 n.asks.length c0) ∧ W'.cell? ⟨w.heap.size, 1, none⟩ = some (.slice (some ⟨b1, o1, none⟩) n.tells.length d0) ∧ W'.cell? ⟨b1, o1 + j * 6, none⟩ = some (.int .i64 ycall) ∧ W'.cell? ⟨b1, o1 + j * 6 + 1, none⟩ = some (.int .u8 ykind) ∧ W'.cell? ⟨b1, o1 + j * 6 + 2, none⟩ = some (.int .u8 ycode) ∧ W'.cell? ⟨b1, o1 + j * 6 + 3, none⟩ = some (.int .i64 yid) ∧ W'.cell? ⟨b1, o1 + j * 6 + 4, none⟩ = some (.slice ya ty.seen.length yc) ∧ W'.cell? ⟨b1, o1 + j * 6 + 5, none⟩ = some (.bool ymore) ∧ W'.cell? ⟨b1, o1 + m * 6, none⟩ = some (.int .i64 xcall) ∧ W'.cell? ⟨b1, o1 + m * 6 + 1, none⟩ = some (.int .u8 xkind) ∧ W'.cell? ⟨b1, o1 + m * 6 + 2, none⟩ = some (.int .u8 xcode) ∧ W'.cell? ⟨b1, o1 + m * 6 + 3, none⟩ = some (.int .i64 xid) ∧ W'.cell? ⟨b1, o1 + m * 6 + 4, none⟩ = some (.slice xa tx.seen.length xc) ∧ W'.cell? ⟨b1, o1 + m * 6 + 5, none⟩ = some (.bool xmore) ∧ W'.cell? ⟨b2, o2 + j * 6, none⟩ = some (.int .i64 zcall) ∧ W'.cell? ⟨b2, o2 + j * 6 + 1, none⟩ = some (.int .u8 zkind) ∧ W'.cell? ⟨b2, o2 + j * 6 + 2, none⟩ = some (.int .u8 zcode) ∧ W'.cell? ⟨b2, o2 + j * 6 + 3, none⟩ = some (.int .i64 zid) ∧ W'.cell? ⟨b2, o2 + j * 6 + 4, none⟩ = some (.slice za tz.seen.length zc) ∧ W'.cell? ⟨b2, o2 + j * 6 + 5, none⟩ = some (.bool zmore) := fun W W' hb h => ⟨hEvk W W' hb h, hEvc W' (hEvk W W' hb h)⟩
                    have Ev_0 := hid hEv0
                    have Ev_S := hid hEvs
                    have Ev_K := hid hEvk
                    have Ev_C := hid hEvc
                    have Ev_RY := hid hEv_RY
                    have Ev_RX := hid hEv_RX
                    have Ev_RZ := hid hEv_RZ
                    have Ev_HB2 := hid hEv_HB2
                    have Ev_BX1 := hid hEv_BX1
                    have Ev_D := hid hEvdef
                    clear BX1 RY RX RZ GG0 GG1 GG2 GG3 GG4 GG5 HH0 HH1 HH2 HH3 HH4 HH5 FF0 FF1 FF2 FF3 FF4 FF5 HB2 hEv0 hEvk hEvs hEvdef hEv_RY hEv_RX hEv_RZ hEv_HB2 hEv_BX1 hEvc
                    have hq1 : n.tells.length ≤ 1000000 := by omega
                    cases t1 <;> cases t2
                    · go_region_held3 (fun W => Ev W ∧ W.cell? ⟨w.heap.size, 0, none⟩ = some (.slice a0 n.asks.length c0) ∧ W.cell? ⟨w.heap.size, 1, none⟩ = some (.slice (some ⟨b1, o1, none⟩) n.tells.length d0) ∧ W.cell? ⟨b1, o1 + j * 6, none⟩ = some (.int .i64 ycall) ∧ W.cell? ⟨b1, o1 + j * 6 + 1, none⟩ = some (.int .u8 ykind) ∧ W.cell? ⟨b1, o1 + j * 6 + 2, none⟩ = some (.int .u8 ycode) ∧ W.cell? ⟨b1, o1 + j * 6 + 3, none⟩ = some (.int .i64 yid) ∧ W.cell? ⟨b1, o1 + j * 6 + 4, none⟩ = some (.slice ya ty.seen.length yc) ∧ W.cell? ⟨b1, o1 + j * 6 + 5, none⟩ = some (.bool ymore) ∧ W.cell? ⟨b1, o1 + m * 6, none⟩ = some (.int .i64 xcall) ∧ W.cell? ⟨b1, o1 + m * 6 + 1, none⟩ = some (.int .u8 xkind) ∧ W.cell? ⟨b1, o1 + m * 6 + 2, none⟩ = some (.int .u8 xcode) ∧ W.cell? ⟨b1, o1 + m * 6 + 3, none⟩ = some (.int .i64 xid) ∧ W.cell? ⟨b1, o1 + m * 6 + 4, none⟩ = some (.slice xa tx.seen.length xc) ∧ W.cell? ⟨b1, o1 + m * 6 + 5, none⟩ = some (.bool xmore) ∧ W.cell? ⟨b2, o2 + j * 6, none⟩ = some (.int .i64 zcall) ∧ W.cell? ⟨b2, o2 + j * 6 + 1, none⟩ = some (.int .u8 zkind) ∧ W.cell? ⟨b2, o2 + j * 6 + 2, none⟩ = some (.int .u8 zcode) ∧ W.cell? ⟨b2, o2 + j * 6 + 3, none⟩ = some (.int .i64 zid) ∧ W.cell? ⟨b2, o2 + j * 6 + 4, none⟩ = some (.slice za tz.seen.length zc) ∧ W.cell? ⟨b2, o2 + j * 6 + 5, none⟩ = some (.bool zmore)) (first | exact Ev_S.out _ _ (below_drewN (Below.refl _ _) 1) Ev_0.out | (go_split_ands; exact Ev_S.out _ _ (below_drewN (Below.refl _ _) 1) (by assumption)) | (go_split_ands; exact Ev_S.out _ _ hbt (by assumption))) ((go_at_call 21; go_split_ands; refine (once_told ⟨ycall, ykind, ycode, yid, .slice ya ty.seen.length yc, ymore⟩ ⟨xcall, xkind, xcode, xid, .slice xa tx.seen.length xc, xmore⟩ ty.seen tx.seen ty tx false _ HVY.out HVX.out (by omega) (by omega) (Ev_RY.out _ (by assumption)) (Ev_RX.out _ (by assumption)) T1.out).mono ?_; rintro e x1 ⟨rfl, hbt⟩))
                      go_split_ands
                      have hV : Ev x1 := by assumption
                      go_upto_region 45 with fail
                      clear Ev_0
                      have Ev_0 := hid hV
                      go_region_held3 (fun W => Ev W ∧ W.cell? ⟨w.heap.size, 0, none⟩ = some (.slice a0 n.asks.length c0) ∧ W.cell? ⟨w.heap.size, 1, none⟩ = some (.slice (some ⟨b1, o1, none⟩) n.tells.length d0) ∧ W.cell? ⟨b1, o1 + j * 6, none⟩ = some (.int .i64 ycall) ∧ W.cell? ⟨b1, o1 + j * 6 + 1, none⟩ = some (.int .u8 ykind) ∧ W.cell? ⟨b1, o1 + j * 6 + 2, none⟩ = some (.int .u8 ycode) ∧ W.cell? ⟨b1, o1 + j * 6 + 3, none⟩ = some (.int .i64 yid) ∧ W.cell? ⟨b1, o1 + j * 6 + 4, none⟩ = some (.slice ya ty.seen.length yc) ∧ W.cell? ⟨b1, o1 + j * 6 + 5, none⟩ = some (.bool ymore) ∧ W.cell? ⟨b1, o1 + m * 6, none⟩ = some (.int .i64 xcall) ∧ W.cell? ⟨b1, o1 + m * 6 + 1, none⟩ = some (.int .u8 xkind) ∧ W.cell? ⟨b1, o1 + m * 6 + 2, none⟩ = some (.int .u8 xcode) ∧ W.cell? ⟨b1, o1 + m * 6 + 3, none⟩ = some (.int .i64 xid) ∧ W.cell? ⟨b1, o1 + m * 6 + 4, none⟩ = some (.slice xa tx.seen.length xc) ∧ W.cell? ⟨b1, o1 + m * 6 + 5, none⟩ = some (.bool xmore) ∧ W.cell? ⟨b2, o2 + j * 6, none⟩ = some (.int .i64 zcall) ∧ W.cell? ⟨b2, o2 + j * 6 + 1, none⟩ = some (.int .u8 zkind) ∧ W.cell? ⟨b2, o2 + j * 6 + 2, none⟩ = some (.int .u8 zcode) ∧ W.cell? ⟨b2, o2 + j * 6 + 3, none⟩ = some (.int .i64 zid) ∧ W.cell? ⟨b2, o2 + j * 6 + 4, none⟩ = some (.slice za tz.seen.length zc) ∧ W.cell? ⟨b2, o2 + j * 6 + 5, none⟩ = some (.bool zmore)) (first | exact Ev_S.out _ _ (below_drewN (Below.refl _ _) 1) Ev_0.out | (go_split_ands; exact Ev_S.out _ _ (below_drewN (Below.refl _ _) 1) (by assumption)) | (go_split_ands; exact Ev_S.out _ _ hbu (by assumption))) ((go_at_call 21; go_split_ands; refine (once_told ⟨zcall, zkind, zcode, zid, .slice za tz.seen.length zc, zmore⟩ ⟨xcall, xkind, xcode, xid, .slice xa tx.seen.length xc, xmore⟩ tz.seen tx.seen tz tx false _ HVZ.out HVX.out (by omega) (by omega) (Ev_RZ.out _ (by assumption)) (Ev_RX.out _ (by assumption)) T2.out).mono ?_; rintro e x2 ⟨rfl, hbu⟩))
                      go_split_ands
                      have hV2 : Ev x2 := by assumption
                      have HV2 := hid hV2
                      clear hV2
                      go_upto_region 42 with fail
                      go_wp2
                      go_roundw
                      case rel =>
                        exact ⟨j + 1, by go_num, by omega, int_eq (by have := HST.out; rw [T1.out, T2.out] at this; simp at this; omega), Ev_HB2.out _ HV2.out⟩
                      case measure => simp [intOf]; omega
                    · go_region_held3 (fun W => Ev W ∧ W.cell? ⟨w.heap.size, 0, none⟩ = some (.slice a0 n.asks.length c0) ∧ W.cell? ⟨w.heap.size, 1, none⟩ = some (.slice (some ⟨b1, o1, none⟩) n.tells.length d0) ∧ W.cell? ⟨b1, o1 + j * 6, none⟩ = some (.int .i64 ycall) ∧ W.cell? ⟨b1, o1 + j * 6 + 1, none⟩ = some (.int .u8 ykind) ∧ W.cell? ⟨b1, o1 + j * 6 + 2, none⟩ = some (.int .u8 ycode) ∧ W.cell? ⟨b1, o1 + j * 6 + 3, none⟩ = some (.int .i64 yid) ∧ W.cell? ⟨b1, o1 + j * 6 + 4, none⟩ = some (.slice ya ty.seen.length yc) ∧ W.cell? ⟨b1, o1 + j * 6 + 5, none⟩ = some (.bool ymore) ∧ W.cell? ⟨b1, o1 + m * 6, none⟩ = some (.int .i64 xcall) ∧ W.cell? ⟨b1, o1 + m * 6 + 1, none⟩ = some (.int .u8 xkind) ∧ W.cell? ⟨b1, o1 + m * 6 + 2, none⟩ = some (.int .u8 xcode) ∧ W.cell? ⟨b1, o1 + m * 6 + 3, none⟩ = some (.int .i64 xid) ∧ W.cell? ⟨b1, o1 + m * 6 + 4, none⟩ = some (.slice xa tx.seen.length xc) ∧ W.cell? ⟨b1, o1 + m * 6 + 5, none⟩ = some (.bool xmore) ∧ W.cell? ⟨b2, o2 + j * 6, none⟩ = some (.int .i64 zcall) ∧ W.cell? ⟨b2, o2 + j * 6 + 1, none⟩ = some (.int .u8 zkind) ∧ W.cell? ⟨b2, o2 + j * 6 + 2, none⟩ = some (.int .u8 zcode) ∧ W.cell? ⟨b2, o2 + j * 6 + 3, none⟩ = some (.int .i64 zid) ∧ W.cell? ⟨b2, o2 + j * 6 + 4, none⟩ = some (.slice za tz.seen.length zc) ∧ W.cell? ⟨b2, o2 + j * 6 + 5, none⟩ = some (.bool zmore)) (first | exact Ev_S.out _ _ (below_drewN (Below.refl _ _) 1) Ev_0.out | (go_split_ands; exact Ev_S.out _ _ (below_drewN (Below.refl _ _) 1) (by assumption)) | (go_split_ands; exact Ev_S.out _ _ hbt (by assumption))) ((go_at_call 21; go_split_ands; refine (once_told ⟨ycall, ykind, ycode, yid, .slice ya ty.seen.length yc, ymore⟩ ⟨xcall, xkind, xcode, xid, .slice xa tx.seen.length xc, xmore⟩ ty.seen tx.seen ty tx false _ HVY.out HVX.out (by omega) (by omega) (Ev_RY.out _ (by assumption)) (Ev_RX.out _ (by assumption)) T1.out).mono ?_; rintro e x1 ⟨rfl, hbt⟩))
                      go_split_ands
                      have hV : Ev x1 := by assumption
                      go_upto_region 45 with fail
                      clear Ev_0
                      have Ev_0 := hid hV
                      go_region_held3 (fun W => Ev W ∧ W.cell? ⟨w.heap.size, 0, none⟩ = some (.slice a0 n.asks.length c0) ∧ W.cell? ⟨w.heap.size, 1, none⟩ = some (.slice (some ⟨b1, o1, none⟩) n.tells.length d0) ∧ W.cell? ⟨b1, o1 + j * 6, none⟩ = some (.int .i64 ycall) ∧ W.cell? ⟨b1, o1 + j * 6 + 1, none⟩ = some (.int .u8 ykind) ∧ W.cell? ⟨b1, o1 + j * 6 + 2, none⟩ = some (.int .u8 ycode) ∧ W.cell? ⟨b1, o1 + j * 6 + 3, none⟩ = some (.int .i64 yid) ∧ W.cell? ⟨b1, o1 + j * 6 + 4, none⟩ = some (.slice ya ty.seen.length yc) ∧ W.cell? ⟨b1, o1 + j * 6 + 5, none⟩ = some (.bool ymore) ∧ W.cell? ⟨b1, o1 + m * 6, none⟩ = some (.int .i64 xcall) ∧ W.cell? ⟨b1, o1 + m * 6 + 1, none⟩ = some (.int .u8 xkind) ∧ W.cell? ⟨b1, o1 + m * 6 + 2, none⟩ = some (.int .u8 xcode) ∧ W.cell? ⟨b1, o1 + m * 6 + 3, none⟩ = some (.int .i64 xid) ∧ W.cell? ⟨b1, o1 + m * 6 + 4, none⟩ = some (.slice xa tx.seen.length xc) ∧ W.cell? ⟨b1, o1 + m * 6 + 5, none⟩ = some (.bool xmore) ∧ W.cell? ⟨b2, o2 + j * 6, none⟩ = some (.int .i64 zcall) ∧ W.cell? ⟨b2, o2 + j * 6 + 1, none⟩ = some (.int .u8 zkind) ∧ W.cell? ⟨b2, o2 + j * 6 + 2, none⟩ = some (.int .u8 zcode) ∧ W.cell? ⟨b2, o2 + j * 6 + 3, none⟩ = some (.int .i64 zid) ∧ W.cell? ⟨b2, o2 + j * 6 + 4, none⟩ = some (.slice za tz.seen.length zc) ∧ W.cell? ⟨b2, o2 + j * 6 + 5, none⟩ = some (.bool zmore)) (first | exact Ev_S.out _ _ (below_drewN (Below.refl _ _) 1) Ev_0.out | (go_split_ands; exact Ev_S.out _ _ (below_drewN (Below.refl _ _) 1) (by assumption)) | (go_split_ands; exact Ev_S.out _ _ hbu (by assumption))) ((go_at_call 21; go_split_ands; refine (once_told ⟨zcall, zkind, zcode, zid, .slice za tz.seen.length zc, zmore⟩ ⟨xcall, xkind, xcode, xid, .slice xa tx.seen.length xc, xmore⟩ tz.seen tx.seen tz tx true _ HVZ.out HVX.out (by omega) (by omega) (Ev_RZ.out _ (by assumption)) (Ev_RX.out _ (by assumption)) T2.out).mono ?_; rintro e x2 ⟨rfl, hbu⟩))
                      go_split_ands
                      have hV2 : Ev x2 := by assumption
                      have HV2 := hid hV2
                      clear hV2
                      go_upto_region 42 with fail
                      go_wp2
                      go_roundw
                      case rel =>
                        exact ⟨j + 1, by go_num, by omega, int_eq (by have := HST.out; rw [T1.out, T2.out] at this; simp at this; omega), Ev_HB2.out _ HV2.out⟩
                      case measure => simp [intOf]; omega
                    · go_region_held3 (fun W => Ev W ∧ W.cell? ⟨w.heap.size, 0, none⟩ = some (.slice a0 n.asks.length c0) ∧ W.cell? ⟨w.heap.size, 1, none⟩ = some (.slice (some ⟨b1, o1, none⟩) n.tells.length d0) ∧ W.cell? ⟨b1, o1 + j * 6, none⟩ = some (.int .i64 ycall) ∧ W.cell? ⟨b1, o1 + j * 6 + 1, none⟩ = some (.int .u8 ykind) ∧ W.cell? ⟨b1, o1 + j * 6 + 2, none⟩ = some (.int .u8 ycode) ∧ W.cell? ⟨b1, o1 + j * 6 + 3, none⟩ = some (.int .i64 yid) ∧ W.cell? ⟨b1, o1 + j * 6 + 4, none⟩ = some (.slice ya ty.seen.length yc) ∧ W.cell? ⟨b1, o1 + j * 6 + 5, none⟩ = some (.bool ymore) ∧ W.cell? ⟨b1, o1 + m * 6, none⟩ = some (.int .i64 xcall) ∧ W.cell? ⟨b1, o1 + m * 6 + 1, none⟩ = some (.int .u8 xkind) ∧ W.cell? ⟨b1, o1 + m * 6 + 2, none⟩ = some (.int .u8 xcode) ∧ W.cell? ⟨b1, o1 + m * 6 + 3, none⟩ = some (.int .i64 xid) ∧ W.cell? ⟨b1, o1 + m * 6 + 4, none⟩ = some (.slice xa tx.seen.length xc) ∧ W.cell? ⟨b1, o1 + m * 6 + 5, none⟩ = some (.bool xmore) ∧ W.cell? ⟨b2, o2 + j * 6, none⟩ = some (.int .i64 zcall) ∧ W.cell? ⟨b2, o2 + j * 6 + 1, none⟩ = some (.int .u8 zkind) ∧ W.cell? ⟨b2, o2 + j * 6 + 2, none⟩ = some (.int .u8 zcode) ∧ W.cell? ⟨b2, o2 + j * 6 + 3, none⟩ = some (.int .i64 zid) ∧ W.cell? ⟨b2, o2 + j * 6 + 4, none⟩ = some (.slice za tz.seen.length zc) ∧ W.cell? ⟨b2, o2 + j * 6 + 5, none⟩ = some (.bool zmore)) (first | exact Ev_S.out _ _ (below_drewN (Below.refl _ _) 1) Ev_0.out | (go_split_ands; exact Ev_S.out _ _ (below_drewN (Below.refl _ _) 1) (by assumption)) | (go_split_ands; exact Ev_S.out _ _ hbt (by assumption))) ((go_at_call 21; go_split_ands; refine (once_told ⟨ycall, ykind, ycode, yid, .slice ya ty.seen.length yc, ymore⟩ ⟨xcall, xkind, xcode, xid, .slice xa tx.seen.length xc, xmore⟩ ty.seen tx.seen ty tx true _ HVY.out HVX.out (by omega) (by omega) (Ev_RY.out _ (by assumption)) (Ev_RX.out _ (by assumption)) T1.out).mono ?_; rintro e x1 ⟨rfl, hbt⟩))
                      go_split_ands
                      have hV : Ev x1 := by assumption
                      go_upto_region 45 with fail
                      clear Ev_0
                      have Ev_0 := hid hV
                      go_region_held3 (fun W => Ev W ∧ W.cell? ⟨w.heap.size, 0, none⟩ = some (.slice a0 n.asks.length c0) ∧ W.cell? ⟨w.heap.size, 1, none⟩ = some (.slice (some ⟨b1, o1, none⟩) n.tells.length d0) ∧ W.cell? ⟨b1, o1 + j * 6, none⟩ = some (.int .i64 ycall) ∧ W.cell? ⟨b1, o1 + j * 6 + 1, none⟩ = some (.int .u8 ykind) ∧ W.cell? ⟨b1, o1 + j * 6 + 2, none⟩ = some (.int .u8 ycode) ∧ W.cell? ⟨b1, o1 + j * 6 + 3, none⟩ = some (.int .i64 yid) ∧ W.cell? ⟨b1, o1 + j * 6 + 4, none⟩ = some (.slice ya ty.seen.length yc) ∧ W.cell? ⟨b1, o1 + j * 6 + 5, none⟩ = some (.bool ymore) ∧ W.cell? ⟨b1, o1 + m * 6, none⟩ = some (.int .i64 xcall) ∧ W.cell? ⟨b1, o1 + m * 6 + 1, none⟩ = some (.int .u8 xkind) ∧ W.cell? ⟨b1, o1 + m * 6 + 2, none⟩ = some (.int .u8 xcode) ∧ W.cell? ⟨b1, o1 + m * 6 + 3, none⟩ = some (.int .i64 xid) ∧ W.cell? ⟨b1, o1 + m * 6 + 4, none⟩ = some (.slice xa tx.seen.length xc) ∧ W.cell? ⟨b1, o1 + m * 6 + 5, none⟩ = some (.bool xmore) ∧ W.cell? ⟨b2, o2 + j * 6, none⟩ = some (.int .i64 zcall) ∧ W.cell? ⟨b2, o2 + j * 6 + 1, none⟩ = some (.int .u8 zkind) ∧ W.cell? ⟨b2, o2 + j * 6 + 2, none⟩ = some (.int .u8 zcode) ∧ W.cell? ⟨b2, o2 + j * 6 + 3, none⟩ = some (.int .i64 zid) ∧ W.cell? ⟨b2, o2 + j * 6 + 4, none⟩ = some (.slice za tz.seen.length zc) ∧ W.cell? ⟨b2, o2 + j * 6 + 5, none⟩ = some (.bool zmore)) (first | exact Ev_S.out _ _ (below_drewN (Below.refl _ _) 1) Ev_0.out | (go_split_ands; exact Ev_S.out _ _ (below_drewN (Below.refl _ _) 1) (by assumption)) | (go_split_ands; exact Ev_S.out _ _ hbu (by assumption))) ((go_at_call 21; go_split_ands; refine (once_told ⟨zcall, zkind, zcode, zid, .slice za tz.seen.length zc, zmore⟩ ⟨xcall, xkind, xcode, xid, .slice xa tx.seen.length xc, xmore⟩ tz.seen tx.seen tz tx false _ HVZ.out HVX.out (by omega) (by omega) (Ev_RZ.out _ (by assumption)) (Ev_RX.out _ (by assumption)) T2.out).mono ?_; rintro e x2 ⟨rfl, hbu⟩))
                      go_split_ands
                      have hV2 : Ev x2 := by assumption
                      have HV2 := hid hV2
                      clear hV2
                      go_upto_region 42 with fail
                      go_wp2
                      go_roundw
                      case rel =>
                        exact ⟨j + 1, by go_num, by omega, int_eq (by have := HST.out; rw [T1.out, T2.out] at this; simp at this; omega), Ev_HB2.out _ HV2.out⟩
                      case measure => simp [intOf]; omega
                    · go_region_held3 (fun W => Ev W ∧ W.cell? ⟨w.heap.size, 0, none⟩ = some (.slice a0 n.asks.length c0) ∧ W.cell? ⟨w.heap.size, 1, none⟩ = some (.slice (some ⟨b1, o1, none⟩) n.tells.length d0) ∧ W.cell? ⟨b1, o1 + j * 6, none⟩ = some (.int .i64 ycall) ∧ W.cell? ⟨b1, o1 + j * 6 + 1, none⟩ = some (.int .u8 ykind) ∧ W.cell? ⟨b1, o1 + j * 6 + 2, none⟩ = some (.int .u8 ycode) ∧ W.cell? ⟨b1, o1 + j * 6 + 3, none⟩ = some (.int .i64 yid) ∧ W.cell? ⟨b1, o1 + j * 6 + 4, none⟩ = some (.slice ya ty.seen.length yc) ∧ W.cell? ⟨b1, o1 + j * 6 + 5, none⟩ = some (.bool ymore) ∧ W.cell? ⟨b1, o1 + m * 6, none⟩ = some (.int .i64 xcall) ∧ W.cell? ⟨b1, o1 + m * 6 + 1, none⟩ = some (.int .u8 xkind) ∧ W.cell? ⟨b1, o1 + m * 6 + 2, none⟩ = some (.int .u8 xcode) ∧ W.cell? ⟨b1, o1 + m * 6 + 3, none⟩ = some (.int .i64 xid) ∧ W.cell? ⟨b1, o1 + m * 6 + 4, none⟩ = some (.slice xa tx.seen.length xc) ∧ W.cell? ⟨b1, o1 + m * 6 + 5, none⟩ = some (.bool xmore) ∧ W.cell? ⟨b2, o2 + j * 6, none⟩ = some (.int .i64 zcall) ∧ W.cell? ⟨b2, o2 + j * 6 + 1, none⟩ = some (.int .u8 zkind) ∧ W.cell? ⟨b2, o2 + j * 6 + 2, none⟩ = some (.int .u8 zcode) ∧ W.cell? ⟨b2, o2 + j * 6 + 3, none⟩ = some (.int .i64 zid) ∧ W.cell? ⟨b2, o2 + j * 6 + 4, none⟩ = some (.slice za tz.seen.length zc) ∧ W.cell? ⟨b2, o2 + j * 6 + 5, none⟩ = some (.bool zmore)) (first | exact Ev_S.out _ _ (below_drewN (Below.refl _ _) 1) Ev_0.out | (go_split_ands; exact Ev_S.out _ _ (below_drewN (Below.refl _ _) 1) (by assumption)) | (go_split_ands; exact Ev_S.out _ _ hbt (by assumption))) ((go_at_call 21; go_split_ands; refine (once_told ⟨ycall, ykind, ycode, yid, .slice ya ty.seen.length yc, ymore⟩ ⟨xcall, xkind, xcode, xid, .slice xa tx.seen.length xc, xmore⟩ ty.seen tx.seen ty tx true _ HVY.out HVX.out (by omega) (by omega) (Ev_RY.out _ (by assumption)) (Ev_RX.out _ (by assumption)) T1.out).mono ?_; rintro e x1 ⟨rfl, hbt⟩))
                      go_split_ands
                      have hV : Ev x1 := by assumption
                      go_upto_region 45 with fail
                      clear Ev_0
                      have Ev_0 := hid hV
                      go_region_held3 (fun W => Ev W ∧ W.cell? ⟨w.heap.size, 0, none⟩ = some (.slice a0 n.asks.length c0) ∧ W.cell? ⟨w.heap.size, 1, none⟩ = some (.slice (some ⟨b1, o1, none⟩) n.tells.length d0) ∧ W.cell? ⟨b1, o1 + j * 6, none⟩ = some (.int .i64 ycall) ∧ W.cell? ⟨b1, o1 + j * 6 + 1, none⟩ = some (.int .u8 ykind) ∧ W.cell? ⟨b1, o1 + j * 6 + 2, none⟩ = some (.int .u8 ycode) ∧ W.cell? ⟨b1, o1 + j * 6 + 3, none⟩ = some (.int .i64 yid) ∧ W.cell? ⟨b1, o1 + j * 6 + 4, none⟩ = some (.slice ya ty.seen.length yc) ∧ W.cell? ⟨b1, o1 + j * 6 + 5, none⟩ = some (.bool ymore) ∧ W.cell? ⟨b1, o1 + m * 6, none⟩ = some (.int .i64 xcall) ∧ W.cell? ⟨b1, o1 + m * 6 + 1, none⟩ = some (.int .u8 xkind) ∧ W.cell? ⟨b1, o1 + m * 6 + 2, none⟩ = some (.int .u8 xcode) ∧ W.cell? ⟨b1, o1 + m * 6 + 3, none⟩ = some (.int .i64 xid) ∧ W.cell? ⟨b1, o1 + m * 6 + 4, none⟩ = some (.slice xa tx.seen.length xc) ∧ W.cell? ⟨b1, o1 + m * 6 + 5, none⟩ = some (.bool xmore) ∧ W.cell? ⟨b2, o2 + j * 6, none⟩ = some (.int .i64 zcall) ∧ W.cell? ⟨b2, o2 + j * 6 + 1, none⟩ = some (.int .u8 zkind) ∧ W.cell? ⟨b2, o2 + j * 6 + 2, none⟩ = some (.int .u8 zcode) ∧ W.cell? ⟨b2, o2 + j * 6 + 3, none⟩ = some (.int .i64 zid) ∧ W.cell? ⟨b2, o2 + j * 6 + 4, none⟩ = some (.slice za tz.seen.length zc) ∧ W.cell? ⟨b2, o2 + j * 6 + 5, none⟩ = some (.bool zmore)) (first | exact Ev_S.out _ _ (below_drewN (Below.refl _ _) 1) Ev_0.out | (go_split_ands; exact Ev_S.out _ _ (below_drewN (Below.refl _ _) 1) (by assumption)) | (go_split_ands; exact Ev_S.out _ _ hbu (by assumption))) ((go_at_call 21; go_split_ands; refine (once_told ⟨zcall, zkind, zcode, zid, .slice za tz.seen.length zc, zmore⟩ ⟨xcall, xkind, xcode, xid, .slice xa tx.seen.length xc, xmore⟩ tz.seen tx.seen tz tx true _ HVZ.out HVX.out (by omega) (by omega) (Ev_RZ.out _ (by assumption)) (Ev_RX.out _ (by assumption)) T2.out).mono ?_; rintro e x2 ⟨rfl, hbu⟩))
                      go_split_ands
                      have hV2 : Ev x2 := by assumption
                      have HV2 := hid hV2
                      clear hV2
                      go_upto_region 42 with fail
                      go_wp2
                      go_roundw
                      case rel =>
                        exact ⟨j + 1, by go_num, by omega, int_eq (by have := HST.out; rw [T1.out, T2.out] at this; simp at this; omega), Ev_HB2.out _ HV2.out⟩
                      case measure => simp [intOf]; omega
                  · obtain rfl : j = n.tells.length := by omega
                    rw [dif_end _ HPT.out]
                    obtain ⟨bx0, bx1, bxf, bxl⟩ := blk2 BX1.out
                    go_wp2
                    go_roundw
                    case rel => exact ⟨m + 1, by go_num, by omega, HB2.out⟩
                    case measure => simp [intOf]; omega
              · go_wp2_with fail
                refine (wakes_any _).mono ?_
                rintro e x9 ⟨rfl, hb⟩
                go_wp2
                go_ret
                exact ⟨rfl, (ZA.out.trans (HB.out.mono ZA.out.size)).trans (hb.mono (by have := ZA.out.size; have := HB.out.size; omega))⟩
end Go.Proofs.Ythnlppbfmmiioaa
