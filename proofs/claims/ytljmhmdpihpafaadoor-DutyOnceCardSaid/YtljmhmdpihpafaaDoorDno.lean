/- DutyOnce. Printed by gn_once20.py. -/
import Derived.Test.YtljmhmdpihpafaaDoorPld
import Derived.Test.YtljmhmdpihpafaaDoorRdM
import Derived.Deep.RegionHeld3
import Derived.Deep.Cut
import Derived.Deep.CutRange
namespace Go.Proofs.YtljmhmdpihpafaaDoor
open Go.RowKit Go.Shelf
attribute [-go_sem] loadVar
attribute [local go_sem] load_other

theorem right_wf {C : CallsV} (h : rightB C = true) : ∀ x ∈ C.opens, x.wf := by
  intro x hx
  obtain ⟨⟨a1, a2, a3, a4⟩, hg⟩ := rightB_iff.1 h
  have h1 := goR_lt _ _ _ hg x hx
  obtain ⟨k1, k2, k3, k4⟩ := goR_nums _ _ _ hg x hx
  have k1 := kindB_yes k1
  have k2 := numB_yes k2
  have k3 := numB_yes k3
  exact ⟨by unfold in64; omega, by unfold in8; omega, by unfold in64; omega, by unfold in64; omega⟩
theorem rright_y (ep nx : Int) (s : Value) (l : List CallV) (w : World) (hn : l.length ≤ 1000000) (hs : Row12 w s l) (h : rightB ⟨ep, nx, l⟩ = true) :
    Calls Tryd.prog 8 #[.agg #[.int .i64 ep, .int .i64 nx, s]] w fun e w' => e = .returned (.bool true) ∧ Below w.heap.size w w' := by
  have := rright_any ep nx s l w hn (right_wf h) hs
  rwa [h] at this
theorem rsame_y (ep nx : Int) (s t : Value) (l : List CallV) (w : World) (hn : l.length ≤ 1000000) (hs : Row12 w s l) (ht : Row12 w t l) :
    Calls Tryd.prog 11 #[.agg #[.int .i64 ep, .int .i64 nx, s], .agg #[.int .i64 ep, .int .i64 nx, t]] w fun e w' => e = .returned (.bool true) ∧ Below w.heap.size w w' := by
  have := rsame_any ep nx ep nx s t l l w hs ht hn hn
  simpa [sameV, calls] using this
theorem is_y (cs : Array Value) (iv kv : Value) (hcs : BC cs iv kv) (I : List IntentV) (K : List KeptV) (kd ky : Int) (w : World) (hl1 : I.length ≤ 1000) (hl2 : K.length ≤ 1000) (hwf : ∀ x ∈ K, in8 x.phase)
    (hA : Asked w) (hI : RowOf 4 encIn w iv I) (hK : RowOf 8 encKp w kv K) (hm : (⟨kd, ky⟩ : DutyV) ∈ dutiesL I K) :
    Calls Tryd.prog 13 #[.agg cs, .agg #[.int .u8 kd, .int .i64 ky]] w fun e w' => e = .returned (.bool true) ∧ Below w.heap.size w w' := by
  have := is_any cs iv kv hcs I K ⟨kd, ky⟩ w hl1 hl2 hwf hA hI hK
  rwa [decide_eq_true hm] at this
theorem rfind_y (ep nx id : Int) (s : Value) (l : List CallV) (w : World) (hn : l.length ≤ 1000000) (hs : Row12 w s l) (a b c d : Int) (h : findC l id = (⟨a, b, c, d⟩, true)) :
    Calls Tryd.prog 14 #[.agg #[.int .i64 ep, .int .i64 nx, s], .int .i64 id] w fun e w' => e = .returned (.tuple #[.agg #[.int .i64 a, .int .u8 b, .int .i64 c, .int .i64 d], .bool true]) ∧ Below w.heap.size w w' := by
  have := rfind_any ep nx id s l w hn hs
  rwa [h] at this
theorem rhas_n (ep nx kd ky : Int) (s : Value) (l : List CallV) (w : World) (hn : l.length ≤ 1000000) (hs : Row12 w s l) (h : hasB l kd ky = false) :
    Calls Tryd.prog 15 #[.agg #[.int .i64 ep, .int .i64 nx, s], .int .u8 kd, .int .i64 ky] w fun e w' => e = .returned (.bool false) ∧ Below w.heap.size w w' := by
  have := rhas_any ep nx kd ky s l w hn hs
  rwa [h] at this

set_option maxHeartbeats 8000000 in
set_option maxRecDepth 100000 in
theorem once_law (f : Nat → Int) (g : Nat → Bool) (mv iv kv : Value) (I : List IntentV) (K : List KeptV) (M : List Int) (C : CallsV) (s : Value) (now : Int) (w : World)
    (hwf : ∀ x ∈ K, in8 x.phase) (hcw : ∀ x ∈ C.opens, x.wf) (hI : RowOf 4 encIn w iv I) (hK : RowOf 8 encKp w kv K) (hM : RowOf 1 encI w mv M) (hs : Row12 w s C.opens) (hA : Asked w) :
    Calls Tryd.prog 3 #[.agg (brT f g mv iv kv), calls C.epoch C.next s, .int .i64 now] w fun e w' => e = .returned (.bool true) ∧ Below w.heap.size w w' := by
  obtain ⟨cs, hcs⟩ : ∃ cs, cs = brT f g mv iv kv := ⟨_, rfl⟩
  have hbc : BC cs iv kv := by rw [hcs]; exact brT_bc _ _ _ _ _
  rw [← hcs]
  obtain ⟨ia, ic, rfl, hn1, _, _, _⟩ := hI.open
  obtain ⟨ka, kc, rfl, hk1, _, _, _⟩ := hK.open
  obtain ⟨sa, sc, rfl, hs1, _, _, _⟩ := hs.open
  obtain ⟨W1, hW1⟩ : ∃ W1, W1 = (w.alloc (.cells cs 30)).alloc (.cells #[.int .i64 C.epoch, .int .i64 C.next, .slice sa C.opens.length sc] 33) := ⟨_, rfl⟩
  have hds : DS cs mv (.slice ia I.length ic) (.slice ka K.length kc) I K M C (.slice sa C.opens.length sc) w W1 := by rw [hW1]; exact DS.new hI hK hM hs hA
  have hg := great_any cs _ _ hbc ia I.length ic ka K.length kc rfl rfl C.epoch C.next sa C.opens.length sc W1
  obtain ⟨gb, hgb⟩ : ∃ gb, (decide ((40 : Int) < (K.length : Int)) || (decide ((40 : Int) < (I.length : Int)) || decide ((60 : Int) < (C.opens.length : Int)))) = gb := ⟨_, rfl⟩
  rw [hgb] at hg
  have HG := hid hg
  have H1 := hid hds
  have HCS := hid hcs
  have HBC := hid hbc
  have HWF := hid hwf
  have HCW := hid hcw
  have HGB := hid hgb
  have hl := hds.load hbc
  rw [hW1] at hl
  have HW1 := hid hW1
  unfold calls at HG ⊢
  clear hg hds hcs hbc hwf hcw hgb hW1 hI hK hM hs hA
  go_enter Tryd.func3, Tryd.ntmps3
  go_wp2_with fail
  rw [← HW1.out]
  refine HG.out.mono ?_
  rintro e v1 ⟨rfl, hb⟩
  have H2 := hid (H1.out.below hb)
  clear hb hl
  cases gb with
  | true =>
    go_wp2_with fail
    refine (wakes_any _ H2.out.ask).mono ?_
    rintro e v2 ⟨rfl, hb⟩
    have HE := hid (H2.out.below hb).bel
    clear hb
    go_wp2
    go_ret
    exact ⟨rfl, HE.out⟩
  | false =>
    have hgl : K.length ≤ 40 ∧ I.length ≤ 40 ∧ C.opens.length ≤ 60 := by
      have := HGB.out
      simp at this
      omega
    have HR := hid (right13_any f g mv _ _ I K M v1 (by omega) (by omega) H2.out.ri H2.out.rk H2.out.rm)
    rw [← HCS.out] at HR
    have hl := H2.out.load HBC.out
    go_wp2_with fail
    refine HR.out.mono ?_
    rintro e v2 ⟨⟨r, rfl, hrf⟩, hb⟩
    have H3 := hid (H2.out.below hb)
    have HRF := hid hrf
    clear hb hl hrf
    cases r with
    | false =>
      go_wp2_with fail
      refine (wakes_any _ H3.out.ask).mono ?_
      rintro e v3 ⟨rfl, hb⟩
      have HE := hid (H3.out.below hb).bel
      clear hb
      go_wp2
      go_ret
      exact ⟨rfl, HE.out⟩
    | true =>
      have HRFT := hid (HRF.out rfl)
      obtain ⟨rb, hrb⟩ : ∃ rb, rightB C = rb := ⟨_, rfl⟩
      have hrr := rright_any C.epoch C.next (.slice sa C.opens.length sc) C.opens v2 (by omega) HCW.out H3.out.rc
      rw [show (⟨C.epoch, C.next, C.opens⟩ : CallsV) = C from rfl, hrb] at hrr
      have HRR := hid hrr
      have HRB := hid hrb
      unfold calls at HRR
      clear hrr hrb
      obtain ⟨p0, p1, p2, pf, pl⟩ := blk3 H3.out.box
      go_wp2_with fail
      refine HRR.out.mono ?_
      rintro e v3 ⟨rfl, hb⟩
      have H4 := hid (H3.out.below hb)
      clear hb p0 p1 p2 pf pl
      cases rb with
      | false =>
        go_wp2_with fail
        refine (wakes_any _ H4.out.ask).mono ?_
        rintro e v4 ⟨rfl, hb⟩
        have HE := hid (H4.out.below hb).bel
        clear hb
        go_wp2
        go_ret
        exact ⟨rfl, HE.out⟩
      | true =>
        obtain ⟨p0, p1, p2, pf, pl⟩ := blk3 H4.out.box
        by_cases hq1 : now < 0
        · go_wp2_with fail
          refine (wakes_any _ H4.out.ask).mono ?_
          rintro e v5 ⟨rfl, hb⟩
          have HE := hid (H4.out.below hb).bel
          clear hb
          go_wp2
          go_ret
          exact ⟨rfl, HE.out⟩
        by_cases hq2 : (1099511627776 : Int) < now
        · go_wp2_with fail
          refine (wakes_any _ H4.out.ask).mono ?_
          rintro e v5 ⟨rfl, hb⟩
          have HE := hid (H4.out.below hb).bel
          clear hb
          go_wp2
          go_ret
          exact ⟨rfl, HE.out⟩
        by_cases hq3 : (524288 : Int) < C.next
        · go_wp2_with fail
          refine (wakes_any _ H4.out.ask).mono ?_
          rintro e v5 ⟨rfl, hb⟩
          have HE := hid (H4.out.below hb).bel
          clear hb
          go_wp2
          go_ret
          exact ⟨rfl, HE.out⟩
        have hnow : numB now = true := by simp only [numB, decide_eq_true_eq]; omega
        have HN := hid (duties_len I K)
        have HLN := hid (show (dutiesL I K).length ≤ 80 by have := HN.out; omega)
        have HOF := hid (onceF_of HRFT.out hnow HRB.out (by have := HLN.out; omega))
        have HD := hid (dopen_any cs _ _ HBC.out I K C (.slice sa C.opens.length sc) now v3 (by omega) (by omega) HWF.out H4.out.ask H4.out.ri H4.out.rk (by omega) H4.out.rc)
        obtain ⟨T, hT⟩ : ∃ T, openD I now C (dutiesL I K) = T := ⟨_, rfl⟩
        rw [hT] at HD HOF
        unfold calls at HD
        have hl := H4.out.load HBC.out
        clear hT hnow
        go_wp2_with fail
        refine HD.out.mono ?_
        rintro e v4 ⟨ov, av, rfl, hro, hra, hb⟩
        obtain ⟨D, A⟩ := T
        dsimp only at hro hra ⊢
        have hright := HOF.out.right
        have hagain := HOF.out.again
        have hlen := HOF.out.len
        have hfew := HOF.out.few
        have hone := HOF.out.one
        have hasks := HOF.out.asks
        dsimp only at hright hagain hlen hfew hone hasks
        have HRD := hid hright
        have HONE := hid hone
        have HASKS := hid hasks
        obtain ⟨oa, oc, rfl, ho1, _, _, _⟩ := hro.open
        obtain ⟨aa, ac, rfl, ha1, _, _, _⟩ := hra.open
        have H5 := hid (H4.out.below hb)
        have RO := hid hro
        have RA := hid hra
        have hA80 : A.length ≤ 80 := by have := HLN.out; omega
        have hD140 : D.opens.length ≤ 140 := by omega
        have HLI := hid (show ((D.opens.length : Int) == (C.opens.length : Int) + (A.length : Int)) = true from beq_iff_eq.2 (by omega))
        clear hb hro hra hl hright hone hasks hlen hfew p0 p1 p2 pf pl
        obtain ⟨U, hU⟩ : ∃ U, U = v4.alloc (.cells #[.int .i64 D.epoch, .int .i64 D.next, .slice oa D.opens.length oc] 33) := ⟨_, rfl⟩
        have hb : Below v4.heap.size v4 U := by rw [hU]; exact (Below.refl _ _).alloc (Nat.le_refl _) _
        have H6 := hid (H5.out.below hb)
        have BD := hid (show U.heap[v4.heap.size]? = some (.cells #[.int .i64 D.epoch, .int .i64 D.next, .slice oa D.opens.length oc] 33) by rw [hU]; exact heap_new _ _)
        have RO6 := hid (RowOf.below RO.out hb)
        have RA6 := hid (RowOf.below RA.out hb)
        have HU := hid hU
        have HD2 := hid (dopen_any cs _ _ HBC.out I K D (.slice oa D.opens.length oc) now U (by omega) (by omega) HWF.out H6.out.ask H6.out.ri H6.out.rk (by omega) RO6.out)
        rw [hagain] at HD2
        unfold calls at HD2
        have hl := H6.out.load HBC.out
        obtain ⟨d0, d1, d2, df, dl⟩ := blk3 BD.out
        rw [HU.out] at hl d0 d1 d2 df dl
        clear hb hU hagain
        unfold calls
        go_wp2_with fail
        rw [← HU.out]
        refine HD2.out.mono ?_
        rintro e v5 ⟨ov2, av2, rfl, hro, hra, hb⟩
        dsimp only at hro hra ⊢
        obtain ⟨oa2, oc2, rfl, _, _, _, _⟩ := hro.open
        obtain ⟨na, nc, rfl, _, _, _, _⟩ := hra.open
        have H7 := hid (H6.out.below hb)
        have RO7 := hid (RowOf.below RO6.out hb)
        have RA7 := hid (RowOf.below RA6.out hb)
        have RN7 := hid hro
        have BD7 := hid (blk_below BD.out hb (blk_lt BD.out))
        clear hb hro hra hl d0 d1 d2 df dl
        obtain ⟨U2, hU2⟩ : ∃ U2, U2 = v5.alloc (.cells #[.int .i64 D.epoch, .int .i64 D.next, .slice oa2 D.opens.length oc2] 33) := ⟨_, rfl⟩
        have hb : Below v5.heap.size v5 U2 := by rw [hU2]; exact (Below.refl _ _).alloc (Nat.le_refl _) _
        have H8 := hid (H7.out.below hb)
        have RO8 := hid (RowOf.below RO7.out hb)
        have RA8 := hid (RowOf.below RA7.out hb)
        have RN8 := hid (RowOf.below RN7.out hb)
        have BD8 := hid (blk_below BD7.out hb (blk_lt BD7.out))
        have BE8 := hid (show U2.heap[v5.heap.size]? = some (.cells #[.int .i64 D.epoch, .int .i64 D.next, .slice oa2 D.opens.length oc2] 33) by rw [hU2]; exact heap_new _ _)
        have HU2 := hid hU2
        obtain ⟨d0, d1, d2, df, dl⟩ := blk3 BD8.out
        rw [HU2.out] at d0 d1 d2 df dl
        have HRR2 := hid (rright_y D.epoch D.next (.slice oa D.opens.length oc) D.opens U2 (by omega) RO8.out HRD.out)
        clear hb hU2
        unfold calls
        go_wp2_with fail
        rw [← HU2.out]
        refine HRR2.out.mono ?_
        rintro e v6 ⟨rfl, hb⟩
        have H9 := hid (H8.out.below hb)
        have RO9 := hid (RowOf.below RO8.out hb)
        have RA9 := hid (RowOf.below RA8.out hb)
        have RN9 := hid (RowOf.below RN8.out hb)
        have BD9 := hid (blk_below BD8.out hb (blk_lt BD8.out))
        have BE9 := hid (blk_below BE8.out hb (blk_lt BE8.out))
        clear hb d0 d1 d2 df dl
        obtain ⟨d0, d1, d2, df, dl⟩ := blk3 BD9.out
        obtain ⟨e0, e1, e2, ef, el⟩ := blk3 BE9.out
        have HSM := hid (rsame_y D.epoch D.next (.slice oa D.opens.length oc) (.slice oa2 D.opens.length oc2) D.opens v6 (by omega) RO9.out RN9.out)
        have hz : (((([] : List AskV).length : Nat) : Int) == 0) = true := rfl
        go_wp2_with fail
        refine HSM.out.mono ?_
        rintro e v7 ⟨rfl, hb⟩
        have H10 := hid (H9.out.below hb)
        have RO10 := hid (RowOf.below RO9.out hb)
        have RA10 := hid (RowOf.below RA9.out hb)
        have BD10 := hid (blk_below BD9.out hb (blk_lt BD9.out))
        clear hb d0 d1 d2 df dl e0 e1 e2 ef el
        obtain ⟨d0, d1, d2, df, dl⟩ := blk3 BD10.out
        obtain ⟨p0, p1, p2, pf, pl⟩ := blk3 H10.out.box
        have hl := H10.out.load HBC.out
        have HOFF := hid (of_any cs _ _ HBC.out I K v7 (by omega) (by omega) HWF.out H10.out.ask H10.out.ri H10.out.rk)
        obtain ⟨L, hL⟩ : ∃ L, dutiesL I K = L := ⟨_, rfl⟩
        rw [hL] at HOFF
        have HL := hid hL
        have hL80 : L.length ≤ 80 := by have := HLN.out; rwa [hL] at this
        clear hL
        have hlenI := HLI.out
        go_wp2_with fail
        refine HOFF.out.mono ?_
        rintro e v8 ⟨lv, rfl, hown, hb⟩
        have RL := hid (hown.row encD_len (by decide))
        obtain ⟨la, lc, rfl, hl1', _, _, _⟩ := RL.out.open
        have H11 := hid (H10.out.below hb)
        have RO11 := hid (RowOf.below RO10.out hb)
        have RA11 := hid (RowOf.below RA10.out hb)
        have BD11 := hid (blk_below BD10.out hb (blk_lt BD10.out))
        clear hb hown hl d0 d1 d2 df dl p0 p1 p2 pf pl
        go_wp2_with fail
        go_loopw [12] (fun a wr => ∃ i : Nat, a = .int .i64 i ∧ i ≤ L.length ∧ Below v8.heap.size v8 wr) (fun a _ => L.length - (intOf a).toNat)
        case atStart => exact ⟨0, rfl, Nat.zero_le _, Below.refl _ _⟩
        case round =>
          obtain ⟨i, rfl, hi, hB⟩ := hrel
          have HB := hid hB
          clear hB
          obtain ⟨wa, rfl⟩ : ∃ wo : World, wo = wr := ⟨_, rfl⟩
          by_cases hlt : i < L.length
          · obtain ⟨d, hd⟩ := get_lt hlt
            have HDM := hid (mem_get hd)
            have HDI := hid hd
            have hiL : (i : Int) < (L.length : Int) := by omega
            clear hd
            go_wp2_with fail
            go_loopw [13, 14] (fun a b wr => ∃ k : Nat, b = .int .i64 k ∧ a = .int .i64 ((manyC (D.opens.take k) d : Nat) : Int) ∧ k ≤ D.opens.length ∧ Below v8.heap.size v8 wr) (fun _ b _ => D.opens.length - (intOf b).toNat)
            case atStart => exact ⟨0, rfl, by simp [manyC], Nat.zero_le _, HB.out⟩
            case round =>
              clear HB
              obtain ⟨k, rfl, rfl, hk, hB⟩ := hrel
              obtain ⟨m, hm⟩ : ∃ m, manyC (D.opens.take k) d = m := ⟨_, rfl⟩
              rw [hm]
              have HM := hid hm
              have HB := hid hB
              have H12 := hid (H11.out.below hB)
              have BD12 := hid (blk_below BD11.out hB (blk_lt BD11.out))
              have RO12 := hid (RowOf.below RO11.out hB)
              have RL12 := hid (RowOf.below RL.out hB)
              clear hm hB
              obtain ⟨d0, d1, d2, df, dl⟩ := blk3 BD12.out
              obtain ⟨_, _, he, _, _, _, hop⟩ := RL12.out.open
              simp only [Value.slice.injEq] at he
              obtain ⟨rfl, -, rfl⟩ := he
              obtain ⟨lb, lo, rfl, hlb, hlr⟩ := hop (by omega)
              obtain ⟨y0, y1⟩ := rowD hlr HDI.out
              clear hlr
              by_cases hkt : k < D.opens.length
              · obtain ⟨x, hx⟩ := get_lt hkt
                have hst := many_take (d := d) hx
                rw [HM.out] at hst
                have hmk : m ≤ k := by rw [← HM.out]; exact Nat.le_trans List.countP_le_length (by rw [List.length_take]; omega)
                obtain ⟨_, _, he, _, _, _, hop2⟩ := RO12.out.open
                simp only [Value.slice.injEq] at he
                obtain ⟨rfl, -, rfl⟩ := he
                obtain ⟨b1, o1, rfl, hb1, hr1⟩ := hop2 (by omega)
                obtain ⟨g0, g1, g2, g3⟩ := row4 hr1 hx
                have hkL : (k : Int) < (D.opens.length : Int) := by omega
                clear hx hr1
                by_cases h1 : x.kind = d.kind
                · have hq : (x.kind == d.kind) = true := by simpa using h1
                  by_cases h2 : x.key = d.key
                  · have hqq : (x.key == d.key) = true := by simpa using h2
                    rw [hq, hqq] at hst
                    have HST := hid hst
                    clear hst h1 h2
                    go_wp2
                    go_quiet (fail)
                    go_wp2
                    go_roundw
                    case rel => exact ⟨k + 1, by go_num, by rw [HST.out]; go_num, by omega, below_drewN HB.out _⟩
                    case measure => simp [intOf]; omega
                  · have hqq : (x.key == d.key) = false := by simpa using h2
                    rw [hq, hqq] at hst
                    have HST := hid hst
                    clear hst h1 h2
                    go_wp2
                    go_quiet (fail)
                    go_wp2
                    go_roundw
                    case rel => exact ⟨k + 1, by go_num, by rw [HST.out]; simp, by omega, below_drewN HB.out _⟩
                    case measure => simp [intOf]; omega
                · have hq : (x.kind == d.kind) = false := by simpa using h1
                  rw [hq] at hst
                  have HST := hid hst
                  clear hst h1
                  go_wp2
                  go_quiet (fail)
                  go_wp2
                  go_roundw
                  case rel => exact ⟨k + 1, by go_num, by rw [HST.out]; simp, by omega, below_drewN HB.out _⟩
                  case measure => simp [intOf]; omega
              · obtain rfl : k = D.opens.length := by omega
                obtain rfl : m = 1 := by have e1 := HM.out; rw [List.take_length] at e1; rw [← e1]; exact HONE.out d (by rw [HL.out]; exact HDM.out)
                have Y0 := hid y0
                have Y1 := hid y1
                have HALL := hid (show ∀ W, Below wr.heap.size wr W → Below wr.heap.size wr W ∧ W.cell? ⟨lb, lo + i * 2, none⟩ = some (.int .u8 d.kind) ∧ W.cell? ⟨lb, lo + i * 2 + 1, none⟩ = some (.int .i64 d.key) ∧ (loadVar 30 ⟨w.heap.size, 0, none⟩).run Tryd.prog W = .ok (.agg cs) W from fun W hb => ⟨hb, cell_below Y0.out hb, cell_below Y1.out hb, (H12.out.below hb).load HBC.out⟩)
                go_wp2_with fail
                clear d0 d1 d2 df dl y0 y1
                go_region_held3 (fun W => Below wr.heap.size wr W ∧ W.cell? ⟨lb, lo + i * 2, none⟩ = some (.int .u8 d.kind) ∧ W.cell? ⟨lb, lo + i * 2 + 1, none⟩ = some (.int .i64 d.key) ∧ (loadVar 30 ⟨w.heap.size, 0, none⟩).run Tryd.prog W = .ok (.agg cs) W) (first | exact HALL.out _ (below_drewN (Below.refl _ _) 1) | (go_split_ands; exact HALL.out _ (below_call (by assumption) hbt1)) | (go_split_ands; exact HALL.out _ (below_realloc (by assumption) hbs)) | (go_split_ands; exact HALL.out _ (below_set4 (by assumption) (by first | omega | (simp; omega)) _ _ _ _)) | (go_split_ands; exact HALL.out _ (below_alloc (by assumption) _))) ((go_at_call 13; go_split_ands; refine (is_y cs _ _ HBC.out I K d.kind d.key _ (by omega) (by omega) HWF.out (H12.out.below (by assumption)).ask (H12.out.below (by assumption)).ri (H12.out.below (by assumption)).rk (by rw [HL.out]; exact HDM.out)).mono ?_; rintro e x1 ⟨rfl, hbt1⟩; have hbs := hbt1.size))
                go_split_ands
                have HX := hid (HB.out.trans (Below.mono (show Below wr.heap.size wr x1 by assumption) HB.out.size))
                go_wp2
                go_roundw
                case rel => exact ⟨i + 1, by go_num, by omega, HX.out⟩
                case measure => simp [intOf]; omega
          · obtain rfl : i = L.length := by omega
            go_wp2_with fail
            go_loopw [15] (fun a wr => ∃ i : Nat, a = .int .i64 i ∧ i ≤ A.length ∧ Below v8.heap.size v8 wr) (fun a _ => A.length - (intOf a).toNat)
            case atStart => exact ⟨0, rfl, Nat.zero_le _, HB.out⟩
            case round =>
              clear HB
              obtain ⟨i, rfl, hi, hB⟩ := hrel
              have HB := hid hB
              have H12 := hid (H11.out.below hB)
              have BD12 := hid (blk_below BD11.out hB (blk_lt BD11.out))
              have RO12 := hid (RowOf.below RO11.out hB)
              have RA12 := hid (RowOf.below RA11.out hB)
              clear hB
              by_cases hlt : i < A.length
              · obtain ⟨a, ha⟩ := get_lt hlt
                obtain ⟨x, hf, hk, hy, hsn, hh, hmem⟩ := HASKS.out i a ha
                obtain ⟨_, _, he, _, _, _, hop⟩ := RA12.out.open
                simp only [Value.slice.injEq] at he
                obtain ⟨rfl, -, rfl⟩ := he
                obtain ⟨ab, ao, rfl, hab, har⟩ := hop (by omega)
                obtain ⟨g0, g1, g2, -, -, -⟩ := rowA har ha
                obtain ⟨ak, acl, aa, ab', ac', ad⟩ := a
                obtain ⟨xi, xk, xy, xs⟩ := x
                dsimp only at hf hk hy hsn hh hmem g0 g1 g2
                subst hk
                subst hy
                subst hsn
                have HF := hid hf
                have HH := hid hh
                have HMM := hid hmem
                have hiL : (i : Int) < (A.length : Int) := by omega
                have D0 := hid (blk3 BD12.out).1
                have D1 := hid (blk3 BD12.out).2.1
                have D2 := hid (blk3 BD12.out).2.2.1
                have G0 := hid g0
                have G1 := hid g1
                have G2 := hid g2
                clear hf hh hmem g0 g1 g2 har ha
                have HALL := hid (show ∀ W, Below wr.heap.size wr W → Below wr.heap.size wr W ∧ W.cell? ⟨v4.heap.size, 0, none⟩ = some (.int .i64 D.epoch) ∧ W.cell? ⟨v4.heap.size, 1, none⟩ = some (.int .i64 D.next) ∧ W.cell? ⟨v4.heap.size, 2, none⟩ = some (.slice oa D.opens.length oc) ∧ W.cell? ⟨ab, ao + i * 6 + 1, none⟩ = some (.int .i64 acl) from fun W hb => ⟨hb, cell_below D0.out hb, cell_below D1.out hb, cell_below D2.out hb, cell_below G1.out hb⟩)
                go_wp2_with fail
                go_region_held3 (fun W => Below wr.heap.size wr W ∧ W.cell? ⟨v4.heap.size, 0, none⟩ = some (.int .i64 D.epoch) ∧ W.cell? ⟨v4.heap.size, 1, none⟩ = some (.int .i64 D.next) ∧ W.cell? ⟨v4.heap.size, 2, none⟩ = some (.slice oa D.opens.length oc) ∧ W.cell? ⟨ab, ao + i * 6 + 1, none⟩ = some (.int .i64 acl)) (first | exact HALL.out _ (below_drewN (Below.refl _ _) 1) | (go_split_ands; exact HALL.out _ (below_call (by assumption) hbt1)) | (go_split_ands; exact HALL.out _ (below_realloc (by assumption) hbs)) | (go_split_ands; exact HALL.out _ (below_set4 (by assumption) (by first | omega | (simp; omega)) _ _ _ _)) | (go_split_ands; exact HALL.out _ (below_alloc (by assumption) _))) ((go_at_call 14; go_split_ands; refine (rfind_y D.epoch D.next acl _ D.opens _ (by omega) (RowOf.below RO12.out (by assumption)) xi xk xy xs HF.out).mono ?_; rintro e x1 ⟨rfl, hbt1⟩; have hbs := hbt1.size; obtain ⟨hcb, hfb⟩ := bcell hbt1))
                · go_split_ands
                  obtain ⟨V, hV⟩ : ∃ V, V = x1.alloc (.cells #[.int .i64 xi, .int .u8 xk, .int .i64 xy, .int .i64 xs] 45) := ⟨_, rfl⟩
                  have hEV : Below wr.heap.size wr V := by rw [hV]; assumption
                  have I0 : V.heap[x1.heap.size]? = some (.cells #[.int .i64 xi, .int .u8 xk, .int .i64 xy, .int .i64 xs] 45) := by rw [hV]; exact heap_new _ _
                  rw [← hV]
                  have hzv := hEV.size
                  have H13 := hid (H12.out.below hEV)
                  have HBV := hid (HB.out.trans (hEV.mono HB.out.size))
                  have V1 := hid (blk4 I0).2.1
                  have V2 := hid (blk4 I0).2.2.1
                  have V3 := hid (blk4 I0).2.2.2.1
                  have E0 := hid (cell_below G0.out hEV)
                  have E2 := hid (cell_below G2.out hEV)
                  have P0 := hid (blk3 H13.out.box).1
                  have P1 := hid (blk3 H13.out.box).2.1
                  have P2 := hid (blk3 H13.out.box).2.2.1
                  obtain ⟨bi, hbi⟩ : ∃ bi, bi = x1.heap.size := ⟨_, rfl⟩
                  rw [← hbi] at V1 V2 V3 ⊢
                  clear hV hEV I0 hbi hbs hcb hfb hbt1
                  have HALL2 := hid (show ∀ W, Below V.heap.size V W → Below V.heap.size V W ∧ W.cell? ⟨bi, 1, none⟩ = some (.int .u8 xk) ∧ W.cell? ⟨bi, 2, none⟩ = some (.int .i64 xy) ∧ W.cell? ⟨bi, 3, none⟩ = some (.int .i64 xs) ∧ W.cell? ⟨ab, ao + i * 6, none⟩ = some (.int .u8 xk) ∧ W.cell? ⟨ab, ao + i * 6 + 2, none⟩ = some (.int .i64 xy) ∧ W.cell? ⟨w.heap.size + 1, 0, none⟩ = some (.int .i64 C.epoch) ∧ W.cell? ⟨w.heap.size + 1, 1, none⟩ = some (.int .i64 C.next) ∧ W.cell? ⟨w.heap.size + 1, 2, none⟩ = some (.slice sa C.opens.length sc) ∧ (loadVar 30 ⟨w.heap.size, 0, none⟩).run Tryd.prog W = .ok (.agg cs) W from fun W hb => ⟨hb, cell_below V1.out hb, cell_below V2.out hb, cell_below V3.out hb, cell_below E0.out hb, cell_below E2.out hb, cell_below P0.out hb, cell_below P1.out hb, cell_below P2.out hb, (H13.out.below hb).load HBC.out⟩)
                  go_wp2_with fail
                  go_region_held3 (fun W => Below V.heap.size V W ∧ W.cell? ⟨bi, 1, none⟩ = some (.int .u8 xk) ∧ W.cell? ⟨bi, 2, none⟩ = some (.int .i64 xy) ∧ W.cell? ⟨bi, 3, none⟩ = some (.int .i64 xs) ∧ W.cell? ⟨ab, ao + i * 6, none⟩ = some (.int .u8 xk) ∧ W.cell? ⟨ab, ao + i * 6 + 2, none⟩ = some (.int .i64 xy) ∧ W.cell? ⟨w.heap.size + 1, 0, none⟩ = some (.int .i64 C.epoch) ∧ W.cell? ⟨w.heap.size + 1, 1, none⟩ = some (.int .i64 C.next) ∧ W.cell? ⟨w.heap.size + 1, 2, none⟩ = some (.slice sa C.opens.length sc) ∧ (loadVar 30 ⟨w.heap.size, 0, none⟩).run Tryd.prog W = .ok (.agg cs) W) (first | exact HALL2.out _ (below_drewN (Below.refl _ _) 1) | (go_split_ands; exact HALL2.out _ (below_call (by assumption) hbt2)) | (go_split_ands; exact HALL2.out _ (below_call (by assumption) hbt3)) | (go_split_ands; exact HALL2.out _ (below_realloc (by assumption) (by omega))) | (go_split_ands; exact HALL2.out _ (below_set4 (by assumption) (by first | omega | (simp; omega)) _ _ _ _)) | (go_split_ands; exact HALL2.out _ (below_alloc (by assumption) _))) (first | (go_at_call 15; go_split_ands; refine (rhas_n C.epoch C.next xk xy _ C.opens _ (by omega) (RowOf.below H13.out.rc (by assumption)) HH.out).mono ?_; rintro e x2 ⟨rfl, hbt2⟩) | (go_at_call 13; go_split_ands; refine (is_y cs _ _ HBC.out I K xk xy _ (by omega) (by omega) HWF.out (H13.out.below (by assumption)).ask (H13.out.below (by assumption)).ri (H13.out.below (by assumption)).rk HMM.out).mono ?_; rintro e x3 ⟨rfl, hbt3⟩))
                  go_split_ands
                  have HX := hid (HBV.out.trans (Below.mono (show Below V.heap.size V x3 by assumption) HBV.out.size))
                  go_wp2
                  go_roundw
                  case rel => exact ⟨i + 1, by go_num, by omega, HX.out⟩
                  case measure => simp [intOf]; omega
                · go_split_ands
                  obtain ⟨V, hV⟩ : ∃ V, V = (((x1.setCell ⟨wr.heap.size, 0, none⟩ (.int .i64 xi)).setCell ⟨wr.heap.size, 1, none⟩ (.int .u8 xk)).setCell ⟨wr.heap.size, 2, none⟩ (.int .i64 xy)).setCell ⟨wr.heap.size, 3, none⟩ (.int .i64 xs) := ⟨_, rfl⟩
                  have hEV : Below wr.heap.size wr V := by rw [hV]; assumption
                  have I0 : V.heap[wr.heap.size]? = some (.cells #[.int .i64 xi, .int .u8 xk, .int .i64 xy, .int .i64 xs] 45) := by rw [hV]; exact blk_set (blk_set (blk_set (blk_set (show x1.heap[wr.heap.size]? = some (.cells #[.int .i64 0, .int .u8 0, .int .i64 0, .int .i64 0] 45) by exact blk_below (heap_new wr.drew _) hbt1 (by simp)) 0 _) 1 _) 2 _) 3 _
                  rw [← hV]
                  have hzv := hEV.size
                  have H13 := hid (H12.out.below hEV)
                  have HBV := hid (HB.out.trans (hEV.mono HB.out.size))
                  have V1 := hid (blk4 I0).2.1
                  have V2 := hid (blk4 I0).2.2.1
                  have V3 := hid (blk4 I0).2.2.2.1
                  have E0 := hid (cell_below G0.out hEV)
                  have E2 := hid (cell_below G2.out hEV)
                  have P0 := hid (blk3 H13.out.box).1
                  have P1 := hid (blk3 H13.out.box).2.1
                  have P2 := hid (blk3 H13.out.box).2.2.1
                  obtain ⟨bi, hbi⟩ : ∃ bi, bi = wr.heap.size := ⟨_, rfl⟩
                  rw [← hbi] at V1 V2 V3 ⊢
                  clear hV hEV I0 hbi hbs hcb hfb hbt1
                  have HALL2 := hid (show ∀ W, Below V.heap.size V W → Below V.heap.size V W ∧ W.cell? ⟨bi, 1, none⟩ = some (.int .u8 xk) ∧ W.cell? ⟨bi, 2, none⟩ = some (.int .i64 xy) ∧ W.cell? ⟨bi, 3, none⟩ = some (.int .i64 xs) ∧ W.cell? ⟨ab, ao + i * 6, none⟩ = some (.int .u8 xk) ∧ W.cell? ⟨ab, ao + i * 6 + 2, none⟩ = some (.int .i64 xy) ∧ W.cell? ⟨w.heap.size + 1, 0, none⟩ = some (.int .i64 C.epoch) ∧ W.cell? ⟨w.heap.size + 1, 1, none⟩ = some (.int .i64 C.next) ∧ W.cell? ⟨w.heap.size + 1, 2, none⟩ = some (.slice sa C.opens.length sc) ∧ (loadVar 30 ⟨w.heap.size, 0, none⟩).run Tryd.prog W = .ok (.agg cs) W from fun W hb => ⟨hb, cell_below V1.out hb, cell_below V2.out hb, cell_below V3.out hb, cell_below E0.out hb, cell_below E2.out hb, cell_below P0.out hb, cell_below P1.out hb, cell_below P2.out hb, (H13.out.below hb).load HBC.out⟩)
                  go_wp2_with fail
                  go_region_held3 (fun W => Below V.heap.size V W ∧ W.cell? ⟨bi, 1, none⟩ = some (.int .u8 xk) ∧ W.cell? ⟨bi, 2, none⟩ = some (.int .i64 xy) ∧ W.cell? ⟨bi, 3, none⟩ = some (.int .i64 xs) ∧ W.cell? ⟨ab, ao + i * 6, none⟩ = some (.int .u8 xk) ∧ W.cell? ⟨ab, ao + i * 6 + 2, none⟩ = some (.int .i64 xy) ∧ W.cell? ⟨w.heap.size + 1, 0, none⟩ = some (.int .i64 C.epoch) ∧ W.cell? ⟨w.heap.size + 1, 1, none⟩ = some (.int .i64 C.next) ∧ W.cell? ⟨w.heap.size + 1, 2, none⟩ = some (.slice sa C.opens.length sc) ∧ (loadVar 30 ⟨w.heap.size, 0, none⟩).run Tryd.prog W = .ok (.agg cs) W) (first | exact HALL2.out _ (below_drewN (Below.refl _ _) 1) | (go_split_ands; exact HALL2.out _ (below_call (by assumption) hbt2)) | (go_split_ands; exact HALL2.out _ (below_call (by assumption) hbt3)) | (go_split_ands; exact HALL2.out _ (below_realloc (by assumption) (by omega))) | (go_split_ands; exact HALL2.out _ (below_set4 (by assumption) (by first | omega | (simp; omega)) _ _ _ _)) | (go_split_ands; exact HALL2.out _ (below_alloc (by assumption) _))) (first | (go_at_call 15; go_split_ands; refine (rhas_n C.epoch C.next xk xy _ C.opens _ (by omega) (RowOf.below H13.out.rc (by assumption)) HH.out).mono ?_; rintro e x2 ⟨rfl, hbt2⟩) | (go_at_call 13; go_split_ands; refine (is_y cs _ _ HBC.out I K xk xy _ (by omega) (by omega) HWF.out (H13.out.below (by assumption)).ask (H13.out.below (by assumption)).ri (H13.out.below (by assumption)).rk HMM.out).mono ?_; rintro e x3 ⟨rfl, hbt3⟩))
                  go_split_ands
                  have HX := hid (HBV.out.trans (Below.mono (show Below V.heap.size V x3 by assumption) HBV.out.size))
                  go_wp2
                  go_roundw
                  case rel => exact ⟨i + 1, by go_num, by omega, HX.out⟩
                  case measure => simp [intOf]; omega
              · obtain rfl : i = A.length := by omega
                go_wp2_with fail
                refine (wakes_any _ H12.out.ask).mono ?_
                rintro e v9 ⟨rfl, hb⟩
                have HE := hid (H12.out.below hb).bel
                clear hb
                go_wp2
                go_ret
                exact ⟨rfl, HE.out⟩
end Go.Proofs.YtljmhmdpihpafaaDoor
