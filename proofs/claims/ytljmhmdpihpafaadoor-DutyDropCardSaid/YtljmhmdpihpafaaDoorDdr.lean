/- DutyDrop. -/
import Derived.Test.YtljmhmdpihpafaaDoorRdM
import Derived.Deep.RegionHeld3
import Derived.Deep.Cut
import Derived.Deep.CutRange
namespace Go.Proofs.YtljmhmdpihpafaaDoor
open Go.RowKit Go.Shelf
attribute [-go_sem] loadVar
attribute [local go_sem] load_other

theorem rright_yes (ep nx : Int) (s : Value) (l : List CallV) (w : World) (hn : l.length ≤ 1000000) (hwf : ∀ x ∈ l, x.wf) (hs : Row12 w s l) (h : rightB ⟨ep, nx, l⟩ = true) :
    Calls Tryd.prog 8 #[.agg #[.int .i64 ep, .int .i64 nx, s]] w fun e w' => e = .returned (.bool true) ∧ Below w.heap.size w w' := by
  have := rright_any ep nx s l w hn hwf hs
  rwa [h] at this
theorem rsame_yes (ep nx : Int) (s t : Value) (l : List CallV) (w : World) (hn : l.length ≤ 1000000) (hs : Row12 w s l) (ht : Row12 w t l) :
    Calls Tryd.prog 11 #[.agg #[.int .i64 ep, .int .i64 nx, s], .agg #[.int .i64 ep, .int .i64 nx, t]] w fun e w' => e = .returned (.bool true) ∧ Below w.heap.size w w' := by
  have := rsame_any ep nx ep nx s t l l w hs ht hn hn
  simpa [sameV, calls] using this
theorem filt_step {L : List CallV} {p : CallV → Bool} {i : Nat} {x : CallV} (hx : L[i]? = some x) (hp : p x = true) : (L.filter p)[((L.take i).filter p).length]? = some x ∧ ((L.take (i + 1)).filter p).length = ((L.take i).filter p).length + 1 := by
  have e1 : L = L.take i ++ x :: L.drop (i + 1) := by rw [← drop_get hx, List.take_append_drop]
  refine ⟨?_, ?_⟩
  · have e2 : L.filter p = (L.take i).filter p ++ x :: (L.drop (i + 1)).filter p := by
      conv => lhs; rw [e1]
      rw [List.filter_append, List.filter_cons, if_pos hp]
    rw [e2, List.getElem?_append_right (Nat.le_refl _), Nat.sub_self]
    rfl
  · rw [take_snoc L i x hx, List.filter_append, List.length_append]
    simp [hp]
theorem filt_skip {L : List CallV} {p : CallV → Bool} {i : Nat} {x : CallV} (hx : L[i]? = some x) (hp : p x = false) : ((L.take (i + 1)).filter p).length = ((L.take i).filter p).length := by
  rw [take_snoc L i x hx, List.filter_append, List.length_append]
  simp [hp]
set_option maxHeartbeats 4000000 in
set_option maxRecDepth 100000 in
theorem drop_law (f : Nat → Int) (g : Nat → Bool) (mv iv kv : Value) (I : List IntentV) (K : List KeptV) (M : List Int) (C : CallsV) (s : Value) (w : World)
    (hwf : ∀ x ∈ K, in8 x.phase) (hcw : ∀ x ∈ C.opens, x.wf) (hI : RowOf 4 encIn w iv I) (hK : RowOf 8 encKp w kv K) (hM : RowOf 1 encI w mv M) (hs : Row12 w s C.opens) (hA : Asked w) :
    Calls Tryd.prog 5 #[.agg (brT f g mv iv kv), calls C.epoch C.next s] w fun e w' => e = .returned (.bool true) ∧ Below w.heap.size w w' := by
  obtain ⟨cs, hcs⟩ : ∃ cs, cs = brT f g mv iv kv := ⟨_, rfl⟩
  have hbc : BC cs iv kv := by rw [hcs]; exact brT_bc _ _ _ _ _
  rw [← hcs]
  obtain ⟨ia, ic, rfl, hn1, _, _, _⟩ := hI.open
  obtain ⟨ka, kc, rfl, hk1, _, _, _⟩ := hK.open
  obtain ⟨sa, sc, rfl, hs1, _, _, _⟩ := hs.open
  obtain ⟨W1, hW1⟩ : ∃ W1, W1 = (w.alloc (.cells cs 30)).alloc (.cells #[.int .i64 C.epoch, .int .i64 C.next, .slice sa C.opens.length sc] 33) := ⟨_, rfl⟩
  have hds : DS cs mv (.slice ia I.length ic) (.slice ka K.length kc) I K M C (.slice sa C.opens.length sc) w W1 := by rw [hW1]; exact DS.new hI hK hM hs hA
  have hg := great_any cs _ _ hbc ia I.length ic ka K.length kc rfl rfl C.epoch C.next sa C.opens.length sc W1
  obtain ⟨gb, hgb⟩ : ∃ gb, (decide ((40 : Int) < (K.length : Int)) || (decide ((40 : Int) < (I.length : Int)) || decide ((60 : Int) < (C.opens.length : Int)))) = gb := ⟨_, rfl⟩
  rw [hgb] at hg
  have HG := hid hg
  have H1 := hid hds
  have HCS := hid hcs
  have HBC := hid hbc
  have HWF := hid hwf
  have HCW := hid hcw
  have HGB := hid hgb
  have hl := hds.load hbc
  rw [hW1] at hl
  have HW1 := hid hW1
  unfold calls at HG ⊢
  clear hg hds hcs hbc hwf hcw hgb hW1 hI hK hM hs hA
  go_enter Tryd.func5, Tryd.ntmps5
  go_wp2_with fail
  rw [← HW1.out]
  refine HG.out.mono ?_
  rintro e v1 ⟨rfl, hb⟩
  have H2 := hid (H1.out.below hb)
  clear hb hl
  cases gb with
  | true =>
    go_wp2_with fail
    refine (wakes_any _ H2.out.ask).mono ?_
    rintro e v2 ⟨rfl, hb⟩
    have HE := hid (H2.out.below hb).bel
    clear hb
    go_wp2
    go_ret
    exact ⟨rfl, HE.out⟩
  | false =>
    have hgl : K.length ≤ 40 ∧ I.length ≤ 40 ∧ C.opens.length ≤ 60 := by
      have := HGB.out
      simp at this
      omega
    have HR := hid (right13_any f g mv _ _ I K M v1 (by omega) (by omega) H2.out.ri H2.out.rk H2.out.rm)
    rw [← HCS.out] at HR
    have hl := H2.out.load HBC.out
    go_wp2_with fail
    refine HR.out.mono ?_
    rintro e v2 ⟨⟨r, rfl, hrf⟩, hb⟩
    have H3 := hid (H2.out.below hb)
    have HRF := hid hrf
    clear hb hl hrf
    cases r with
    | false =>
      go_wp2_with fail
      refine (wakes_any _ H3.out.ask).mono ?_
      rintro e v3 ⟨rfl, hb⟩
      have HE := hid (H3.out.below hb).bel
      clear hb
      go_wp2
      go_ret
      exact ⟨rfl, HE.out⟩
    | true =>
      obtain ⟨rb, hrb⟩ : ∃ rb, rightB C = rb := ⟨_, rfl⟩
      have hrr := rright_any C.epoch C.next (.slice sa C.opens.length sc) C.opens v2 (by omega) HCW.out H3.out.rc
      rw [show (⟨C.epoch, C.next, C.opens⟩ : CallsV) = C from rfl, hrb] at hrr
      have HRR := hid hrr
      have HRB := hid hrb
      unfold calls at HRR
      clear hrr hrb
      obtain ⟨p0, p1, p2, pf, pl⟩ := blk3 H3.out.box
      go_wp2_with fail
      refine HRR.out.mono ?_
      rintro e v3 ⟨rfl, hb⟩
      have H4 := hid (H3.out.below hb)
      clear hb p0 p1 p2 pf pl
      cases rb with
      | false =>
        go_wp2_with fail
        refine (wakes_any _ H4.out.ask).mono ?_
        rintro e v4 ⟨rfl, hb⟩
        have HE := hid (H4.out.below hb).bel
        clear hb
        go_wp2
        go_ret
        exact ⟨rfl, HE.out⟩
      | true =>
        have HD := hid (drop_any cs _ _ HBC.out I K C.epoch C.next (.slice sa C.opens.length sc) C.opens v3 (by omega) (by omega) HWF.out H4.out.ask H4.out.ri H4.out.rk (by omega) H4.out.rc)
        obtain ⟨D, hD⟩ : ∃ D, dropL I K C.opens = D := ⟨_, rfl⟩
        rw [hD] at HD
        have HDD := hid hD
        unfold calls at HD
        have hl := H4.out.load HBC.out
        obtain ⟨p0, p1, p2, pf, pl⟩ := blk3 H4.out.box
        clear hD
        go_wp2_with fail
        refine HD.out.mono ?_
        rintro e v4 ⟨dv, rfl, hown, hb⟩
        obtain ⟨da, dc, rfl, hd1, _, _, _⟩ := (hown.row encC_len (by decide)).open
        have H5 := hid (H4.out.below hb)
        have RD := hid (hown.row encC_len (by decide))
        clear hb hown p0 p1 p2 pf pl hl
        obtain ⟨U, hU⟩ : ∃ U, U = v4.alloc (.cells #[.int .i64 C.epoch, .int .i64 C.next, .slice da D.length dc] 33) := ⟨_, rfl⟩
        have hb : Below v4.heap.size v4 U := by rw [hU]; exact (Below.refl _ _).alloc (Nat.le_refl _) _
        have H6 := hid (H5.out.below hb)
        have BD := hid (show U.heap[v4.heap.size]? = some (.cells #[.int .i64 C.epoch, .int .i64 C.next, .slice da D.length dc] 33) by rw [hU]; exact heap_new _ _)
        have RD6 := hid (RowOf.below RD.out hb)
        have HU := hid hU
        clear hb hU
        go_wp2_with fail
        rw [← HU.out]
        go_loopw [6, 7] (fun a b wr => ∃ i : Nat, b = .int .i64 i ∧ a = .int .i64 ((dropL I K (C.opens.take i)).length : Nat) ∧ i ≤ C.opens.length ∧ Below U.heap.size U wr) (fun _ b _ => C.opens.length - (intOf b).toNat)
        case atStart => exact ⟨0, rfl, rfl, Nat.zero_le _, Below.refl _ _⟩
        case round =>
          obtain ⟨i, rfl, rfl, hi, hB⟩ := hrel
          obtain ⟨k, hk⟩ : ∃ k, (dropL I K (C.opens.take i)).length = k := ⟨_, rfl⟩
          rw [hk]
          have HK := hid hk
          have H7 := hid (H6.out.below hB)
          have BD7 := hid (blk_below BD.out hB (blk_lt BD.out))
          have RD7 := hid (RowOf.below RD6.out hB)
          have HB := hid hB
          clear hk hB
          obtain ⟨p0, p1, p2, pf, pl⟩ := blk3 H7.out.box
          by_cases hlt : i < C.opens.length
          · obtain ⟨_, _, he, _, _, _, hop⟩ := H7.out.rc.open
            simp only [Value.slice.injEq] at he
            obtain ⟨rfl, -, rfl⟩ := he
            obtain ⟨b1, o1, rfl, hb1, hr1⟩ := hop (by omega)
            obtain ⟨x, hx⟩ := get_lt hlt
            obtain ⟨g0, g1, g2, g3⟩ := row4 hr1 hx
            have HX := hid hx
            have hiL : (i : Int) < (C.opens.length : Int) := by omega
            obtain ⟨U8, hU8⟩ : ∃ U8, U8 = wr.alloc (.cells #[.int .i64 x.id, .int .u8 x.kind, .int .i64 x.key, .int .i64 x.sent] 45) := ⟨_, rfl⟩
            have hb8 : Below wr.heap.size wr U8 := by rw [hU8]; exact (Below.refl _ _).alloc (Nat.le_refl _) _
            have X8 := hid (show U8.heap[wr.heap.size]? = some (.cells #[.int .i64 x.id, .int .u8 x.kind, .int .i64 x.key, .int .i64 x.sent] 45) by rw [hU8]; exact heap_new _ _)
            have H8 := hid (H7.out.below hb8)
            have HB8 := hid hb8
            have hl8 := H8.out.load HBC.out
            have HIS := hid (is_any cs _ _ HBC.out I K ⟨x.kind, x.key⟩ U8 (by omega) (by omega) HWF.out H8.out.ask H8.out.ri H8.out.rk)
            rw [hU8] at hl8
            have HU8 := hid hU8
            unfold encDv at HIS
            clear hx hb8 hU8
            by_cases h7 : x.kind = 7
            · have hq : (x.kind == 7) = true := by simpa using h7
              have hp : (!goneB I K x) = true := by simp [goneB, h7]
              clear h7 hl8
              obtain ⟨hdk, hln⟩ := filt_step (p := fun x => !goneB I K x) HX.out hp
              rw [show C.opens.filter (fun x => !goneB I K x) = D from HDD.out, show ((C.opens.take i).filter (fun x => !goneB I K x)).length = k from HK.out] at hdk
              rw [show ((C.opens.take i).filter (fun x => !goneB I K x)).length = k from HK.out] at hln
              have hkl := lt_get hdk
              have hkL : (k : Int) < (D.length : Int) := by omega
              have HLN := hid (show (dropL I K (C.opens.take (i + 1))).length = k + 1 from hln)
              obtain ⟨_, _, he2, _, _, _, hop2⟩ := RD7.out.open
              simp only [Value.slice.injEq] at he2
              obtain ⟨rfl, -, rfl⟩ := he2
              obtain ⟨db, dO, rfl, hdb, hrd⟩ := hop2 (by omega)
              have hne := neq_run x x
              rw [sameX_iff.2 rfl] at hne
              have HB9 := hid (show Below wr.heap.size wr (wr.alloc (.cells #[.int .i64 x.id, .int .u8 x.kind, .int .i64 x.key, .int .i64 x.sent] 45)) from by rw [← HU8.out]; exact HB8.out)
              obtain ⟨m0, m1, m2, m3⟩ := row4 (hrd.below HB9.out hdb) hdk
              obtain ⟨d0, d1, d2, df, dl⟩ := blk3 (blk_below BD7.out HB9.out (blk_lt BD7.out))
              have hdz : db < (wr.alloc (.cells #[.int .i64 x.id, .int .u8 x.kind, .int .i64 x.key, .int .i64 x.sent] 45)).heap.size := by have := HB9.out.size; omega
              clear hp
              go_wp2
              go_quiet (fail)
              go_wp2
              go_roundw
              case rel => exact ⟨i + 1, by go_num, by rw [HLN.out]; go_num, by omega, below_drewN (HB.out.trans (HB9.out.mono HB.out.size)) _⟩
              case measure => simp [intOf]; omega
            · have hq : (x.kind == 7) = false := by simpa using h7
              obtain ⟨bb, hbb⟩ : ∃ bb, decide ((⟨x.kind, x.key⟩ : DutyV) ∈ dutiesL I K) = bb := ⟨_, rfl⟩
              rw [hbb] at HIS
              have HBB := hid hbb
              have H7x := hid h7
              clear hbb h7
              go_wp2_with fail
              rw [← HU8.out]
              refine HIS.out.mono ?_
              rintro e w9 ⟨rfl, hb9⟩
              have X9 := hid (blk_below X8.out hb9 (blk_lt X8.out))
              have H89 := hid (HB8.out.trans (hb9.mono HB8.out.size))
              clear hb9 hl8
              cases bb with
              | true =>
                have hp : (!goneB I K x) = true := by simp [goneB, HBB.out]
                obtain ⟨hdk, hln⟩ := filt_step (p := fun x => !goneB I K x) HX.out hp
                rw [show C.opens.filter (fun x => !goneB I K x) = D from HDD.out, show ((C.opens.take i).filter (fun x => !goneB I K x)).length = k from HK.out] at hdk
                rw [show ((C.opens.take i).filter (fun x => !goneB I K x)).length = k from HK.out] at hln
                have hkl := lt_get hdk
                have hkL : (k : Int) < (D.length : Int) := by omega
                have HLN := hid (show (dropL I K (C.opens.take (i + 1))).length = k + 1 from hln)
                obtain ⟨_, _, he2, _, _, _, hop2⟩ := RD7.out.open
                simp only [Value.slice.injEq] at he2
                obtain ⟨rfl, -, rfl⟩ := he2
                obtain ⟨db, dO, rfl, hdb, hrd⟩ := hop2 (by omega)
                have hne := neq_run x x
                rw [sameX_iff.2 rfl] at hne
                have HB9 := hid (show Below wr.heap.size wr w9 from H89.out)
                obtain ⟨m0, m1, m2, m3⟩ := row4 (hrd.below HB9.out hdb) hdk
                obtain ⟨d0, d1, d2, df, dl⟩ := blk3 (blk_below BD7.out HB9.out (blk_lt BD7.out))
                have hdz : db < (w9).heap.size := by have := HB9.out.size; omega
                clear hp
                obtain ⟨x0, x1, x2, x3, xf, xl⟩ := blk4 X9.out
                go_wp2
                go_quiet (fail)
                go_wp2
                go_roundw
                case rel => exact ⟨i + 1, by go_num, by rw [HLN.out]; go_num, by omega, below_drewN (HB.out.trans (HB9.out.mono HB.out.size)) _⟩
                case measure => simp [intOf]; omega
              | false =>
                have hp : (!goneB I K x) = false := by simp [goneB, HBB.out, H7x.out]
                have HLN := hid (show (dropL I K (C.opens.take (i + 1))).length = k by rw [← HK.out]; exact filt_skip (p := fun x => !goneB I K x) HX.out hp)
                obtain ⟨d0, d1, d2, df, dl⟩ := blk3 (blk_below BD7.out H89.out (blk_lt BD7.out))
                obtain ⟨x0, x1, x2, x3, xf, xl⟩ := blk4 X9.out
                clear hp
                go_wp2
                go_quiet (fail)
                go_wp2
                go_roundw
                case rel => exact ⟨i + 1, by go_num, by rw [HLN.out], by omega, below_drewN (HB.out.trans (H89.out.mono HB.out.size)) _⟩
                case measure => simp [intOf]; omega
          · obtain rfl : i = C.opens.length := by omega
            have hkd : D.length = k := by have := HK.out; rw [List.take_length, HDD.out] at this; exact this
            have hkc : ((k : Int) == (D.length : Int)) = true := beq_iff_eq.2 (by omega)
            have hdl : D.length ≤ 60 := by
              have := List.length_filter_le (fun x => !goneB I K x) C.opens
              have e := HDD.out
              unfold dropL at e
              rw [e] at this
              omega
            have HWD := hid (show ∀ x ∈ D, x.wf by rw [← HDD.out]; intro x hx; exact HCW.out x ((List.mem_filter.1 hx).1))
            have HRD := hid (show rightB ⟨C.epoch, C.next, D⟩ = true by rw [← HDD.out]; exact rightB_filt _ HRB.out)
            have HDT := hid (show dropL I K D = D by rw [← HDD.out]; exact dropL_twice I K C.opens)
            have D0c := hid (blk3 BD7.out).1
            have D1c := hid (blk3 BD7.out).2.1
            have D2c := hid (blk3 BD7.out).2.2.1
            have C1c := hid (blk3 H7.out.box).2.1
            have HALL := hid (show ∀ W, Below wr.heap.size wr W → Below wr.heap.size wr W ∧ W.cell? ⟨v4.heap.size, 0, none⟩ = some (.int .i64 C.epoch) ∧ W.cell? ⟨v4.heap.size, 1, none⟩ = some (.int .i64 C.next) ∧ W.cell? ⟨v4.heap.size, 2, none⟩ = some (.slice da D.length dc) ∧ W.cell? ⟨w.heap.size + 1, 1, none⟩ = some (.int .i64 C.next) ∧ (loadVar 30 ⟨w.heap.size, 0, none⟩).run Tryd.prog W = .ok (.agg cs) W from fun W hb => ⟨hb, cell_below D0c.out hb, cell_below D1c.out hb, cell_below D2c.out hb, cell_below C1c.out hb, (H7.out.below hb).load HBC.out⟩)
            obtain ⟨d0, d1, d2, df, dl⟩ := blk3 BD7.out
            clear hkd
            go_wp2_with fail
            clear d0 d1 d2 df dl p0 p1 p2 pf pl
            go_region_held3 (fun W => Below wr.heap.size wr W ∧ W.cell? ⟨v4.heap.size, 0, none⟩ = some (.int .i64 C.epoch) ∧ W.cell? ⟨v4.heap.size, 1, none⟩ = some (.int .i64 C.next) ∧ W.cell? ⟨v4.heap.size, 2, none⟩ = some (.slice da D.length dc) ∧ W.cell? ⟨w.heap.size + 1, 1, none⟩ = some (.int .i64 C.next) ∧ (loadVar 30 ⟨w.heap.size, 0, none⟩).run Tryd.prog W = .ok (.agg cs) W) (first | exact HALL.out _ (below_drewN (Below.refl _ _) 1) | (go_split_ands; exact HALL.out _ (below_call (by assumption) hbt1)) | (go_split_ands; exact HALL.out _ (below_call (by assumption) hbt2)) | (go_split_ands; exact HALL.out _ (below_call (by assumption) hbt3)) | (go_split_ands; exact HALL.out _ (below_call (by assumption) hbt4)) | (go_split_ands; exact HALL.out _ (below_realloc (by assumption) (by omega))) | (go_split_ands; exact HALL.out _ (below_set4 (by assumption) (by first | omega | (simp; omega)) _ _ _ _)) | (go_split_ands; exact HALL.out _ (below_alloc (by assumption) _))) (first | (go_at_call 8; go_split_ands; refine (rright_yes C.epoch C.next _ D _ (by omega) HWD.out (RowOf.below RD7.out (by assumption)) HRD.out).mono ?_; rintro e x1 ⟨rfl, hbt1⟩) | (go_at_call 16; go_split_ands; refine (drop_any cs _ _ HBC.out I K C.epoch C.next _ D _ (by omega) (by omega) HWF.out (H7.out.below (by assumption)).ask (H7.out.below (by assumption)).ri (H7.out.below (by assumption)).rk (by omega) (RowOf.below RD7.out (by assumption))).mono ?_; rintro e x2 ⟨u, rfl, hou, hbt2⟩; rw [HDT.out] at hou; obtain ⟨ua, uc, rfl, _, _, _, _⟩ := (hou.row encC_len (by decide)).open; have HOU := hid (hou.row encC_len (by decide)); dsimp only [calls]) | (go_at_call 11; go_split_ands; refine (rsame_yes C.epoch C.next _ _ D _ (by omega) HOU.out (RowOf.below RD7.out (by assumption))).mono ?_; rintro e x3 ⟨rfl, hbt3⟩) | (go_at_call 9; go_split_ands; refine (wakes_any _ (H7.out.below (by assumption)).ask).mono ?_; rintro e x4 ⟨rfl, hbt4⟩))
            go_split_ands
            have hend := H7.out.bel.trans (Below.mono (show Below wr.heap.size wr x4 by assumption) H7.out.bel.size)
            have HE := hid hend
            clear hend
            go_wp2
            go_ret
            exact ⟨rfl, HE.out⟩
end Go.Proofs.YtljmhmdpihpafaaDoor
