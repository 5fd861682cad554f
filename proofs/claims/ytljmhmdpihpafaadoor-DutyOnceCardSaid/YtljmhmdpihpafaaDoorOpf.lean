/- duty.Open: a call for each duty that has none. -/
import Derived.Test.YtljmhmdpihpafaaDoorOpd
import Derived.Deep.Cut
import Derived.Deep.RegionLaw
namespace Go.Proofs.YtljmhmdpihpafaaDoor
open Go.RowKit Go.Shelf
attribute [-go_sem] loadVar
attribute [local go_sem] load_other

/-- What holds at each jump of Open. -/
def OpenJ (cs : Array Value) (I : List IntentV) (K : List KeptV) (now : Int) (C : CallsV) (sa : Option Addr) (sc : Nat) (w : World) (T : CallsV × List AskV) (N : Nat) (a' : Act) (W : World) : Prop :=
  ∃ (R : List DutyV) (O : CallsV) (AS : List AskV) (lv ov av : Value) (u9 u10 u11 u12 u13 u14 u15 u16 u17 u18 u19 u20 u21 u22 u23 u24 u25 u26 u27 u28 u29 u30 u31 u32 u33 u34 u35 u36 u37 u38 u39 u40 u41 u42 u43 u44 u45 u46 u47 u48 u49 u50 u51 u52 u53 u54 u55 u56 u57 : Value), a' = { tmps := #[.agg cs, calls C.epoch C.next (.slice sa C.opens.length sc), .int .i64 now, .pointer (some ⟨w.heap.size, 0, none⟩), .pointer (some ⟨w.heap.size + 1, 0, none⟩), undef, .pointer (some ⟨w.heap.size + 1 + 1, 0, none⟩), av, lv, u9, u10, u11, u12, u13, u14, u15, u16, u17, u18, u19, u20, u21, u22, u23, u24, u25, u26, u27, u28, u29, u30, u31, u32, u33, u34, u35, u36, u37, u38, u39, u40, u41, u42, u43, u44, u45, u46, u47, u48, u49, u50, u51, u52, u53, u54, u55, u56, u57], defers := [] } ∧ OpenI cs I K now C w T N R O AS lv ov av W

set_option maxHeartbeats 8000000 in
set_option maxRecDepth 100000 in
theorem dopen_any (cs : Array Value) (iv kv : Value) (hcs : BC cs iv kv) (I : List IntentV) (K : List KeptV) (C : CallsV) (s : Value) (now : Int) (w : World) (hl1 : I.length ≤ 1000) (hl2 : K.length ≤ 1000) (hwf : ∀ x ∈ K, in8 x.phase)
    (hA : Asked w) (hI : RowOf 4 encIn w iv I) (hK : RowOf 8 encKp w kv K) (hL : C.opens.length ≤ 10000) (hs : Row12 w s C.opens) :
    Calls Tryd.prog 10 #[.agg cs, calls C.epoch C.next s, .int .i64 now] w fun e w' => OpenEnd w (openD I now C (dutiesL I K)) e w' := by
  obtain ⟨sa, sc, rfl, _, _, _, _⟩ := hs.open
  obtain ⟨W, hW⟩ : ∃ W, W = ((w.alloc (.cells cs 30)).alloc (.cells #[.int .i64 C.epoch, .int .i64 C.next, .slice sa C.opens.length sc] 33)).alloc (.cells #[.int .i64 C.epoch, .int .i64 C.next, .slice sa C.opens.length sc] 33) := ⟨_, rfl⟩
  have hB : Below w.heap.size w W := by rw [hW]; exact (((Below.refl _ _).alloc (Nat.le_refl _) _).alloc (by simp) _).alloc (by simp; omega) _
  have hz : W.heap.size = w.heap.size + 3 := by rw [hW]; simp
  have B0 := hid (show BB W w.heap.size cs by rw [hW]; exact blk_alloc (blk_alloc (heap_new _ _) _) _)
  have B2 := hid (show W.heap[w.heap.size + 2]? = some (.cells #[.int .i64 C.epoch, .int .i64 C.next, .slice sa C.opens.length sc] 33) by rw [hW]; simpa using heap_new2 (w.alloc _) _ (.cells #[.int .i64 C.epoch, .int .i64 C.next, .slice sa C.opens.length sc] 33))
  have HCL := hid (clone_any _ C.opens W (by omega) (hs.below hB))
  have HAA := hid hA
  have HI := hid hI
  have HK := hid hK
  have HB := hid hB
  have HCS := hid hcs
  have HWF := hid hwf
  have HW := hid hW
  obtain ⟨i0, hi, hz0, hz1, hz2⟩ := info_parts infoAs
  have HI0 := hid hi
  have HI1 := hid hz0
  have HI2 := hid hz1
  have HI3 := hid hz2
  have HN := hid (duties_len I K)
  obtain ⟨T, hT⟩ : ∃ T, openD I now C (dutiesL I K) = T := ⟨_, rfl⟩
  rw [hT]
  have HT := hid hT
  obtain ⟨N, hN⟩ : ∃ N, C.opens.length + (dutiesL I K).length = N := ⟨_, rfl⟩
  have HNN := hid hN
  have hN2 : N ≤ 12000 := by have := HN.out; omega
  clear hB hA hI hK hs hcs hwf hW hi hz0 hz1 hz2 hT hN
  unfold calls
  go_enter Tryd.func10, Tryd.ntmps10
  go_wp2
  refine wp_scope_jumps 0 (OpenJ cs I K now C sa sc w T N) (fun a' _ => sliceLen (a'.tmps.getD 8 undef)) rfl ?first ?pass
  case first =>
    go_wp2_with fail
    rw [← HW.out]
    refine HCL.out.mono ?_
    rintro e w1 ⟨v, rfl, hown, hb1⟩
    obtain ⟨va, vn, vc, rfl⟩ := hown.shape
    have hz1 := hb1.size
    have C2 := blk_below B2.out hb1 (by omega)
    obtain ⟨c0, c1, c2, cf, cl⟩ := blk3 C2
    have BX := B0.out.below hb1 (by omega)
    have HO := hid hown
    have HB1 := hid (HB.out.trans (hb1.mono (by omega)))
    obtain ⟨W2, hW2⟩ : ∃ W2, W2 = w1.setCell ⟨w.heap.size + 1 + 1, 2, none⟩ (.slice va vn vc) := ⟨_, rfl⟩
    have hb2 : Below w.heap.size w W2 := by rw [hW2]; exact HB1.out.setCell (p := ⟨w.heap.size + 1 + 1, 2, none⟩) (by dsimp only; omega) _
    have BX2 : BB W2 w.heap.size cs := by rw [hW2]; exact blk_other BX (p := ⟨w.heap.size + 1 + 1, 2, none⟩) (by dsimp only; omega) _
    have O2 := hid (show Own12 W2 (w.heap.size + 3) (.slice va vn vc) C.opens by rw [hW2]; exact (Owns.other HO.out (p := ⟨w.heap.size + 1 + 1, 2, none⟩) (by dsimp only; omega) _).mono (by omega))
    have X2 := hid (show W2.heap[w.heap.size + 2]? = some (.cells #[.int .i64 C.epoch, .int .i64 C.next, .slice va vn vc] 33) by rw [hW2]; exact blk_set C2 2 _)
    have hsz2 : W2.heap.size = w1.heap.size := by rw [hW2]; simp [World.setCell]
    have hload := BX2.load HCS.out
    rw [hW2] at hload
    have HOF := hid (of_any cs iv kv HCS.out I K W2 hl1 hl2 HWF.out (HAA.out.below hb2) (HI.out.below hb2) (HK.out.below hb2))
    have HB2 := hid hb2
    have HBX2 := hid BX2
    have HW2 := hid hW2
    clear hown hb1 hb2 hW2 C2 BX BX2
    go_wp2_with fail
    rw [← HW2.out]
    refine HOF.out.mono ?_
    rintro e w3 ⟨lv, rfl, hown3, hb3⟩
    have hz3 := hb3.size
    obtain ⟨ov, hov⟩ : ∃ ov, ov = Value.slice va vn vc := ⟨_, rfl⟩
    obtain ⟨R, hR⟩ : ∃ R, R = dutiesL I K := ⟨_, rfl⟩
    obtain ⟨O, hO⟩ : ∃ O, O = C := ⟨_, rfl⟩
    obtain ⟨AS, hAS⟩ : ∃ AS : List AskV, AS = [] := ⟨_, rfl⟩
    have hinv : OpenI cs I K now C w T N R O AS lv ov (.slice none 0 0) w3 := by
      subst hov
      subst hR
      subst hO
      subst hAS
      exact ⟨HT.out, by have := HNN.out; omega, by have := HNN.out; simp; omega, fun _ h => h, hown3.trow encD_len (by decide), (O2.out.trow encC_len (by decide)).kept (KeptT.below hb3), Owns.nil _ _, blk_below X2.out hb3 (by omega), HBX2.out.below hb3 (by omega), HB2.out.trans (hb3.mono (by omega)), by omega⟩
    have HINV := hid hinv
    clear c0 c1 c2 cf cl hload hown3 hb3 hinv hov hR hO hAS
    have hbox := HINV.out.box
    obtain ⟨oa, oc, hov, _, _, _, _⟩ := HINV.out.call
    subst hov
    obtain ⟨la, lc, hlv, _, _, _, _⟩ := HINV.out.row
    subst hlv
    have hsz := HINV.out.size
    cases R with
    | nil =>
      obtain ⟨p0, p1, p2, pf, pl⟩ := blk3 hbox
      have hz0 : ((0 : Int) == 0) = true := rfl
      go_wp2_with fail
      go_step3
      go_wp2
      try simp only [Exit.jump]
      have hf := HINV.out.fold
      simp only [List.foldl_nil] at hf
      subst hf
      refine bodyPost_ret (res_calls_tmp (b := w.heap.size + 1 + 1) (x := .int .i64 O.epoch) (y := .int .i64 O.next) (z := .slice oa O.opens.length oc) rfl rfl rfl (set3 HINV.out.box _ _ _)) rfl ⟨_, _, rfl, ?_, ?_, set3_below HINV.out.bel (by omega) _ _ _⟩
      · exact (HINV.out.call.kept (set3_kept (b := w.heap.size + 1 + 1) HINV.out.box (by decide) _ _ _)).row
      · exact ((HINV.out.own.trow encA_len (by decide)).kept (set3_kept (b := w.heap.size + 1 + 1) HINV.out.box (by decide) _ _ _)).row
    | cons d R' =>
      simp only [List.length_cons] at HINV ⊢
      obtain ⟨rb, ro, rfl, hc1, hc2, hc3, g0, g1, gl, htail⟩ := HINV.out.row.tail
      obtain ⟨A, hA⟩ : ∃ A : Option Addr, (if lc = 1 then some (⟨rb, ro, none⟩ : Addr) else some ⟨rb, ro + 2, none⟩) = A := ⟨_, rfl⟩
      have HTL := hid (htail A hA.symm)
      have hz0 : ((R'.length : Int) + 1 == 0) = false := by apply Bool.eq_false_iff.2; intro h; have := beq_iff_eq.1 h; omega
      have hlen := HINV.out.len1
      have hal := HINV.out.len2
      simp only [List.length_cons] at hlen hal
      obtain ⟨hh, hhh⟩ : ∃ b, hasB O.opens d.kind d.key = b := ⟨_, rfl⟩
      obtain ⟨U, hU⟩ : ∃ U, U = w3.alloc (.cells #[.int .u8 d.kind, .int .i64 d.key] 47) := ⟨_, rfl⟩
      have hbU : Below w3.heap.size w3 U := by rw [hU]; exact (Below.refl _ _).alloc (Nat.le_refl _) _
      have hd := has_row O.epoch O.next d.kind d.key (.slice oa O.opens.length oc) O.opens U (by omega) ((HINV.out.call.kept (KeptT.below hbU)).row)
      rw [hhh] at hd
      have HHAS := hid hd
      have HHH := hid hhh
      have HBU := hid hbU
      have DX := hid (show U.heap[w3.heap.size]? = some (.cells #[.int .u8 d.kind, .int .i64 d.key] 47) by rw [hU]; exact heap_new _ _)
      have HUU := hid hU
      unfold calls at HHAS
      obtain ⟨p0, p1, p2, pf, pl⟩ := blk3 hbox
      clear hd hhh hbU hU htail hbox
      go_wp2_with fail
      go_step3
      go_wp2_with fail
      rw [← HUU.out]
      refine HHAS.out.mono ?_
      rintro e w4 ⟨rfl, hb4⟩
      have H4 := hid (HBU.out.trans (hb4.mono HBU.out.size))
      have hz4 := H4.out.size
      have HU4 := hid hb4
      clear hb4 p0 p1 p2 pf pl
      cases hh with
      | true =>
        go_wp2
        go_step3
        refine ⟨rfl, R', O, AS, _, (.slice oa O.opens.length oc), (.slice none 0 0), _, _, _, _, _, _, _, _, _, _, _, _, _, _, _, _, _, _, _, _, _, _, _, _, _, _, _, _, _, _, _, _, _, _, _, _, _, _, _, _, _, _, _, _, _, _, _, _, _, rfl, ?_⟩
        exact HINV.out.skip (by unfold stepO; rw [if_pos HHH.out]) H4.out (HTL.out.kept (KeptT.below H4.out))
      | false =>
        obtain ⟨er, her⟩ : ∃ er, openErr O d.kind d.key now = er := ⟨_, rfl⟩
        obtain ⟨di, hdi⟩ : ∃ di, openId O d.kind d.key now = di := ⟨_, rfl⟩
        obtain ⟨O', hO'⟩ : ∃ O', openC O d.kind d.key now = O' := ⟨_, rfl⟩
        have hop := open_any O.epoch O.next d.kind d.key now (.slice oa O.opens.length oc) O.opens w4 (by omega) ((HINV.out.call.kept (KeptT.below H4.out)).row)
        rw [show (⟨O.epoch, O.next, O.opens⟩ : CallsV) = O from rfl, her, hdi, hO'] at hop
        have HOP := hid hop
        have HER := hid her
        have HDI := hid hdi
        have HO' := hid hO'
        unfold calls at HOP
        clear hop her hdi hO'
        have X4 := hid (blk_below HINV.out.box H4.out (blk_lt HINV.out.box))
        have D4 := hid (blk_below DX.out HU4.out (blk_lt DX.out))
        obtain ⟨p0, p1, p2, pf, pl⟩ := blk3 X4.out
        obtain ⟨q0, q1, qf, ql⟩ := blk2 D4.out
        go_wp2_with fail
        refine HOP.out.mono ?_
        rintro e w5 ⟨pv, rfl, hown5, hb5⟩
        obtain ⟨pa, pn, pc, rfl⟩ := hown5.shape
        have HO5 := hid hown5
        have H5 := hid (H4.out.trans (hb5.mono hz4))
        have hz5 := H5.out.size
        have D5 := hid (blk_below D4.out hb5 (blk_lt D4.out))
        clear hown5 hb5 p0 p1 p2 pf pl q0 q1 qf ql
        by_cases he0 : er = 0
        · subst he0
          have hee : ((0 : Int) == 0) = true := rfl
          have hask : askOk I d := askOk_of (HINV.out.sub d List.mem_cons_self)
          have HASK := hid hask
          obtain ⟨W9, hW9⟩ : ∃ W9, W9 = w5.alloc (.cells #[.int .i64 O.epoch, .int .i64 O'.next, .slice pa pn pc] 33) := ⟨_, rfl⟩
          have h59 : Below w5.heap.size w5 W9 := by rw [hW9]; exact (Below.refl _ _).alloc (Nat.le_refl _) _
          have h9 : Below w3.heap.size w3 W9 := H5.out.trans (h59.mono hz5)
          have hz9 : W9.heap.size = w5.heap.size + 1 := by rw [hW9]; simp
          have PX := hid (show W9.heap[w5.heap.size]? = some (.cells #[.int .i64 O.epoch, .int .i64 O'.next, .slice pa pn pc] 33) by rw [hW9]; exact heap_new _ _)
          have D9 := hid (blk_below D5.out h59 (blk_lt D5.out))
          have X9 := hid (show W9.heap[w.heap.size + 1 + 1]? = some (.cells #[.int .i64 O.epoch, .int .i64 O.next, .slice oa O.opens.length oc] 33) from blk_below HINV.out.box h9 (blk_lt HINV.out.box))
          have B9 := hid (HINV.out.brain.below h9 (blk_lt HINV.out.brain))
          have OWN9 := hid (HINV.out.own.below h9)
          have HTY := hid OWN9.out.typed
          have Z9 := hid (HINV.out.bel.trans (h9.mono (by omega)))
          have RT9 := hid (HTL.out.kept (KeptT.below h9))
          have RC9 := hid ((HO5.out.trow encC_len (by decide)).kept (KeptT.below h59))
          have P0 := hid (blk3 PX.out)
          have Q0 := hid (blk2 D9.out)
          have HW9 := hid hW9
          have HALL := hid (show ∀ W, KeptB W9 (w.heap.size + 1 + 1) W → KeptB W9 (w.heap.size + 1 + 1) W ∧ W.cell? ⟨w5.heap.size, 0, none⟩ = some (.int .i64 O.epoch) ∧ W.cell? ⟨w5.heap.size, 1, none⟩ = some (.int .i64 O'.next) ∧ W.cell? ⟨w5.heap.size, 2, none⟩ = some (.slice pa pn pc) ∧ W.cell? ⟨w3.heap.size, 0, none⟩ = some (.int .u8 d.kind) ∧ W.cell? ⟨w3.heap.size, 1, none⟩ = some (.int .i64 d.key) ∧ (loadVar 30 ⟨w.heap.size, 0, none⟩).run Tryd.prog W = .ok (.agg cs) W from fun W hk => by
            have e1 := hk.block _ _ _ PX.out (by decide) (by omega)
            have e2 := hk.block _ _ _ D9.out (by decide) (by omega)
            have e3 : BB W w.heap.size cs := hk.block _ _ _ B9.out (by decide) (by omega)
            exact ⟨hk, blk_cell e1 0, blk_cell e1 1, blk_cell e1 2, blk_cell e2 0, blk_cell e2 1, e3.load HCS.out⟩)
          clear hask h59 h9 hW9 P0 Q0
          go_wp2_with fail
          rw [← HW9.out]
          go_region_held3 (fun W => KeptB W9 (w.heap.size + 1 + 1) W ∧ W.cell? ⟨w5.heap.size, 0, none⟩ = some (.int .i64 O.epoch) ∧ W.cell? ⟨w5.heap.size, 1, none⟩ = some (.int .i64 O'.next) ∧ W.cell? ⟨w5.heap.size, 2, none⟩ = some (.slice pa pn pc) ∧ W.cell? ⟨w3.heap.size, 0, none⟩ = some (.int .u8 d.kind) ∧ W.cell? ⟨w3.heap.size, 1, none⟩ = some (.int .i64 d.key) ∧ (loadVar 30 ⟨w.heap.size, 0, none⟩).run Tryd.prog W = .ok (.agg cs) W) (first | exact HALL.out _ (KeptB.drew KeptB.refl) | (go_split_ands; exact HALL.out _ (KeptB.call (by assumption) hbt)) | (go_split_ands; exact HALL.out _ (KeptB.grown (by assumption) hgr HTY.out)) | (go_split_ands; exact HALL.out _ (KeptB.set3 (by assumption) _ _ _)) | (go_split_ands; exact HALL.out _ (KeptB.alloc (by assumption) _))) (first
            | (go_at_call 24; go_split_ands; refine (ask_any cs iv kv HCS.out I d di _ hl1 (RowOf.below HI.out (below_drew Z9.out)) HASK.out).mono ?_; rintro e x1 ⟨rfl, hbt⟩; dsimp only [encAv])
            | (refine step_append_one rfl _ _ 38 rfl (w.heap.size + 3) 52 i0 _ 48 Tryd.underlying38 HI0.out HI1.out HI2.out HI3.out rfl (by decide) encA_len (.slice none 0 0) AS rfl (World.ownsRow.alloc (OWN9.out.below (Below.trans (below_drew (Below.refl _ _)) hbt)) _) ⟨x1.heap.size, 0, none⟩ (askV I d di) rfl (encA_one _) (new_cellsA x1 _ _) (by unfold maxLen; omega) (by omega) (by have := hbt.size; have h2 : W9.drew.heap.size = W9.heap.size := rfl; simp; omega) ?_; intro v' w' hown' hbw hgr; obtain ⟨ga, gn, gc, rfl⟩ := hown'.shape; obtain ⟨y0, y1, y2, yf, yl⟩ := blk3 (blk_grown (blk_alloc (blk_below X9.out (Below.trans (below_drew (Below.refl _ _)) hbt) (blk_lt X9.out)) _) hgr (fun e => by have := (Owns.block OWN9.out _ e.symm).1; omega))))
          go_split_ands
          obtain ⟨V, hV⟩ : ∃ V, V = (((w'.setCell ⟨w.heap.size + 1 + 1, 0, none⟩ (.int .i64 O.epoch)).setCell ⟨w.heap.size + 1 + 1, 1, none⟩ (.int .i64 O'.next)).setCell ⟨w.heap.size + 1 + 1, 2, none⟩ (.slice pa pn pc)) := ⟨_, rfl⟩
          have hKB : KeptB W9 (w.heap.size + 1 + 1) V := by rw [hV]; assumption
          have hbx : Below W9.heap.size W9 x1 := Below.trans (below_drew (Below.refl _ _)) hbt
          have hzx := hbx.size
          have hx := blk_grown (blk_alloc (blk_below X9.out hbx (blk_lt X9.out)) _) hgr (fun e => by have := (Owns.block OWN9.out _ e.symm).1; omega)
          have hvx : V.heap[w.heap.size + 1 + 1]? = some (.cells #[.int .i64 O.epoch, .int .i64 O'.next, .slice pa pn pc] 33) := by rw [hV]; exact set3 hx _ _ _
          have hvb : Below w.heap.size w V := by
            rw [hV]
            exact set3_below (((Z9.out.trans (hbx.mono (by omega))).alloc (by omega) _).trans (hbw.mono (by omega))) (by omega) _ _ _
          have hvo : OwnA V (w.heap.size + 3) (.slice ga gn gc) (AS ++ [askV I d di]) := by
            rw [hV]
            exact ((hown'.other (p := ⟨w.heap.size + 1 + 1, 0, none⟩) (by dsimp only; omega) _).other (p := ⟨w.heap.size + 1 + 1, 1, none⟩) (by dsimp only; omega) _).other (p := ⟨w.heap.size + 1 + 1, 2, none⟩) (by dsimp only; omega) _
          have hep : O'.epoch = O.epoch := by rw [← HO'.out]; exact openC_epoch _ _ _ _
          have hle : O'.opens.length ≤ O.opens.length + 1 := by rw [← HO'.out]; exact openC_len _ _ _ _
          have hinv2 : OpenI cs I K now C w T N R' O' (AS ++ [askV I d di]) (.slice A R'.length (lc - 1)) (.slice pa pn pc) (.slice ga gn gc) V := by
            refine ⟨?_, by omega, by simp; omega, fun x hx => HINV.out.sub x (List.mem_cons_of_mem _ hx), RT9.out.kept (hKB.kept X9.out (by decide) (by decide)), RC9.out.kept (hKB.kept X9.out (by decide) (by decide)), hvo, by rw [hep]; exact hvx, hKB.block _ _ _ B9.out (by decide) (by omega), hvb, by have := hKB.size; omega⟩
            have hf := HINV.out.fold
            rw [List.foldl_cons] at hf
            have hst : stepO I now (O, AS) d = (O', AS ++ [askV I d di]) := by
              unfold stepO
              rw [if_neg (by rw [HHH.out]; simp), if_pos HER.out, HO'.out, HDI.out]
            rwa [hst] at hf
          have HINV2 := hid hinv2
          rw [← hV]
          clear hV hKB hbx hzx hx hvx hvb hvo hep hle hinv2 y0 y1 y2 yf yl hown' hbw hgr hbt HALL
          have rl := gl
          go_wp2
          go_step3
          refine ⟨rfl, R', O', (AS ++ [askV I d di]), _, (.slice pa pn pc), (.slice ga gn gc), _, _, _, _, _, _, _, _, _, _, _, _, _, _, _, _, _, _, _, _, _, _, _, _, _, _, _, _, _, _, _, _, _, _, _, _, _, _, _, _, _, _, _, _, _, _, _, _, _, rfl, ?_⟩
          exact HINV2.out
        · have hee : (er == 0) = false := by simpa using he0
          have HE0 := hid he0
          clear he0
          go_wp2
          go_step3
          refine ⟨rfl, R', O, AS, _, (.slice oa O.opens.length oc), (.slice none 0 0), _, _, _, _, _, _, _, _, _, _, _, _, _, _, _, _, _, _, _, _, _, _, _, _, _, _, _, _, _, _, _, _, _, _, _, _, _, _, _, _, _, _, _, _, _, _, _, _, _, rfl, ?_⟩
          exact HINV.out.skip (by unfold stepO; rw [if_neg (by rw [HHH.out]; simp), if_neg (by rw [HER.out]; exact HE0.out)]) (H5.out.alloc hz5 _) (HTL.out.kept (KeptT.below (H5.out.alloc hz5 _)))
  case pass =>
    rintro a' w3 ⟨R, O, AS, lv, ov, av, u9, u10, u11, u12, u13, u14, u15, u16, u17, u18, u19, u20, u21, u22, u23, u24, u25, u26, u27, u28, u29, u30, u31, u32, u33, u34, u35, u36, u37, u38, u39, u40, u41, u42, u43, u44, u45, u46, u47, u48, u49, u50, u51, u52, u53, u54, u55, u56, u57, rfl, hinv⟩
    have HINV := hid hinv
    clear hinv
    have hbox := HINV.out.box
    obtain ⟨oa, oc, hov, _, _, _, _⟩ := HINV.out.call
    subst hov
    obtain ⟨la, lc, hlv, _, _, _, _⟩ := HINV.out.row
    subst hlv
    have hsz := HINV.out.size
    cases R with
    | nil =>
      obtain ⟨p0, p1, p2, pf, pl⟩ := blk3 hbox
      have hz0 : ((0 : Int) == 0) = true := rfl
      go_upto_region 4 with fail
      go_wp2
      try simp only [Exit.jump]
      have hf := HINV.out.fold
      simp only [List.foldl_nil] at hf
      subst hf
      refine bodyPost_ret (res_calls_tmp (b := w.heap.size + 1 + 1) (x := .int .i64 O.epoch) (y := .int .i64 O.next) (z := .slice oa O.opens.length oc) rfl rfl rfl (set3 HINV.out.box _ _ _)) rfl ⟨_, _, rfl, ?_, ?_, set3_below HINV.out.bel (by omega) _ _ _⟩
      · exact (HINV.out.call.kept (set3_kept (b := w.heap.size + 1 + 1) HINV.out.box (by decide) _ _ _)).row
      · exact ((HINV.out.own.trow encA_len (by decide)).kept (set3_kept (b := w.heap.size + 1 + 1) HINV.out.box (by decide) _ _ _)).row
    | cons d R' =>
      simp only [List.length_cons] at HINV ⊢
      obtain ⟨rb, ro, rfl, hc1, hc2, hc3, g0, g1, gl, htail⟩ := HINV.out.row.tail
      obtain ⟨A, hA⟩ : ∃ A : Option Addr, (if lc = 1 then some (⟨rb, ro, none⟩ : Addr) else some ⟨rb, ro + 2, none⟩) = A := ⟨_, rfl⟩
      have HTL := hid (htail A hA.symm)
      have hz0 : ((R'.length : Int) + 1 == 0) = false := by apply Bool.eq_false_iff.2; intro h; have := beq_iff_eq.1 h; omega
      have hlen := HINV.out.len1
      have hal := HINV.out.len2
      simp only [List.length_cons] at hlen hal
      obtain ⟨hh, hhh⟩ : ∃ b, hasB O.opens d.kind d.key = b := ⟨_, rfl⟩
      obtain ⟨U, hU⟩ : ∃ U, U = w3.alloc (.cells #[.int .u8 d.kind, .int .i64 d.key] 47) := ⟨_, rfl⟩
      have hbU : Below w3.heap.size w3 U := by rw [hU]; exact (Below.refl _ _).alloc (Nat.le_refl _) _
      have hd := has_row O.epoch O.next d.kind d.key (.slice oa O.opens.length oc) O.opens U (by omega) ((HINV.out.call.kept (KeptT.below hbU)).row)
      rw [hhh] at hd
      have HHAS := hid hd
      have HHH := hid hhh
      have HBU := hid hbU
      have DX := hid (show U.heap[w3.heap.size]? = some (.cells #[.int .u8 d.kind, .int .i64 d.key] 47) by rw [hU]; exact heap_new _ _)
      have HUU := hid hU
      unfold calls at HHAS
      obtain ⟨p0, p1, p2, pf, pl⟩ := blk3 hbox
      clear hd hhh hbU hU htail hbox
      go_upto_region 4 with fail
      go_wp2_with fail
      rw [← HUU.out]
      refine HHAS.out.mono ?_
      rintro e w4 ⟨rfl, hb4⟩
      have H4 := hid (HBU.out.trans (hb4.mono HBU.out.size))
      have hz4 := H4.out.size
      have HU4 := hid hb4
      clear hb4 p0 p1 p2 pf pl
      cases hh with
      | true =>
        go_wp2
        go_step3
        refine ⟨rfl, ⟨R', O, AS, _, (.slice oa O.opens.length oc), av, _, _, _, _, _, _, _, _, _, _, _, _, _, _, _, _, _, _, _, _, _, _, _, _, _, _, _, _, _, _, _, _, _, _, _, _, _, _, _, _, _, _, _, _, _, _, _, _, _, rfl, ?_⟩, by simp [sliceLen]⟩
        exact HINV.out.skip (by unfold stepO; rw [if_pos HHH.out]) H4.out (HTL.out.kept (KeptT.below H4.out))
      | false =>
        obtain ⟨er, her⟩ : ∃ er, openErr O d.kind d.key now = er := ⟨_, rfl⟩
        obtain ⟨di, hdi⟩ : ∃ di, openId O d.kind d.key now = di := ⟨_, rfl⟩
        obtain ⟨O', hO'⟩ : ∃ O', openC O d.kind d.key now = O' := ⟨_, rfl⟩
        have hop := open_any O.epoch O.next d.kind d.key now (.slice oa O.opens.length oc) O.opens w4 (by omega) ((HINV.out.call.kept (KeptT.below H4.out)).row)
        rw [show (⟨O.epoch, O.next, O.opens⟩ : CallsV) = O from rfl, her, hdi, hO'] at hop
        have HOP := hid hop
        have HER := hid her
        have HDI := hid hdi
        have HO' := hid hO'
        unfold calls at HOP
        clear hop her hdi hO'
        have X4 := hid (blk_below HINV.out.box H4.out (blk_lt HINV.out.box))
        have D4 := hid (blk_below DX.out HU4.out (blk_lt DX.out))
        obtain ⟨p0, p1, p2, pf, pl⟩ := blk3 X4.out
        obtain ⟨q0, q1, qf, ql⟩ := blk2 D4.out
        go_wp2_with fail
        refine HOP.out.mono ?_
        rintro e w5 ⟨pv, rfl, hown5, hb5⟩
        obtain ⟨pa, pn, pc, rfl⟩ := hown5.shape
        have HO5 := hid hown5
        have H5 := hid (H4.out.trans (hb5.mono hz4))
        have hz5 := H5.out.size
        have D5 := hid (blk_below D4.out hb5 (blk_lt D4.out))
        clear hown5 hb5 p0 p1 p2 pf pl q0 q1 qf ql
        by_cases he0 : er = 0
        · subst he0
          have hee : ((0 : Int) == 0) = true := rfl
          have hask : askOk I d := askOk_of (HINV.out.sub d List.mem_cons_self)
          have HASK := hid hask
          obtain ⟨W9, hW9⟩ : ∃ W9, W9 = w5.alloc (.cells #[.int .i64 O.epoch, .int .i64 O'.next, .slice pa pn pc] 33) := ⟨_, rfl⟩
          have h59 : Below w5.heap.size w5 W9 := by rw [hW9]; exact (Below.refl _ _).alloc (Nat.le_refl _) _
          have h9 : Below w3.heap.size w3 W9 := H5.out.trans (h59.mono hz5)
          have hz9 : W9.heap.size = w5.heap.size + 1 := by rw [hW9]; simp
          have PX := hid (show W9.heap[w5.heap.size]? = some (.cells #[.int .i64 O.epoch, .int .i64 O'.next, .slice pa pn pc] 33) by rw [hW9]; exact heap_new _ _)
          have D9 := hid (blk_below D5.out h59 (blk_lt D5.out))
          have X9 := hid (show W9.heap[w.heap.size + 1 + 1]? = some (.cells #[.int .i64 O.epoch, .int .i64 O.next, .slice oa O.opens.length oc] 33) from blk_below HINV.out.box h9 (blk_lt HINV.out.box))
          have B9 := hid (HINV.out.brain.below h9 (blk_lt HINV.out.brain))
          have OWN9 := hid (HINV.out.own.below h9)
          have HTY := hid OWN9.out.typed
          have Z9 := hid (HINV.out.bel.trans (h9.mono (by omega)))
          have RT9 := hid (HTL.out.kept (KeptT.below h9))
          have RC9 := hid ((HO5.out.trow encC_len (by decide)).kept (KeptT.below h59))
          have P0 := hid (blk3 PX.out)
          have Q0 := hid (blk2 D9.out)
          have HW9 := hid hW9
          have HALL := hid (show ∀ W, KeptB W9 (w.heap.size + 1 + 1) W → KeptB W9 (w.heap.size + 1 + 1) W ∧ W.cell? ⟨w5.heap.size, 0, none⟩ = some (.int .i64 O.epoch) ∧ W.cell? ⟨w5.heap.size, 1, none⟩ = some (.int .i64 O'.next) ∧ W.cell? ⟨w5.heap.size, 2, none⟩ = some (.slice pa pn pc) ∧ W.cell? ⟨w3.heap.size, 0, none⟩ = some (.int .u8 d.kind) ∧ W.cell? ⟨w3.heap.size, 1, none⟩ = some (.int .i64 d.key) ∧ (loadVar 30 ⟨w.heap.size, 0, none⟩).run Tryd.prog W = .ok (.agg cs) W from fun W hk => by
            have e1 := hk.block _ _ _ PX.out (by decide) (by omega)
            have e2 := hk.block _ _ _ D9.out (by decide) (by omega)
            have e3 : BB W w.heap.size cs := hk.block _ _ _ B9.out (by decide) (by omega)
            exact ⟨hk, blk_cell e1 0, blk_cell e1 1, blk_cell e1 2, blk_cell e2 0, blk_cell e2 1, e3.load HCS.out⟩)
          clear hask h59 h9 hW9 P0 Q0
          go_wp2_with fail
          rw [← HW9.out]
          go_region_held3 (fun W => KeptB W9 (w.heap.size + 1 + 1) W ∧ W.cell? ⟨w5.heap.size, 0, none⟩ = some (.int .i64 O.epoch) ∧ W.cell? ⟨w5.heap.size, 1, none⟩ = some (.int .i64 O'.next) ∧ W.cell? ⟨w5.heap.size, 2, none⟩ = some (.slice pa pn pc) ∧ W.cell? ⟨w3.heap.size, 0, none⟩ = some (.int .u8 d.kind) ∧ W.cell? ⟨w3.heap.size, 1, none⟩ = some (.int .i64 d.key) ∧ (loadVar 30 ⟨w.heap.size, 0, none⟩).run Tryd.prog W = .ok (.agg cs) W) (first | exact HALL.out _ (KeptB.drew KeptB.refl) | (go_split_ands; exact HALL.out _ (KeptB.call (by assumption) hbt)) | (go_split_ands; exact HALL.out _ (KeptB.grown (by assumption) hgr HTY.out)) | (go_split_ands; exact HALL.out _ (KeptB.set3 (by assumption) _ _ _)) | (go_split_ands; exact HALL.out _ (KeptB.alloc (by assumption) _))) (first
            | (go_at_call 24; go_split_ands; refine (ask_any cs iv kv HCS.out I d di _ hl1 (RowOf.below HI.out (below_drew Z9.out)) HASK.out).mono ?_; rintro e x1 ⟨rfl, hbt⟩; dsimp only [encAv])
            | (refine step_append_one rfl _ _ 38 rfl (w.heap.size + 3) 52 i0 _ 48 Tryd.underlying38 HI0.out HI1.out HI2.out HI3.out rfl (by decide) encA_len av AS rfl (World.ownsRow.alloc (OWN9.out.below (Below.trans (below_drew (Below.refl _ _)) hbt)) _) ⟨x1.heap.size, 0, none⟩ (askV I d di) rfl (encA_one _) (new_cellsA x1 _ _) (by unfold maxLen; omega) (by omega) (by have := hbt.size; have h2 : W9.drew.heap.size = W9.heap.size := rfl; simp; omega) ?_; intro v' w' hown' hbw hgr; obtain ⟨ga, gn, gc, rfl⟩ := hown'.shape; obtain ⟨y0, y1, y2, yf, yl⟩ := blk3 (blk_grown (blk_alloc (blk_below X9.out (Below.trans (below_drew (Below.refl _ _)) hbt) (blk_lt X9.out)) _) hgr (fun e => by have := (Owns.block OWN9.out _ e.symm).1; omega))))
          go_split_ands
          obtain ⟨V, hV⟩ : ∃ V, V = (((w'.setCell ⟨w.heap.size + 1 + 1, 0, none⟩ (.int .i64 O.epoch)).setCell ⟨w.heap.size + 1 + 1, 1, none⟩ (.int .i64 O'.next)).setCell ⟨w.heap.size + 1 + 1, 2, none⟩ (.slice pa pn pc)) := ⟨_, rfl⟩
          have hKB : KeptB W9 (w.heap.size + 1 + 1) V := by rw [hV]; assumption
          have hbx : Below W9.heap.size W9 x1 := Below.trans (below_drew (Below.refl _ _)) hbt
          have hzx := hbx.size
          have hx := blk_grown (blk_alloc (blk_below X9.out hbx (blk_lt X9.out)) _) hgr (fun e => by have := (Owns.block OWN9.out _ e.symm).1; omega)
          have hvx : V.heap[w.heap.size + 1 + 1]? = some (.cells #[.int .i64 O.epoch, .int .i64 O'.next, .slice pa pn pc] 33) := by rw [hV]; exact set3 hx _ _ _
          have hvb : Below w.heap.size w V := by
            rw [hV]
            exact set3_below (((Z9.out.trans (hbx.mono (by omega))).alloc (by omega) _).trans (hbw.mono (by omega))) (by omega) _ _ _
          have hvo : OwnA V (w.heap.size + 3) (.slice ga gn gc) (AS ++ [askV I d di]) := by
            rw [hV]
            exact ((hown'.other (p := ⟨w.heap.size + 1 + 1, 0, none⟩) (by dsimp only; omega) _).other (p := ⟨w.heap.size + 1 + 1, 1, none⟩) (by dsimp only; omega) _).other (p := ⟨w.heap.size + 1 + 1, 2, none⟩) (by dsimp only; omega) _
          have hep : O'.epoch = O.epoch := by rw [← HO'.out]; exact openC_epoch _ _ _ _
          have hle : O'.opens.length ≤ O.opens.length + 1 := by rw [← HO'.out]; exact openC_len _ _ _ _
          have hinv2 : OpenI cs I K now C w T N R' O' (AS ++ [askV I d di]) (.slice A R'.length (lc - 1)) (.slice pa pn pc) (.slice ga gn gc) V := by
            refine ⟨?_, by omega, by simp; omega, fun x hx => HINV.out.sub x (List.mem_cons_of_mem _ hx), RT9.out.kept (hKB.kept X9.out (by decide) (by decide)), RC9.out.kept (hKB.kept X9.out (by decide) (by decide)), hvo, by rw [hep]; exact hvx, hKB.block _ _ _ B9.out (by decide) (by omega), hvb, by have := hKB.size; omega⟩
            have hf := HINV.out.fold
            rw [List.foldl_cons] at hf
            have hst : stepO I now (O, AS) d = (O', AS ++ [askV I d di]) := by
              unfold stepO
              rw [if_neg (by rw [HHH.out]; simp), if_pos HER.out, HO'.out, HDI.out]
            rwa [hst] at hf
          have HINV2 := hid hinv2
          rw [← hV]
          clear hV hKB hbx hzx hx hvx hvb hvo hep hle hinv2 y0 y1 y2 yf yl hown' hbw hgr hbt HALL
          have rl := gl
          go_wp2
          go_step3
          refine ⟨rfl, ⟨R', O', (AS ++ [askV I d di]), _, (.slice pa pn pc), (.slice ga gn gc), _, _, _, _, _, _, _, _, _, _, _, _, _, _, _, _, _, _, _, _, _, _, _, _, _, _, _, _, _, _, _, _, _, _, _, _, _, _, _, _, _, _, _, _, _, _, _, _, _, rfl, ?_⟩, by simp [sliceLen]⟩
          exact HINV2.out
        · have hee : (er == 0) = false := by simpa using he0
          have HE0 := hid he0
          clear he0
          go_wp2
          go_step3
          refine ⟨rfl, ⟨R', O, AS, _, (.slice oa O.opens.length oc), av, _, _, _, _, _, _, _, _, _, _, _, _, _, _, _, _, _, _, _, _, _, _, _, _, _, _, _, _, _, _, _, _, _, _, _, _, _, _, _, _, _, _, _, _, _, _, _, _, _, rfl, ?_⟩, by simp [sliceLen]⟩
          exact HINV.out.skip (by unfold stepO; rw [if_neg (by rw [HHH.out]; simp), if_neg (by rw [HER.out]; exact HE0.out)]) (H5.out.alloc hz5 _) (HTL.out.kept (KeptT.below (H5.out.alloc hz5 _)))
end Go.Proofs.YtljmhmdpihpafaaDoor
