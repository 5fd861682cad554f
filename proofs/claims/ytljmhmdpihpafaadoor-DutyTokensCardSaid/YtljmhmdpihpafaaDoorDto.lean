/- DutyTokens. -/
import Derived.Test.YtljmhmdpihpafaaDoorPld
import Derived.Test.YtljmhmdpihpafaaDoorRdM
import Derived.Deep.RegionHeld3
import Derived.Deep.Cut
import Derived.Deep.CutRange
namespace Go.Proofs.YtljmhmdpihpafaaDoor
open Go.RowKit Go.Shelf
attribute [-go_sem] loadVar
attribute [local go_sem] load_other

/-- A brain, its box, the table. -/
structure DT (cs : Array Value) (mv iv kv : Value) (I : List IntentV) (K : List KeptV) (M : List Int) (w W : World) : Prop where
  brain : BB W w.heap.size cs
  ri : RowOf 4 encIn W iv I
  rk : RowOf 8 encKp W kv K
  rm : RowOf 1 encI W mv M
  ask : Asked W
  bel : Below w.heap.size w W
section
variable {cs : Array Value} {mv iv kv : Value} {I : List IntentV} {K : List KeptV} {M : List Int} {w W W' : World}
theorem DT.below (h : DT cs mv iv kv I K M w W) (hb : Below W.heap.size W W') : DT cs mv iv kv I K M w W' :=
  ⟨h.brain.below hb (blk_lt h.brain), h.ri.below hb, h.rk.below hb, h.rm.below hb, h.ask.below hb, h.bel.trans (hb.mono h.bel.size)⟩
theorem DT.load (h : DT cs mv iv kv I K M w W) (hc : BC cs iv kv) : (loadVar 30 ⟨w.heap.size, 0, none⟩).run Tryd.prog W = .ok (.agg cs) W := h.brain.load hc
theorem DT.new (hI : RowOf 4 encIn w iv I) (hK : RowOf 8 encKp w kv K) (hM : RowOf 1 encI w mv M) (hA : Asked w) :
    DT cs mv iv kv I K M w (w.alloc (.cells cs 30)) := by
  have hb : Below w.heap.size w (w.alloc (.cells cs 30)) := (Below.refl _ _).alloc (Nat.le_refl _) _
  exact ⟨heap_new _ _, hI.below hb, hK.below hb, hM.below hb, hA.below hb, hb⟩
end

set_option maxHeartbeats 4000000 in
set_option maxRecDepth 100000 in
theorem tokens_law (f : Nat → Int) (g : Nat → Bool) (mv iv kv : Value) (I : List IntentV) (K : List KeptV) (M : List Int) (now : Int) (w : World)
    (hwf : ∀ x ∈ K, in8 x.phase) (hI : RowOf 4 encIn w iv I) (hK : RowOf 8 encKp w kv K) (hM : RowOf 1 encI w mv M) (hA : Asked w) :
    Calls Tryd.prog 4 #[.agg (brT f g mv iv kv), .int .i64 now] w fun e w' => e = .returned (.bool true) ∧ Below w.heap.size w w' := by
  obtain ⟨cs, hcs⟩ : ∃ cs, cs = brT f g mv iv kv := ⟨_, rfl⟩
  have hbc : BC cs iv kv := by rw [hcs]; exact brT_bc _ _ _ _ _
  rw [← hcs]
  obtain ⟨ia, ic, rfl, hn1, _, _, _⟩ := hI.open
  obtain ⟨ka, kc, rfl, hk1, _, _, _⟩ := hK.open
  obtain ⟨W1, hW1⟩ : ∃ W1, W1 = w.alloc (.cells cs 30) := ⟨_, rfl⟩
  have hds : DT cs mv (.slice ia I.length ic) (.slice ka K.length kc) I K M w W1 := by rw [hW1]; exact DT.new hI hK hM hA
  have hg := great_any cs _ _ hbc ia I.length ic ka K.length kc rfl rfl 0 0 none 0 0 W1
  obtain ⟨gb, hgb⟩ : ∃ gb, (decide ((40 : Int) < (K.length : Int)) || (decide ((40 : Int) < (I.length : Int)) || decide ((60 : Int) < ((0 : Nat) : Int)))) = gb := ⟨_, rfl⟩
  rw [hgb] at hg
  have HG := hid hg
  have H1 := hid hds
  have HCS := hid hcs
  have HBC := hid hbc
  have HWF := hid hwf
  have HGB := hid hgb
  have hl := hds.load hbc
  rw [hW1] at hl
  have HW1 := hid hW1
  unfold calls at HG
  clear hg hds hcs hbc hwf hgb hW1 hI hK hM hA
  go_enter Tryd.func4, Tryd.ntmps4
  go_wp2_with fail
  rw [← HW1.out]
  refine HG.out.mono ?_
  rintro e v1 ⟨rfl, hb⟩
  have H2 := hid (H1.out.below hb)
  clear hb hl
  cases gb with
  | true =>
    go_wp2_with fail
    refine (wakes_any _ H2.out.ask).mono ?_
    rintro e v2 ⟨rfl, hb⟩
    have HE := hid (H2.out.below hb).bel
    clear hb
    go_wp2
    go_ret
    exact ⟨rfl, HE.out⟩
  | false =>
    have hgl : K.length ≤ 40 ∧ I.length ≤ 40 := by
      have := HGB.out
      simp at this
      omega
    have HR := hid (right13_any f g mv _ _ I K M v1 (by omega) (by omega) H2.out.ri H2.out.rk H2.out.rm)
    rw [← HCS.out] at HR
    have hl := H2.out.load HBC.out
    go_wp2_with fail
    refine HR.out.mono ?_
    rintro e v2 ⟨⟨r, rfl, hrf⟩, hb⟩
    have H3 := hid (H2.out.below hb)
    have HRF := hid hrf
    clear hb hl hrf
    cases r with
    | false =>
      go_wp2_with fail
      refine (wakes_any _ H3.out.ask).mono ?_
      rintro e v3 ⟨rfl, hb⟩
      have HE := hid (H3.out.below hb).bel
      clear hb
      go_wp2
      go_ret
      exact ⟨rfl, HE.out⟩
    | true =>
      have HRFT := hid (HRF.out rfl)
      by_cases hn0 : now < 0
      · go_wp2_with fail
        refine (wakes_any _ H3.out.ask).mono ?_
        rintro e v3 ⟨rfl, hb⟩
        have HE := hid (H3.out.below hb).bel
        clear hb
        go_wp2
        go_ret
        exact ⟨rfl, HE.out⟩
      by_cases hn1' : (1099511627776 : Int) < now
      · go_wp2_with fail
        refine (wakes_any _ H3.out.ask).mono ?_
        rintro e v3 ⟨rfl, hb⟩
        have HE := hid (H3.out.below hb).bel
        clear hb
        go_wp2
        go_ret
        exact ⟨rfl, HE.out⟩
      have hnow : numB now = true := by simp only [numB, decide_eq_true_eq]; omega
      have HN := hid (duties_len I K)
      obtain ⟨TF, HTL⟩ := tokF_of HRFT.out hnow (by have := HN.out; omega)
      have HTFH := hid TF
      have HTLH := hid HTL
      clear TF HTL
      have HD := hid (dopen_any cs _ _ HBC.out I K ⟨0, 1, []⟩ (.slice none 0 0) now v2 (by omega) (by omega) HWF.out H3.out.ask H3.out.ri H3.out.rk (by simp) (.inl ⟨none, 0, rfl, rfl, by decide, by decide⟩))
      obtain ⟨T, hT⟩ : ∃ T, openD I now ⟨0, 1, []⟩ (dutiesL I K) = T := ⟨_, rfl⟩
      rw [hT] at HD HTFH HTLH
      unfold calls at HD
      have hl := H3.out.load HBC.out
      clear hT
      go_wp2_with fail
      refine HD.out.mono ?_
      rintro e v3 ⟨ov, av, rfl, hro, hra, hb⟩
      obtain ⟨C, A⟩ := T
      dsimp only at hro hra HTFH HTLH ⊢
      obtain ⟨oa, oc, rfl, _, _, _, _⟩ := hro.open
      obtain ⟨aa, ac, rfl, _, _, _, _⟩ := hra.open
      have H4 := hid (H3.out.below hb)
      have RA := hid hra
      clear hb hro hra hl
      obtain ⟨U, hU⟩ : ∃ U, U = v3.alloc (.cells #[.int .i64 C.epoch, .int .i64 C.next, .slice oa C.opens.length oc] 33) := ⟨_, rfl⟩
      have hb : Below v3.heap.size v3 U := by rw [hU]; exact (Below.refl _ _).alloc (Nat.le_refl _) _
      have H5 := hid (H4.out.below hb)
      have RA5 := hid (RowOf.below RA.out hb)
      have HU := hid hU
      have hal : A.length ≤ 80 := by have := HTLH.out; have := HN.out; omega
      clear hb hU
      unfold calls
      go_wp2_with fail
      rw [← HU.out]
      go_loopw [7, 8] (fun a b wr => ∃ i : Nat, b = .int .i64 i ∧ a = .int .i64 (min i I.length : Nat) ∧ i ≤ A.length ∧ Below U.heap.size U wr) (fun _ b _ => A.length - (intOf b).toNat)
      case atStart => exact ⟨0, rfl, by simp, Nat.zero_le _, Below.refl _ _⟩
      case round =>
        obtain ⟨i, rfl, rfl, hi, hB⟩ := hrel
        have H6 := hid (H5.out.below hB)
        have RA6 := hid (RowOf.below RA5.out hB)
        have HB := hid hB
        clear hB
        obtain ⟨b0, -, bf, blt⟩ := H6.out.brain.two HBC.out
        by_cases hlt : i < A.length
        · have hiL : (i : Int) < (A.length : Int) := by omega
          obtain ⟨_, _, he, _, _, _, hop⟩ := RA6.out.open
          simp only [Value.slice.injEq] at he
          obtain ⟨rfl, -, rfl⟩ := he
          obtain ⟨b1, o1, rfl, hb1, hr1⟩ := hop (by omega)
          by_cases hii : i < I.length
          · obtain ⟨x, hx⟩ := get_lt hii
            obtain ⟨a, ha, e1, e2, e3, e4, e5⟩ := HTFH.out.launch i x hx
            obtain ⟨k0, c0, a0, a1, a2, a3⟩ := a
            dsimp only at e1 e2 e3 e4 e5
            subst e1
            subst e2
            subst e3
            subst e4
            obtain ⟨g0, g1, g2, g3, g4, g5⟩ := rowA hr1 ha
            dsimp only at g0 g1 g2 g3 g4 g5
            obtain ⟨_, _, he, _, _, _, hop2⟩ := H6.out.ri.open
            simp only [Value.slice.injEq] at he
            obtain ⟨rfl, -, rfl⟩ := he
            obtain ⟨b2, o2, rfl, hb2, hr2⟩ := hop2 (by omega)
            obtain ⟨q0, q1, q2, q3⟩ := rowI hr2 hx
            have hm : min i I.length = i := by omega
            have hiI : (i : Int) < (I.length : Int) := by omega
            have hiN : ¬ ((I.length : Int) ≤ (i : Int)) := by omega
            rw [hm]
            have hm2 := hid (show min (i + 1) I.length = i + 1 by omega)
            obtain ⟨x0, x1, x2, x3⟩ := x
            dsimp only at e5 g0 g1 g2 g3 g4 g5 q0 q1 q2 q3
            clear hx ha hm hii
            cases x3 <;> (subst e5) <;>
            · go_wp2
              go_quiet (fail)
              go_wp2
              go_roundw
              case rel => exact ⟨i + 1, by go_num, by rw [hm2.out]; go_num, by omega, below_drewN (HB.out.trans (((Below.refl _ _).alloc (Nat.le_refl _) _).mono HB.out.size)) _⟩
              case measure => simp [intOf]; omega
          · obtain ⟨a, ha⟩ := get_lt hlt
            have hne := HTFH.out.rest i a ha (by omega)
            have hq : (a.kind == 1) = false := by simpa using hne
            obtain ⟨g0, -, -, -, -, -⟩ := rowA hr1 ha
            have hm2 := hid (show min (i + 1) I.length = min i I.length by omega)
            clear hne ha
            go_wp2
            go_roundw
            case rel => exact ⟨i + 1, by go_num, by rw [hm2.out], by omega, HB.out⟩
            case measure => simp [intOf]; omega
        · have hm : min i I.length = I.length := by have := HTFH.out.len; omega
          have hiN : ¬ (i : Int) < (A.length : Int) := by omega
          rw [hm]
          clear hm
          go_wp2_with fail
          refine (wakes_any _ H6.out.ask).mono ?_
          rintro e v5 ⟨rfl, hb⟩
          have HE := hid (H6.out.below hb).bel
          clear hb
          go_wp2
          go_ret
          exact ⟨rfl, HE.out⟩
end Go.Proofs.YtljmhmdpihpafaaDoor
