/- The reference's Right of a brain: where it says yes, tokens and ids rise. -/
import Derived.Test.YtljmhmdpihpafaaDoorChM
namespace Go.Proofs.YtljmhmdpihpafaaDoor
open Go.RowKit Go.Shelf
attribute [-go_sem] loadVar
attribute [local go_sem] load_other2

/-- A brain's cells. -/
def brT (f : Nat → Int) (g : Nat → Bool) (mv iv kv : Value) : Array Value := #[.int .i64 (f 0), .int .i64 (f 1), .bool (g 2), .int .i64 (f 3), .int .i64 (f 4), .int .i64 (f 5), .int .i64 (f 6), .int .i64 (f 7), .int .i64 (f 8), .int .i64 (f 9), .int .i64 (f 10), .int .i64 (f 11), .int .i64 (f 12), .int .i64 (f 13), .int .i64 (f 14), .int .i64 (f 15), .bool (g 16), mv, iv, kv, .int .u8 (f 20), .int .i64 (f 21), .int .i64 (f 22), .int .i64 (f 23), .bool (g 24), .int .i64 (f 25), .int .i64 (f 26)]
theorem brT_bc (f : Nat → Int) (g : Nat → Bool) (mv iv kv : Value) : BC (brT f g mv iv kv) iv kv := ⟨rfl, rfl, rfl⟩
/-- Numbers that rise, from 1 to another one. -/
def RiseP (hi : Int) (l : List Int) : Prop := (∀ x ∈ l, 0 < x ∧ x ≤ hi) ∧ l.Pairwise (· < ·)
def RiseL (hi : Int) (l : List Int) (last : Int) : Prop := RiseP hi l ∧ (∀ y ∈ l, y ≤ last) ∧ 0 ≤ last
theorem RiseL.nil (hi : Int) : RiseL hi [] 0 := ⟨⟨by simp, List.Pairwise.nil⟩, by simp, by omega⟩
theorem RiseL.snoc {hi : Int} {l : List Int} {last x : Int} (h : RiseL hi l last) (h1 : ¬ x ≤ last) (h2 : ¬ hi < x) : RiseL hi (l ++ [x]) x := by
  obtain ⟨⟨p1, p2⟩, p3, p4⟩ := h
  refine ⟨⟨?_, ?_⟩, ?_, by omega⟩
  · intro y hy
    rcases List.mem_append.1 hy with h | h
    · exact p1 y h
    · simp at h; omega
  · rw [List.pairwise_append]
    refine ⟨p2, List.pairwise_singleton _ _, ?_⟩
    intro a ha b hb
    simp at hb
    have := p3 a ha
    omega
  · intro y hy
    rcases List.mem_append.1 hy with h | h
    · have := p3 y h; omega
    · simp at h; omega
/-- What a brain that may be is. -/
def RF (seq : Int) (I : List IntentV) (K : List KeptV) : Prop := seq ≤ 1099511627776 ∧ RiseP seq (I.map IntentV.token) ∧ RiseP 1099511627776 (K.map KeptV.id) ∧ ∀ x ∈ K, 1 ≤ x.phase ∧ x.phase ≤ 10
def RightEnd (seq : Int) (I : List IntentV) (K : List KeptV) (e : Ending) : Prop := ∃ r : Bool, e = .returned (.bool r) ∧ (r = true → RF seq I K)
theorem load_mid {W : World} {b : Nat} {f : Nat → Int} {g : Nat → Bool} {mv iv kv : Value} (h : BB W b (brT f g mv iv kv)) : (loadVar 24 ⟨b, 3, none⟩).run Tryd.prog W = .ok (.agg (confA (fun i => f (i + 3)) (g 16) mv)) W := by
  have hr := World.rangeAt_of_block h 3 15
  have := run_loadVar_mid (P := Tryd.prog) W b 3 24 _ _ hr conf_under rfl (by rw [show ((brT f g mv iv kv).extract 3 (3 + 15)).toList.length = 15 from rfl]; kernel_rfl)
  exact this

set_option maxHeartbeats 4000000 in
set_option maxRecDepth 100000 in
theorem right13_any (f : Nat → Int) (g : Nat → Bool) (mv iv kv : Value) (I : List IntentV) (K : List KeptV) (M : List Int) (w : World) (hl1 : I.length ≤ 1000) (hl2 : K.length ≤ 1000)
    (hI : RowOf 4 encIn w iv I) (hK : RowOf 8 encKp w kv K) (hM : RowOf 1 encI w mv M) :
    Calls Tryd.prog 7 #[.agg (brT f g mv iv kv)] w fun e w' => RightEnd (f 1) I K e ∧ Below w.heap.size w w' := by
  obtain ⟨ia, ic, rfl, hn1, hn2, hn3, hop⟩ := hI.open
  obtain ⟨ka, kc, rfl, hk1, hk2, hk3, hoq⟩ := hK.open
  obtain ⟨cs, hcs⟩ : ∃ cs, cs = brT f g mv (.slice ia I.length ic) (.slice ka K.length kc) := ⟨_, rfl⟩
  rw [← hcs]
  have HOP := hid hop
  have HOQ := hid hoq
  have HMM := hid hM
  have HCS := hid hcs
  have e0 : cs[0]? = some (.int .i64 (f 0)) := by rw [hcs]; rfl
  have e1 : cs[1]? = some (.int .i64 (f 1)) := by rw [hcs]; rfl
  have e2 : cs[2]? = some (.bool (g 2)) := by rw [hcs]; rfl
  have e18 : cs[18]? = some (.slice ia I.length ic) := by rw [hcs]; rfl
  have e19 : cs[19]? = some (.slice ka K.length kc) := by rw [hcs]; rfl
  obtain ⟨W1, hW1⟩ : ∃ W1, W1 = w.alloc (.cells cs 30) := ⟨_, rfl⟩
  have B0 := hid (show BB W1 w.heap.size cs by rw [hW1]; exact BB.new w cs)
  have hZ : Below w.heap.size w W1 := by rw [hW1]; exact (Below.refl _ _).alloc (Nat.le_refl _) _
  have hsz : W1.heap.size = w.heap.size + 1 := by rw [hW1]; simp
  have Z := hid hZ
  have HW := hid hW1
  clear hop hoq hM hI hK hcs hZ hW1
  go_enter Tryd.func7, Tryd.ntmps7
  by_cases h14 : f 0 < 0
  · have d14 : decide (f 0 < 0) = true := by simpa using h14
    go_wp2
    go_ret
    exact ⟨⟨_, rfl, fun h => by cases h⟩, by rw [HW.out] at Z; exact Z.out⟩
  · have d14 : decide (f 0 < 0) = false := by simpa using h14
    clear h14
    by_cases h21 : 1099511627776 < f 0
    · have d21 : decide (1099511627776 < f 0) = true := by simpa using h21
      go_wp2
      go_ret
      exact ⟨⟨_, rfl, fun h => by cases h⟩, by rw [HW.out] at Z; exact Z.out⟩
    · have d21 : decide (1099511627776 < f 0) = false := by simpa using h21
      clear h21
      by_cases h28 : f 1 < 0
      · have d28 : decide (f 1 < 0) = true := by simpa using h28
        go_wp2
        go_ret
        exact ⟨⟨_, rfl, fun h => by cases h⟩, by rw [HW.out] at Z; exact Z.out⟩
      · have d28 : decide (f 1 < 0) = false := by simpa using h28
        clear h28
        by_cases h35 : 1099511627776 < f 1
        · have d35 : decide (1099511627776 < f 1) = true := by simpa using h35
          go_wp2
          go_ret
          exact ⟨⟨_, rfl, fun h => by cases h⟩, by rw [HW.out] at Z; exact Z.out⟩
        · have d35 : decide (1099511627776 < f 1) = false := by simpa using h35
          have HSQ := hid h35
          clear h35
          go_wp2_with fail
          rw [← HW.out]
          go_loopw [3, 4] (fun a b wr => ∃ (last : Int) (k : Nat), a = .int .i64 last ∧ b = .int .i64 k ∧ k ≤ I.length ∧ RiseL (f 1) ((I.take k).map IntentV.token) last ∧ Below W1.heap.size W1 wr) (fun _ b _ => I.length - (intOf b).toNat)
          case atStart => exact ⟨0, 0, rfl, rfl, Nat.zero_le _, RiseL.nil _, Below.refl _ _⟩
          case round =>
            obtain ⟨last, k, rfl, rfl, hk, hR, hB⟩ := hrel
            have HR := hid hR
            have HB := hid hB
            have hz1 := hB.size
            have HZ := hid (Z.out.trans (hB.mono Z.out.size))
            have BW := B0.out.below hB (blk_lt B0.out)
            have x1 := (blk_cell BW 1).trans e1
            have x18 := (blk_cell BW 18).trans e18
            have xl := blk_lt BW
            clear hR hB
            by_cases hlt : k < I.length
            · obtain ⟨b, off, rfl, hb, hrow⟩ := HOP.out (by omega)
              obtain ⟨x, hx⟩ := get_lt hlt
              obtain ⟨g0, _, _, _⟩ := rowI ((hrow.below Z.out hb).below HB.out (by omega)) hx
              have HS := hid (take_snoc I k x hx)
              have hkL : (k : Int) < (I.length : Int) := by omega
              have hbz : b < wr.heap.size := by omega
              clear hx hrow
              by_cases q1 : x.token ≤ last
              · have d : decide (x.token ≤ last) = true := by simpa using q1
                clear q1
                go_wp2
                go_quiet (fail)
                go_wp2
                go_ret
                exact ⟨⟨_, rfl, fun h => by cases h⟩, below_drewN HZ.out _⟩
              · have d : decide (x.token ≤ last) = false := by simpa using q1
                have Q1 := hid q1
                clear q1
                by_cases q2 : f 1 < x.token
                · have d2 : decide (f 1 < x.token) = true := by simpa using q2
                  clear q2
                  go_wp2
                  go_quiet (fail)
                  go_wp2
                  go_ret
                  exact ⟨⟨_, rfl, fun h => by cases h⟩, below_drewN HZ.out _⟩
                · have d2 : decide (f 1 < x.token) = false := by simpa using q2
                  have Q2 := hid q2
                  clear q2
                  go_wp2
                  go_quiet (fail)
                  go_wp2
                  go_roundw
                  case rel => exact ⟨x.token, k + 1, rfl, by go_num, by omega, by rw [HS.out, List.map_append]; exact HR.out.snoc (by have := Q1.out; omega) (by have := Q2.out; omega), below_drewN HB.out _⟩
                  case measure => simp [intOf]; omega
            · obtain rfl : k = I.length := by omega
              have HRI := hid (show RiseP (f 1) (I.map IntentV.token) by have := HR.out.1; rwa [List.take_length] at this)
              obtain ⟨wa, rfl⟩ : ∃ wo : World, wo = wr := ⟨_, rfl⟩
              have BW' := hid BW
              clear HR BW
              go_wp2_with fail
              clear x1 x18
              go_loopw [3, 5] (fun a b wr => ∃ (last : Int) (k : Nat), a = .int .i64 last ∧ b = .int .i64 k ∧ k ≤ K.length ∧ RiseL 1099511627776 ((K.take k).map KeptV.id) last ∧ (∀ x ∈ K.take k, 1 ≤ x.phase ∧ x.phase ≤ 10) ∧ Below wa.heap.size wa wr) (fun _ b _ => K.length - (intOf b).toNat)
              case atStart => exact ⟨0, 0, rfl, rfl, Nat.zero_le _, RiseL.nil _, by simp, Below.refl _ _⟩
              case round =>
                clear hk hlt
                obtain ⟨last, k, rfl, rfl, hk, hR, hph, hB2⟩ := hrel
                have HR := hid hR
                have HPH := hid hph
                have HB2 := hid hB2
                have hz2 := hB2.size
                have HZ2 := hid (HZ.out.trans (hB2.mono HZ.out.size))
                have BW := hid (BW'.out.below hB2 (blk_lt BW'.out))
                have y19 := (blk_cell BW.out 19).trans e19
                have yl := blk_lt BW.out
                clear hR hB2 hph
                by_cases hlt : k < K.length
                · obtain ⟨b, off, rfl, hb, hrow⟩ := HOQ.out (by omega)
                  obtain ⟨x, hx⟩ := get_lt hlt
                  obtain ⟨g0, _, _, _, g4, _, _, _⟩ := rowK (((hrow.below Z.out hb).below HB.out (by omega)).below HB2.out (by omega)) hx
                  have HS := hid (take_snoc K k x hx)
                  have hkL : (k : Int) < (K.length : Int) := by omega
                  have hbz : b < wr.heap.size := by omega
                  clear hx hrow
                  by_cases q0 : x.id ≤ last
                  · have d0 : decide (x.id ≤ last) = true := by simpa using q0
                    clear q0
                    go_wp2
                    go_ret
                    exact ⟨⟨_, rfl, fun h => by cases h⟩, HZ2.out⟩
                  · have d0 : decide (x.id ≤ last) = false := by simpa using q0
                    have Q0 := hid q0
                    clear q0
                    by_cases q1 : 1099511627776 < x.id
                    · have d1 : decide (1099511627776 < x.id) = true := by simpa using q1
                      clear q1
                      go_wp2
                      go_ret
                      exact ⟨⟨_, rfl, fun h => by cases h⟩, HZ2.out⟩
                    · have d1 : decide (1099511627776 < x.id) = false := by simpa using q1
                      have Q1 := hid q1
                      clear q1
                      by_cases q2 : x.phase < 1
                      · have d2 : decide (x.phase < 1) = true := by simpa using q2
                        clear q2
                        go_wp2
                        go_ret
                        exact ⟨⟨_, rfl, fun h => by cases h⟩, HZ2.out⟩
                      · have d2 : decide (x.phase < 1) = false := by simpa using q2
                        have Q2 := hid q2
                        clear q2
                        by_cases q3 : 10 < x.phase
                        · have d3 : decide (10 < x.phase) = true := by simpa using q3
                          clear q3
                          go_wp2
                          go_ret
                          exact ⟨⟨_, rfl, fun h => by cases h⟩, HZ2.out⟩
                        · have d3 : decide (10 < x.phase) = false := by simpa using q3
                          have Q3 := hid q3
                          clear q3
                          go_wp2
                          go_roundw
                          case rel =>
                            refine ⟨x.id, k + 1, rfl, by go_num, by omega, by rw [HS.out, List.map_append]; exact HR.out.snoc (by have := Q0.out; omega) (by have := Q1.out; omega), ?_, HB2.out⟩
                            rw [HS.out]
                            intro y hy
                            rcases List.mem_append.1 hy with h | h
                            · exact HPH.out y h
                            · simp at h
                              subst h
                              have := Q2.out
                              have := Q3.out
                              omega
                          case measure => simp [intOf]; omega
                · obtain rfl : k = K.length := by omega
                  have HRF := hid (show RF (f 1) I K from ⟨by have := HSQ.out; omega, HRI.out, by have := HR.out.1; rwa [List.take_length] at this, by have := HPH.out; rwa [List.take_length] at this⟩)
                  have y2 := (blk_cell BW.out 2).trans e2
                  have y20 := (blk_cell BW.out 20).trans (show cs[20]? = some (.int .u8 (f 20)) by rw [HCS.out]; rfl)
                  have y21 := (blk_cell BW.out 21).trans (show cs[21]? = some (.int .i64 (f 21)) by rw [HCS.out]; rfl)
                  have y22 := (blk_cell BW.out 22).trans (show cs[22]? = some (.int .i64 (f 22)) by rw [HCS.out]; rfl)
                  have y23 := (blk_cell BW.out 23).trans (show cs[23]? = some (.int .i64 (f 23)) by rw [HCS.out]; rfl)
                  have y24 := (blk_cell BW.out 24).trans (show cs[24]? = some (.bool (g 24)) by rw [HCS.out]; rfl)
                  have y25 := (blk_cell BW.out 25).trans (show cs[25]? = some (.int .i64 (f 25)) by rw [HCS.out]; rfl)
                  have y26 := (blk_cell BW.out 26).trans (show cs[26]? = some (.int .i64 (f 26)) by rw [HCS.out]; rfl)
                  have y18 := (blk_cell BW.out 18).trans e18
                  have hU : Below wr.heap.size wr (wr.alloc (.cells #[.int .u8 (f 20), .int .i64 (f 21), .int .i64 (f 22), .int .i64 (f 23), .bool (g 24), .int .i64 (f 25), .int .i64 (f 26)] 28)) := (Below.refl _ _).alloc (Nat.le_refl _) _
                  have hlc := load_mid (show BB (wr.alloc (.cells #[.int .u8 (f 20), .int .i64 (f 21), .int .i64 (f 22), .int .i64 (f 23), .bool (g 24), .int .i64 (f 25), .int .i64 (f 26)] 28)) w.heap.size (brT f g mv (.slice ia I.length ic) (.slice ka K.length kc)) by rw [← HCS.out]; exact BW.out.below hU (blk_lt BW.out))
                  have HCK := hid (check_conf (fun i => f (i + 3)) (g 16) mv M _ (((RowOf.below (RowOf.below HMM.out Z.out) HB.out).below HB2.out).below hU))
                  have HU := hid (HZ2.out.trans (hU.mono HZ2.out.size))
                  clear HR HPH hU
                  obtain ⟨g2, hg2⟩ : ∃ b, g 2 = b := ⟨_, rfl⟩
                  rw [hg2] at y2
                  clear hg2
                  by_cases hs : f 20 = 1
                  · have ds : (f 20 == 1) = true := by simpa using hs
                    clear hs
                    by_cases r0 : f 21 < 1
                    · have d0 : decide (f 21 < 1) = true := by simpa using r0
                      clear r0
                      go_wp2
                      go_ret
                      exact ⟨⟨_, rfl, fun h => by cases h⟩, HU.out⟩
                    · have d0 : decide (f 21 < 1) = false := by simpa using r0
                      clear r0
                      by_cases r1 : 1099511627776 < f 21
                      · have d1 : decide (1099511627776 < f 21) = true := by simpa using r1
                        clear r1
                        go_wp2
                        go_ret
                        exact ⟨⟨_, rfl, fun h => by cases h⟩, HU.out⟩
                      · have d1 : decide (1099511627776 < f 21) = false := by simpa using r1
                        clear r1
                        by_cases r2 : f 22 < 1
                        · have d2 : decide (f 22 < 1) = true := by simpa using r2
                          clear r2
                          go_wp2
                          go_ret
                          exact ⟨⟨_, rfl, fun h => by cases h⟩, HU.out⟩
                        · have d2 : decide (f 22 < 1) = false := by simpa using r2
                          clear r2
                          by_cases r3 : 1099511627776 < f 22
                          · have d3 : decide (1099511627776 < f 22) = true := by simpa using r3
                            clear r3
                            go_wp2
                            go_ret
                            exact ⟨⟨_, rfl, fun h => by cases h⟩, HU.out⟩
                          · have d3 : decide (1099511627776 < f 22) = false := by simpa using r3
                            clear r3
                            cases g2 with
                            | false =>
                              by_cases hi0 : I.length = 0
                              · have d : ((I.length : Int) == 0) = true := beq_iff_eq.2 (by omega)
                                clear hi0
                                go_wp2
                                go_ret
                                exact ⟨⟨_, rfl, fun _ => HRF.out⟩, HU.out⟩
                              · have d : ((I.length : Int) == 0) = false := Bool.eq_false_iff.2 (fun h => hi0 (by have := beq_iff_eq.1 h; omega))
                                clear hi0
                                go_wp2
                                go_ret
                                exact ⟨⟨_, rfl, fun _ => HRF.out⟩, HU.out⟩
                            | true =>
                              go_wp2_with fail
                              refine HCK.out.mono ?_
                              rintro e w9 ⟨⟨n, rfl⟩, hb9⟩
                              have HE := hid (HU.out.trans (hb9.mono HU.out.size))
                              go_wp2
                              go_ret
                              exact ⟨⟨_, rfl, fun _ => HRF.out⟩, HE.out⟩
                  · have ds : (f 20 == 1) = false := by simpa using hs
                    clear hs
                    cases g2 with
                    | false =>
                      by_cases hi0 : I.length = 0
                      · have d : ((I.length : Int) == 0) = true := beq_iff_eq.2 (by omega)
                        clear hi0
                        go_wp2
                        go_ret
                        exact ⟨⟨_, rfl, fun _ => HRF.out⟩, HU.out⟩
                      · have d : ((I.length : Int) == 0) = false := Bool.eq_false_iff.2 (fun h => hi0 (by have := beq_iff_eq.1 h; omega))
                        clear hi0
                        go_wp2
                        go_ret
                        exact ⟨⟨_, rfl, fun _ => HRF.out⟩, HU.out⟩
                    | true =>
                      go_wp2_with fail
                      refine HCK.out.mono ?_
                      rintro e w9 ⟨⟨n, rfl⟩, hb9⟩
                      have HE := hid (HU.out.trans (hb9.mono HU.out.size))
                      go_wp2
                      go_ret
                      exact ⟨⟨_, rfl, fun _ => HRF.out⟩, HE.out⟩
end Go.Proofs.YtljmhmdpihpafaaDoor
