import Derived.Test.YthhgpiolcnojfaaGreatDoorHg
import Derived.Test.YthhgpiolcnojfaaGreatDoorRfm
import Derived.Test.YthhgpiolcnojfaaGreatDoorRso
import Derived.Test.YthhgpiolcnojfaaGreatDoorRb7
import Derived.Test.YthhgpiolcnojfaaGreatDoorHon
/- HearOnce: an answer is heard once. Printed by gn_lho.py. -/
namespace Go.Proofs.YthhgpiolcnojfaaGreatDoor
open Go.RowKit Go.Shelf
attribute [-go_sem] loadVar storeVar Instr.buildSlice
attribute [local go_sem] load_other store_other

theorem says_kinds {k d key id now kk : Int} {L : List Int} (h : saysL k d key id now = some (kk, L)) : (kk = 4 ∧ L.length = 3) ∨ (kk = 5 ∧ L.length = 1) ∨ (kk = 6 ∧ L.length = 3) ∨ (kk = 7 ∧ L.length = 1) := by
  unfold saysL at h
  repeat' split at h
  all_goals first | (cases h; simp) | cases h
theorem hearL_few (B : BrainV) (C : CallsV) (c k d i now : Int) : (hearL B C c k d i now).length ≤ 1 ∧ ∀ p ∈ hearL B C c k d i now, p.2.length ≤ 3 := by
  unfold hearL
  split
  · unfold countsL
    split
    · simp
    · rename_i r hr
      split
      · exact ⟨by simp, fun p hp => by simp only [List.mem_singleton] at hp; rw [hp]; exact says_len (kk := r.1) (L := r.2) hr⟩
      · simp
  · simp
theorem sames_at {ep nx : Int} {L M : List CallV} (h : L = M) : sameV ⟨ep, nx, L⟩ ⟨ep, nx, M⟩ = true := by
  subst h
  simp [sameV]
set_option maxRecDepth 100000 in
set_option maxHeartbeats 8000000 in
theorem honce_law (B : BrainV) (bv : Array Value) (C : CallsV) (c k i now : Int) (dn : Nat) (s : Value) (sa : Option Addr) (sn sc : Nat) (m : Bool) (w : World) (hB : BrIs w B (.agg bv)) (hs : Row12 w s C.opens) (hwf : ∀ x ∈ C.opens, x.wf) (hph : ∀ x ∈ B.K, in8 x.phase) (h8 : dn ≤ 255) (hlM : B.M.length ≤ 17592186043904)
    (hA : Asked w) (hC : Changes w) (hL : Limits w) :
    Calls Tryz.prog 4 #[.agg bv, calls C.epoch C.next s, tellT c k dn i (.slice sa sn sc) m, .int .i64 now] w fun e w' => e = .returned (.bool true) ∧ Below w.heap.size w w' := by
  obtain ⟨va, vc, rfl, hv1, hv2, hv3, hop⟩ := hs.open
  obtain ⟨W1, hW1⟩ : ∃ W1, W1 = ((w.alloc (.cells bv 30)).alloc (.cells #[.int .i64 C.epoch, .int .i64 C.next, .slice va C.opens.length vc] 33)).alloc (.cells #[.int .i64 c, .int .u8 k, .int .u8 dn, .int .i64 i, .slice sa sn sc, .bool m] 36) := ⟨_, rfl⟩
  have hb1 : Below w.heap.size w W1 := by rw [hW1]; exact (((Below.refl _ _).alloc (Nat.le_refl _) _).alloc (by simp) _).alloc (by simp; omega) _
  have n0 : BB W1 w.heap.size bv := by rw [hW1]; exact blk_alloc (blk_alloc (heap_new _ _) _) _
  have n1 : W1.heap[w.heap.size + 1]? = some (.cells #[.int .i64 C.epoch, .int .i64 C.next, .slice va C.opens.length vc] 33) := by rw [hW1]; exact blk_alloc (heap_new2 _ _ _) _
  have n2 : W1.heap[w.heap.size + 1 + 1]? = some (.cells #[.int .i64 c, .int .u8 k, .int .u8 dn, .int .i64 i, .slice sa sn sc, .bool m] 36) := by rw [hW1]; simpa using heap_new2 (w.alloc _) _ _
  obtain ⟨mv, iv, kv, e, h1, h2, h3⟩ := hB
  have V1 := hid (show VarIs W1 w.heap.size B (.agg bv) from by cases e; exact ⟨mv, iv, kv, rfl, n0, h1.below hb1, h2.below hb1, h3.below hb1⟩)
  have HB1 := hid hb1
  have N1 := hid n1
  have M1 := hid n2
  have R1 := hid (hs.below hb1)
  have HWF := hid hwf
  have HPH := hid hph
  have HA := hid hA
  have HC := hid hC
  have HL := hid hL
  clear e h1 h2 h3 n0 n1 n2 hb1 hs hwf hph hA hC hL hop
  unfold calls tellT
  go_enter Tryz.func4, Tryz.ntmps4
  go_upto_region 1 with (fail)
  rw [← hW1]
  clear hW1
  have hld := V1.out.load
  have k0 : W1.cell? ⟨w.heap.size + 1, 0, none⟩ = some (.int .i64 C.epoch) := blk_cell N1.out 0
  have k1 : W1.cell? ⟨w.heap.size + 1, 1, none⟩ = some (.int .i64 C.next) := blk_cell N1.out 1
  have k2 : W1.cell? ⟨w.heap.size + 1, 2, none⟩ = some (.slice va C.opens.length vc) := blk_cell N1.out 2
  have kl := blk_lt N1.out
  have t0 : W1.cell? ⟨w.heap.size + 1 + 1, 0, none⟩ = some (.int .i64 c) := blk_cell M1.out 0
  have t1 : W1.cell? ⟨w.heap.size + 1 + 1, 1, none⟩ = some (.int .u8 k) := blk_cell M1.out 1
  have t2 : W1.cell? ⟨w.heap.size + 1 + 1, 2, none⟩ = some (.int .u8 dn) := blk_cell M1.out 2
  have t3 : W1.cell? ⟨w.heap.size + 1 + 1, 3, none⟩ = some (.int .i64 i) := blk_cell M1.out 3
  have t4 : W1.cell? ⟨w.heap.size + 1 + 1, 4, none⟩ = some (.slice sa sn sc) := blk_cell M1.out 4
  have t5 : W1.cell? ⟨w.heap.size + 1 + 1, 5, none⟩ = some (.bool m) := blk_cell M1.out 5
  have tl := blk_lt M1.out
  go_wp2_with fail
  clear hld k0 k1 k2 kl t0 t1 t2 t3 t4 t5 tl
  refine (hgreat_any B bv C.epoch C.next c k dn i (.slice va C.opens.length vc) C.opens sa sn sc m W1 V1.out.is R1.out).mono ?_
  rintro e W2 ⟨q, rfl, hq, hb⟩
  have HB2 := hid (HB1.out.trans (hb.mono HB1.out.size))
  have V2 := hid (V1.out.below hb)
  have N2 := hid (blk_below N1.out hb (blk_lt N1.out))
  have M2 := hid (blk_below M1.out hb (blk_lt M1.out))
  have R2 := hid (R1.out.below hb)
  have HQ := hid hq
  clear hb hq
  cases q with
  | true =>
    go_wp2_with fail
    refine (wakes_any W2 (HA.out.below HB2.out) (HC.out.below HB2.out) (HL.out.below HB2.out)).mono ?_
    rintro e Ww ⟨rfl, hb⟩
    have HBw := hid (HB2.out.trans (hb.mono HB2.out.size))
    clear hb
    go_wp2
    go_ret
    exact ⟨rfl, HBw.out⟩
  | false =>
    obtain ⟨g1, g2, g3, g4⟩ := HQ.out rfl
    have G1 := hid g1
    have G2 := hid g2
    have G3 := hid g3
    have G4 := hid hlM
    have HFI := hid (show Fine B 900 from ⟨by omega, by omega, HPH.out⟩)
    clear g1 g2 g3 g4 HQ
    obtain ⟨b13, h13⟩ : ∃ b, rightB B = b := ⟨_, rfl⟩
    have H13 := hid h13
    have HR13 := hid (rright_is b13 h13 V2.out.is)
    clear h13
    have hld := V2.out.load
    have k0 : W2.cell? ⟨w.heap.size + 1, 0, none⟩ = some (.int .i64 C.epoch) := blk_cell N2.out 0
    have k1 : W2.cell? ⟨w.heap.size + 1, 1, none⟩ = some (.int .i64 C.next) := blk_cell N2.out 1
    have k2 : W2.cell? ⟨w.heap.size + 1, 2, none⟩ = some (.slice va C.opens.length vc) := blk_cell N2.out 2
    have kl := blk_lt N2.out
    have t0 : W2.cell? ⟨w.heap.size + 1 + 1, 0, none⟩ = some (.int .i64 c) := blk_cell M2.out 0
    have t1 : W2.cell? ⟨w.heap.size + 1 + 1, 1, none⟩ = some (.int .u8 k) := blk_cell M2.out 1
    have t2 : W2.cell? ⟨w.heap.size + 1 + 1, 2, none⟩ = some (.int .u8 dn) := blk_cell M2.out 2
    have t3 : W2.cell? ⟨w.heap.size + 1 + 1, 3, none⟩ = some (.int .i64 i) := blk_cell M2.out 3
    have t4 : W2.cell? ⟨w.heap.size + 1 + 1, 4, none⟩ = some (.slice sa sn sc) := blk_cell M2.out 4
    have t5 : W2.cell? ⟨w.heap.size + 1 + 1, 5, none⟩ = some (.bool m) := blk_cell M2.out 5
    have tl := blk_lt M2.out
    go_wp2_with fail
    clear hld k0 k1 k2 kl t0 t1 t2 t3 t4 t5 tl
    refine HR13.out.mono ?_
    rintro e W3 ⟨rfl, hb⟩
    have HB3 := hid (HB2.out.trans (hb.mono HB2.out.size))
    have V3 := hid (V2.out.below hb)
    have N3 := hid (blk_below N2.out hb (blk_lt N2.out))
    have M3 := hid (blk_below M2.out hb (blk_lt M2.out))
    have R3 := hid (R2.out.below hb)
    clear hb HR13
    cases b13 with
    | false =>
      go_wp2_with fail
      refine (wakes_any W3 (HA.out.below HB3.out) (HC.out.below HB3.out) (HL.out.below HB3.out)).mono ?_
      rintro e Ww ⟨rfl, hb⟩
      have HBw := hid (HB3.out.trans (hb.mono HB3.out.size))
      clear hb
      go_wp2
      go_ret
      exact ⟨rfl, HBw.out⟩
    | true =>
      obtain ⟨rb, hrb⟩ : ∃ b, crightB ⟨C.epoch, C.next, C.opens⟩ = b := ⟨_, rfl⟩
      have HRB := hid hrb
      have HRR := hid (crright_at C.epoch C.next (.slice va C.opens.length vc) C.opens rb W3 (by have := G3.out; omega) HWF.out R3.out hrb)
      clear hrb
      unfold calls at HRR
      have hld := V3.out.load
      have k0 : W3.cell? ⟨w.heap.size + 1, 0, none⟩ = some (.int .i64 C.epoch) := blk_cell N3.out 0
      have k1 : W3.cell? ⟨w.heap.size + 1, 1, none⟩ = some (.int .i64 C.next) := blk_cell N3.out 1
      have k2 : W3.cell? ⟨w.heap.size + 1, 2, none⟩ = some (.slice va C.opens.length vc) := blk_cell N3.out 2
      have kl := blk_lt N3.out
      have t0 : W3.cell? ⟨w.heap.size + 1 + 1, 0, none⟩ = some (.int .i64 c) := blk_cell M3.out 0
      have t1 : W3.cell? ⟨w.heap.size + 1 + 1, 1, none⟩ = some (.int .u8 k) := blk_cell M3.out 1
      have t2 : W3.cell? ⟨w.heap.size + 1 + 1, 2, none⟩ = some (.int .u8 dn) := blk_cell M3.out 2
      have t3 : W3.cell? ⟨w.heap.size + 1 + 1, 3, none⟩ = some (.int .i64 i) := blk_cell M3.out 3
      have t4 : W3.cell? ⟨w.heap.size + 1 + 1, 4, none⟩ = some (.slice sa sn sc) := blk_cell M3.out 4
      have t5 : W3.cell? ⟨w.heap.size + 1 + 1, 5, none⟩ = some (.bool m) := blk_cell M3.out 5
      have tl := blk_lt M3.out
      go_wp2_with fail
      clear hld k0 k1 k2 kl t0 t1 t2 t3 t4 t5 tl
      refine HRR.out.mono ?_
      rintro e W4 ⟨rfl, hb⟩
      have HB4 := hid (HB3.out.trans (hb.mono HB3.out.size))
      have V4 := hid (V3.out.below hb)
      have N4 := hid (blk_below N3.out hb (blk_lt N3.out))
      have M4 := hid (blk_below M3.out hb (blk_lt M3.out))
      have R4 := hid (R3.out.below hb)
      clear hb HRR
      cases rb with
      | false =>
        go_wp2_with fail
        refine (wakes_any W4 (HA.out.below HB4.out) (HC.out.below HB4.out) (HL.out.below HB4.out)).mono ?_
        rintro e Ww ⟨rfl, hb⟩
        have HBw := hid (HB4.out.trans (hb.mono HB4.out.size))
        clear hb
        go_wp2
        go_ret
        exact ⟨rfl, HBw.out⟩
      | true =>
        by_cases b3 : now < 0
        · have d3 : decide (now < 0) = true := decide_eq_true b3
          clear b3
          go_wp2_with fail
          refine (wakes_any W4 (HA.out.below HB4.out) (HC.out.below HB4.out) (HL.out.below HB4.out)).mono ?_
          rintro e Ww ⟨rfl, hb⟩
          have HBw := hid (HB4.out.trans (hb.mono HB4.out.size))
          clear hb
          go_wp2
          go_ret
          exact ⟨rfl, HBw.out⟩
        · have d3 : decide (now < 0) = false := decide_eq_false b3
          clear b3
          by_cases b4 : 1099511627776 < now
          · have d4 : decide (1099511627776 < now) = true := decide_eq_true b4
            clear b4
            go_wp2_with fail
            refine (wakes_any W4 (HA.out.below HB4.out) (HC.out.below HB4.out) (HL.out.below HB4.out)).mono ?_
            rintro e Ww ⟨rfl, hb⟩
            have HBw := hid (HB4.out.trans (hb.mono HB4.out.size))
            clear hb
            go_wp2
            go_ret
            exact ⟨rfl, HBw.out⟩
          · have d4 : decide (1099511627776 < now) = false := decide_eq_false b4
            clear b4
            have hld := V4.out.load
            have k0 : W4.cell? ⟨w.heap.size + 1, 0, none⟩ = some (.int .i64 C.epoch) := blk_cell N4.out 0
            have k1 : W4.cell? ⟨w.heap.size + 1, 1, none⟩ = some (.int .i64 C.next) := blk_cell N4.out 1
            have k2 : W4.cell? ⟨w.heap.size + 1, 2, none⟩ = some (.slice va C.opens.length vc) := blk_cell N4.out 2
            have kl := blk_lt N4.out
            have t0 : W4.cell? ⟨w.heap.size + 1 + 1, 0, none⟩ = some (.int .i64 c) := blk_cell M4.out 0
            have t1 : W4.cell? ⟨w.heap.size + 1 + 1, 1, none⟩ = some (.int .u8 k) := blk_cell M4.out 1
            have t2 : W4.cell? ⟨w.heap.size + 1 + 1, 2, none⟩ = some (.int .u8 dn) := blk_cell M4.out 2
            have t3 : W4.cell? ⟨w.heap.size + 1 + 1, 3, none⟩ = some (.int .i64 i) := blk_cell M4.out 3
            have t4 : W4.cell? ⟨w.heap.size + 1 + 1, 4, none⟩ = some (.slice sa sn sc) := blk_cell M4.out 4
            have t5 : W4.cell? ⟨w.heap.size + 1 + 1, 5, none⟩ = some (.bool m) := blk_cell M4.out 5
            have tl := blk_lt M4.out
            go_wp2_with fail
            refine (hear_any B bv C.epoch C.next c k i now dn (.slice va C.opens.length vc) C.opens sa sn sc m W4 V4.out.is R4.out (by have := G3.out; omega) h8 HFI.out hlM (HA.out.below HB4.out) (HC.out.below HB4.out) (HL.out.below HB4.out)).mono ?_
            clear hld t0 t1 t2 t3 t4 t5 tl kl d3 d4
            clear k0 k1 k2
            rintro e Y5 ⟨v5, s5, rfl, hr, hs, hb0⟩
            obtain ⟨ra, rc, rfl⟩ := RecsL.len hr
            obtain ⟨H, hH⟩ : ∃ H, hearC ⟨C.epoch, C.next, C.opens⟩ c k = H := ⟨_, rfl⟩
            obtain ⟨l, hl⟩ : ∃ l, hearL B ⟨C.epoch, C.next, C.opens⟩ c k dn i now = l := ⟨_, rfl⟩
            have HLS := hid (show l.length ≤ 1 ∧ ∀ p ∈ l, p.2.length ≤ 3 by rw [← hl]; exact hearL_few ..)
            have HHL := hid (show H.length ≤ 60 by rw [← hH]; unfold hearC; split; · exact Nat.le_trans (kept_len ⟨C.epoch, C.next, C.opens⟩ _) G3.out
                                                   · exact G3.out)
            have HWH := hid (show ∀ x ∈ H, x.wf by rw [← hH]; exact fun x hx => HWF.out x (hearC_mem hx))
            have HCR := hid (show crightB ⟨C.epoch, C.next, H⟩ = true by rw [← hH]; exact once_right HRB.out c k)
            rw [hH] at hs
            rw [hl] at hr ⊢
            have HHH := hid hH
            have HLL := hid hl
            obtain ⟨sa5, sc5, rfl, _⟩ := hs.open
            obtain ⟨W5, hW⟩ : ∃ W, W = Y5.alloc (.cells #[.int .i64 C.epoch, .int .i64 C.next, .slice sa5 H.length sc5] 33) := ⟨_, rfl⟩
            have hz : Below Y5.heap.size Y5 W5 := by rw [hW]; exact (Below.refl _ _).alloc (Nat.le_refl _) _
            have hb : Below W4.heap.size W4 W5 := hb0.trans (hz.mono hb0.size)
            have HB5 := hid (HB4.out.trans (hb.mono HB4.out.size))
            have V5 := hid (V4.out.below hb)
            have N5 := hid (blk_below N4.out hb (blk_lt N4.out))
            have M5 := hid (blk_below M4.out hb (blk_lt M4.out))
            have R5 := hid (R4.out.below hb)
            have P5 := hid (hr.below hz)
            have Q5 := hid (RowOf.below hs hz)
            have B0 : W5.heap[Y5.heap.size]? = some (.cells #[.int .i64 C.epoch, .int .i64 C.next, .slice sa5 H.length sc5] 33) := by rw [hW]; exact heap_new _ _
            clear hb hb0 hz hr hs hH hl
            unfold calls
            go_upto_region 4 with (fail)
            rw [← hW]
            obtain ⟨T10, hT⟩ : ∃ T, Y5.heap.size = T := ⟨_, rfl⟩
            have D5 := hid B0
            rw [hT] at D5 ⊢
            clear B0 hT hW
            obtain ⟨d0, d1, d2, df, dl⟩ := blk3 D5.out
            have hld := V5.out.load
            have k0 : W5.cell? ⟨w.heap.size + 1, 0, none⟩ = some (.int .i64 C.epoch) := blk_cell N5.out 0
            have k1 : W5.cell? ⟨w.heap.size + 1, 1, none⟩ = some (.int .i64 C.next) := blk_cell N5.out 1
            have k2 : W5.cell? ⟨w.heap.size + 1, 2, none⟩ = some (.slice va C.opens.length vc) := blk_cell N5.out 2
            have kl := blk_lt N5.out
            have t0 : W5.cell? ⟨w.heap.size + 1 + 1, 0, none⟩ = some (.int .i64 c) := blk_cell M5.out 0
            have t1 : W5.cell? ⟨w.heap.size + 1 + 1, 1, none⟩ = some (.int .u8 k) := blk_cell M5.out 1
            have t2 : W5.cell? ⟨w.heap.size + 1 + 1, 2, none⟩ = some (.int .u8 dn) := blk_cell M5.out 2
            have t3 : W5.cell? ⟨w.heap.size + 1 + 1, 3, none⟩ = some (.int .i64 i) := blk_cell M5.out 3
            have t4 : W5.cell? ⟨w.heap.size + 1 + 1, 4, none⟩ = some (.slice sa sn sc) := blk_cell M5.out 4
            have t5 : W5.cell? ⟨w.heap.size + 1 + 1, 5, none⟩ = some (.bool m) := blk_cell M5.out 5
            have tl := blk_lt M5.out
            go_wp2_with fail
            refine (hear_any B bv C.epoch C.next c k i now dn (.slice sa5 H.length sc5) H sa sn sc m W5 V5.out.is Q5.out (by have := HHL.out; omega) h8 HFI.out hlM (HA.out.below HB5.out) (HC.out.below HB5.out) (HL.out.below HB5.out)).mono ?_
            clear hld t0 t1 t2 t3 t4 t5 tl kl d0 d1 d2 df dl
            clear k0 k1 k2
            rintro e Y6 ⟨v6, s6, rfl, hr, hs, hb0⟩
            obtain ⟨ra6, rc6, rfl⟩ := RecsL.len hr
            obtain ⟨H2, hH⟩ : ∃ H2, hearC ⟨C.epoch, C.next, H⟩ c k = H2 := ⟨_, rfl⟩
            obtain ⟨l2, hl⟩ : ∃ l, hearL B ⟨C.epoch, C.next, H⟩ c k dn i now = l := ⟨_, rfl⟩
            have HHL2 := hid (show H2.length ≤ 60 by rw [← hH]; unfold hearC; split; · exact Nat.le_trans (kept_len ⟨C.epoch, C.next, H⟩ _) HHL.out
                                                     · exact HHL.out)
            rw [hH] at hs
            rw [hl] at hr ⊢
            have HHH2 := hid hH
            have HLL2 := hid hl
            obtain ⟨sa6, sc6, rfl, _⟩ := hs.open
            obtain ⟨W6, hW⟩ : ∃ W, W = Y6.alloc (.cells #[.int .i64 C.epoch, .int .i64 C.next, .slice sa6 H2.length sc6] 33) := ⟨_, rfl⟩
            have hz : Below Y6.heap.size Y6 W6 := by rw [hW]; exact (Below.refl _ _).alloc (Nat.le_refl _) _
            have hb : Below W5.heap.size W5 W6 := hb0.trans (hz.mono hb0.size)
            have HB6 := hid (HB5.out.trans (hb.mono HB5.out.size))
            have V6 := hid (V5.out.below hb)
            have N6 := hid (blk_below N5.out hb (blk_lt N5.out))
            have M6 := hid (blk_below M5.out hb (blk_lt M5.out))
            have R6 := hid (R5.out.below hb)
            have P6 := hid (P5.out.below hb)
            have Q6 := hid (RowOf.below Q5.out hb)
            have D6 := hid (blk_below D5.out hb (blk_lt D5.out))
            have O6 := hid (RowOf.below hs hz)
            have B0 : W6.heap[Y6.heap.size]? = some (.cells #[.int .i64 C.epoch, .int .i64 C.next, .slice sa6 H2.length sc6] 33) := by rw [hW]; exact heap_new _ _
            clear hb hb0 hz hr hs hH hl
            unfold calls
            go_upto_region 5 with (fail)
            rw [← hW]
            obtain ⟨T12, hT⟩ : ∃ T, Y6.heap.size = T := ⟨_, rfl⟩
            have F6 := hid B0
            rw [hT] at F6 ⊢
            clear B0 hT hW
            obtain ⟨⟨y, ok⟩, hy⟩ : ∃ r, heardL C.opens c k = r := ⟨_, rfl⟩
            have HY := hid hy
            have HH := hid (heard_any C.epoch C.next c k dn i (.slice va C.opens.length vc) C.opens sa sn sc m W6 (by have := G3.out; omega) R6.out)
            unfold calls tellT at HH
            rw [hy] at HH
            clear hy
            have hld := V6.out.load
            have k0 : W6.cell? ⟨w.heap.size + 1, 0, none⟩ = some (.int .i64 C.epoch) := blk_cell N6.out 0
            have k1 : W6.cell? ⟨w.heap.size + 1, 1, none⟩ = some (.int .i64 C.next) := blk_cell N6.out 1
            have k2 : W6.cell? ⟨w.heap.size + 1, 2, none⟩ = some (.slice va C.opens.length vc) := blk_cell N6.out 2
            have kl := blk_lt N6.out
            have t0 : W6.cell? ⟨w.heap.size + 1 + 1, 0, none⟩ = some (.int .i64 c) := blk_cell M6.out 0
            have t1 : W6.cell? ⟨w.heap.size + 1 + 1, 1, none⟩ = some (.int .u8 k) := blk_cell M6.out 1
            have t2 : W6.cell? ⟨w.heap.size + 1 + 1, 2, none⟩ = some (.int .u8 dn) := blk_cell M6.out 2
            have t3 : W6.cell? ⟨w.heap.size + 1 + 1, 3, none⟩ = some (.int .i64 i) := blk_cell M6.out 3
            have t4 : W6.cell? ⟨w.heap.size + 1 + 1, 4, none⟩ = some (.slice sa sn sc) := blk_cell M6.out 4
            have t5 : W6.cell? ⟨w.heap.size + 1 + 1, 5, none⟩ = some (.bool m) := blk_cell M6.out 5
            have tl := blk_lt M6.out
            go_wp2_with fail
            refine HH.out.mono ?_
            clear hld k0 k1 k2 kl t0 t1 t2 t3 t4 t5 tl
            rintro e Y7 ⟨rfl, hb0⟩
            obtain ⟨W7, hW⟩ : ∃ W, W = Y7.alloc (.cells #[.int .i64 y.id, .int .u8 y.kind, .int .i64 y.key, .int .i64 y.sent] 40) := ⟨_, rfl⟩
            have hb : Below W6.heap.size W6 W7 := hb0.trans (by rw [hW]; exact ((Below.refl _ _).alloc (Nat.le_refl _) _).mono hb0.size)
            have HB7 := hid (HB6.out.trans (hb.mono HB6.out.size))
            have V7 := hid (V6.out.below hb)
            have N7 := hid (blk_below N6.out hb (blk_lt N6.out))
            have M7 := hid (blk_below M6.out hb (blk_lt M6.out))
            have R7 := hid (R6.out.below hb)
            have P7 := hid (P6.out.below hb)
            have Q7 := hid (RowOf.below Q6.out hb)
            have D7 := hid (blk_below D6.out hb (blk_lt D6.out))
            have O7 := hid (RowOf.below O6.out hb)
            have F7 := hid (blk_below F6.out hb (blk_lt F6.out))
            have Y0 : W7.heap[Y7.heap.size]? = some (.cells #[.int .i64 y.id, .int .u8 y.kind, .int .i64 y.key, .int .i64 y.sent] 40) := by rw [hW]; exact heap_new _ _
            clear hb hb0 HH
            unfold encS
            go_upto_region 6 with (fail)
            rw [← hW]
            obtain ⟨T13, hT⟩ : ∃ T, Y7.heap.size = T := ⟨_, rfl⟩
            have Z7 := hid Y0
            rw [hT] at Z7 ⊢
            clear hW hT Y0
            have HR6 := hid (crright_at C.epoch C.next (.slice sa5 H.length sc5) H true W7 (by have := HHL.out; omega) HWH.out Q7.out HCR.out)
            unfold calls at HR6
            have nl1 : decide ((1 : Int) < (l.length : Int)) = false := decide_eq_false (by have := HLS.out.1; omega)
            obtain ⟨d0, d1, d2, df, dl⟩ := blk3 D7.out
            go_wp2_with fail
            clear nl1 d0 d1 d2 df dl
            refine HR6.out.mono ?_
            rintro e W8 ⟨rfl, hb⟩
            have HB8 := hid (HB7.out.trans (hb.mono HB7.out.size))
            have V8 := hid (V7.out.below hb)
            have N8 := hid (blk_below N7.out hb (blk_lt N7.out))
            have M8 := hid (blk_below M7.out hb (blk_lt M7.out))
            have R8 := hid (R7.out.below hb)
            have P8 := hid (P7.out.below hb)
            have Q8 := hid (RowOf.below Q7.out hb)
            have D8 := hid (blk_below D7.out hb (blk_lt D7.out))
            have O8 := hid (RowOf.below O7.out hb)
            have F8 := hid (blk_below F7.out hb (blk_lt F7.out))
            have Z8 := hid (blk_below Z7.out hb (blk_lt Z7.out))
            clear hb HR6
            obtain ⟨z0, z1, z2, z3, zf, zl⟩ := blk4 Z8.out
            obtain ⟨d0, d1, d2, df, dl⟩ := blk3 D8.out
            obtain ⟨f0, f1, f2, ff, fl⟩ := blk3 F8.out
            have k0 : W8.cell? ⟨w.heap.size + 1, 0, none⟩ = some (.int .i64 C.epoch) := blk_cell N8.out 0
            have k1 : W8.cell? ⟨w.heap.size + 1, 1, none⟩ = some (.int .i64 C.next) := blk_cell N8.out 1
            have k2 : W8.cell? ⟨w.heap.size + 1, 2, none⟩ = some (.slice va C.opens.length vc) := blk_cell N8.out 2
            have kl := blk_lt N8.out
            cases ok with
            | false =>
              have HNO := once_not B (C := ⟨C.epoch, C.next, C.opens⟩) HY.out (dn : Int) i now
              obtain rfl : l = [] := HLL.out.symm.trans HNO.1
              obtain rfl : H = C.opens := HHH.out.symm.trans HNO.2
              clear HNO
              have HSA := hid (rsame_any C.epoch C.next C.epoch C.next (.slice va C.opens.length vc) (.slice sa5 C.opens.length sc5) C.opens C.opens W8 R8.out Q8.out (by have := G3.out; omega) (by have := G3.out; omega))
              unfold calls at HSA
              rw [sames_at (ep := C.epoch) (nx := C.next) (rfl : C.opens = C.opens)] at HSA
              simp only [List.length_nil]
              go_wp2_with fail
              refine HSA.out.mono ?_
              rintro e W9 ⟨rfl, hb⟩
              have HB9 := hid (HB8.out.trans (hb.mono HB8.out.size))
              clear hb HSA z0 z1 z2 z3 zf zl d0 d1 d2 df dl f0 f1 f2 ff fl k0 k1 k2 kl
              go_wp2_with fail
              refine (wakes_any W9 (HA.out.below HB9.out) (HC.out.below HB9.out) (HL.out.below HB9.out)).mono ?_
              rintro e Ww ⟨rfl, hb⟩
              have HBw := hid (HB9.out.trans (hb.mono HB9.out.size))
              clear hb
              go_wp2
              go_ret
              exact ⟨rfl, HBw.out⟩
            | true =>
              by_cases h7 : y.kind = 7
              · have HNO : l = [] := HLL.out.symm.trans (hear_page B (C := ⟨C.epoch, C.next, C.opens⟩) HY.out h7 (dn : Int) i now)
                obtain rfl := HNO
                have e7 : (y.kind != 7) = false := by rw [h7]; rfl
                clear h7
                simp only [List.length_nil]
                go_wp2_with fail
                refine (wakes_any W8 (HA.out.below HB8.out) (HC.out.below HB8.out) (HL.out.below HB8.out)).mono ?_
                rintro e Ww ⟨rfl, hb⟩
                have HBw := hid (HB8.out.trans (hb.mono HB8.out.size))
                clear hb
                go_wp2
                go_ret
                exact ⟨rfl, HBw.out⟩
              · have HAG := once_again B (C := ⟨C.epoch, C.next, C.opens⟩) HRB.out HY.out h7 (dn : Int) i now
                have e7 : (y.kind != 7) = true := by simpa using h7
                rw [HHH.out] at HAG
                obtain rfl : l2 = [] := HLL2.out.symm.trans HAG.1
                obtain rfl : H2 = H := HHH2.out.symm.trans HAG.2.1
                have HLN := hid (show H2.length + 1 = C.opens.length from HAG.2.2)
                clear HAG
                have HSA := hid (rsame_any C.epoch C.next C.epoch C.next (.slice sa5 H2.length sc5) (.slice sa6 H2.length sc6) H2 H2 W8 Q8.out O8.out (by have := HHL.out; omega) (by have := HHL.out; omega))
                unfold calls at HSA
                rw [sames_at (ep := C.epoch) (nx := C.next) (rfl : H2 = H2)] at HSA
                simp only [List.length_nil]
                go_wp2_with fail
                refine HSA.out.mono ?_
                clear z0 z1 z2 z3 zf zl d0 d1 d2 df dl f0 f1 f2 ff fl k0 k1 k2 kl HSA
                rintro e W9 ⟨rfl, hb⟩
                have HB9 := hid (HB8.out.trans (hb.mono HB8.out.size))
                have V9 := hid (V8.out.below hb)
                have N9 := hid (blk_below N8.out hb (blk_lt N8.out))
                have M9 := hid (blk_below M8.out hb (blk_lt M8.out))
                have R9 := hid (R8.out.below hb)
                have P9 := hid (P8.out.below hb)
                have Z9 := hid (blk_below Z8.out hb (blk_lt Z8.out))
                have D9 := hid (blk_below D8.out hb (blk_lt D8.out))
                clear hb
                obtain ⟨d0, d1, d2, df, dl⟩ := blk3 D9.out
                have k2 : W9.cell? ⟨w.heap.size + 1, 2, none⟩ = some (.slice va C.opens.length vc) := blk_cell N9.out 2
                have kf := blk_free N9.out 2
                have kl := blk_lt N9.out
                have hln : wrap64 ((H2.length : Int) + 1) = (C.opens.length : Int) := by have h1 := HLN.out; have h2 := G3.out; unfold wrap64; omega
                rcases hlc : l with _ | ⟨r, _ | ⟨r', l'⟩⟩
                · subst hlc
                  simp only [List.length_nil]
                  go_wp2_with fail
                  refine (wakes_any W9 (HA.out.below HB9.out) (HC.out.below HB9.out) (HL.out.below HB9.out)).mono ?_
                  rintro e Ww ⟨rfl, hb⟩
                  have HBw := hid (HB9.out.trans (hb.mono HB9.out.size))
                  clear hb
                  go_wp2
                  go_ret
                  exact ⟨rfl, HBw.out⟩
                · subst hlc
                  simp only [List.length_cons, List.length_nil]
                  obtain ⟨rk, rl⟩ := r
                  obtain ⟨y', hy', h7', hsay, hdut, hsm⟩ := hear_some HLL.out
                  have ey : y' = y := congrArg Prod.fst (hy'.symm.trans HY.out)
                  rw [ey] at hsay hdut
                  have HSY := hid hsay
                  have HDU := hid (decide_eq_true hdut)
                  have HSM := hid hsm
                  have HLS3 := hid (show rl.length ≤ 3 from HLS.out.2 (rk, rl) (by simp))
                  obtain ⟨rb, ro, za, zc, rfl, hq1, hq2, hq3, hq4⟩ := RecsL.one2 P9.out
                  have GB := hid hq1
                  have GC0 := hid hq2
                  have GC1 := hid hq3
                  have GR := hid hq4
                  clear ey hq1 hq2 hq3 hq4 hy' h7' hsay hdut hsm e7 h7
                  go_upto_region 10 with (fail)
                  clear d0 d1 d2 df dl k2 kf kl hln
                  refine wp_region_cut 6 1 (fun _ => True) (by kernel_rfl) (by kernel_rfl) (by kernel_rfl) ?_
                  simp only [List.take_succ_cons, List.take_zero]
                  refine wpAnyH_grownD (w0 := W9.drew) (spL _) (relD [] (KeptT 30) [] KeptE) (aliveD []) (ancD []) (spD (n := 6) (m := 6) (l := [fun z _ => z = (.agg bv), fun z _ => z = .slice (some ⟨rb, ro, none⟩) 1 rc, fun z _ => z = (.pointer (some ⟨rb, ro, none⟩)), fun z _ => z = .agg #[.int .u8 rk, .slice za rl.length zc], fun z w => BrEnd W9 (applyB B rk (rl)) z w, fun z w => NewBr W9 z w]) (apps := []) (stab := []) (appsE := []) (stabE := []) ⟨stays_eq _, stays_eq _, stays_eq _, stays_eq _, stays_brEnd _ _, stays_new _, trivial⟩ trivial trivial rfl (by decide) (by decide)) (by kernel_rfl) (by kernel_rfl) (by kernel_rfl) (by kernel_rfl) ?steps0 ?fin0 rfl
                  case steps0 =>
                    refine ⟨?_, ?_, ?_, ?_, ?_, ?_, trivial⟩
                    · intro a' w' hB hdep hoth K hK
                      have hK := growB hB hK
                      rw [if_pos (guard_none rfl)]
                      have hbw : Below W9.heap.size W9 w' := (below_drewN (Below.refl _ _) 1).trans hB
                      have t4 := hoth 4 (notDst_at (by kernel_rfl))
                      simp only [List.getElem?_toArray, List.getElem?_cons_succ, List.getElem?_cons_zero] at t4
                      have hld := (V9.out.below hbw).load
                      clear hdep hoth
                      go_simp
                      exact hK _ _ (Below.refl _ _) rfl
                    · intro a' w' hB hdep hoth K hK
                      have hK := growB hB hK
                      rw [if_pos (guard_none rfl)]
                      have hbw : Below W9.heap.size W9 w' := (below_drewN (Below.refl _ _) 1).trans hB
                      have t9 := hoth 9 (notDst_at (by kernel_rfl))
                      simp only [List.getElem?_toArray, List.getElem?_cons_succ, List.getElem?_cons_zero] at t9
                      clear hdep hoth
                      go_simp
                      exact hK _ _ (Below.refl _ _) rfl
                    · intro a' w' hB hdep hoth K hK
                      have hK := growB hB hK
                      rw [if_pos (guard_none rfl)]
                      have hbw : Below W9.heap.size W9 w' := (below_drewN (Below.refl _ _) 1).trans hB
                      obtain ⟨vx0, gx0, ex0⟩ := hdep ⟨1, .data⟩ (by simp) rfl
                      have gx0 := gx0 121 rfl (by simp)
                      obtain rfl : vx0 = .slice (some ⟨rb, ro, none⟩) 1 rc := ex0
                      clear hdep hoth
                      go_simp
                      exact hK _ _ (Below.refl _ _) rfl
                    · intro a' w' hB hdep hoth K hK
                      have hK := growB hB hK
                      rw [if_pos (guard_none rfl)]
                      have hbw : Below W9.heap.size W9 w' := (below_drewN (Below.refl _ _) 1).trans hB
                      obtain ⟨vx0, gx0, ex0⟩ := hdep ⟨2, .data⟩ (by simp) rfl
                      have gx0 := gx0 122 rfl (by simp)
                      obtain rfl : vx0 = (.pointer (some ⟨rb, ro, none⟩)) := ex0
                      have g0 := cell_below GC0.out hbw
                      have g1 := cell_below GC1.out hbw
                      have hb1w : rb < w'.heap.size := Nat.lt_of_lt_of_le GB.out hbw.size
                      clear hdep hoth
                      go_simp
                      exact hK _ _ (Below.refl _ _) rfl
                    · intro a' w' hB hdep hoth K hK
                      have hK := growB hB hK
                      rw [if_pos (guard_none rfl)]
                      have hbw : Below W9.heap.size W9 w' := (below_drewN (Below.refl _ _) 1).trans hB
                      obtain ⟨v0, g0, e0⟩ := hdep ⟨0, .data⟩ (by simp) rfl
                      have g0 := g0 120 rfl (by simp)
                      obtain rfl : v0 = (.agg bv) := e0
                      obtain ⟨v1, g1, e1⟩ := hdep ⟨3, .data⟩ (by simp) rfl
                      have g1 := g1 123 rfl (by simp)
                      obtain rfl : v1 = .agg #[.int .u8 rk, .slice za rl.length zc] := e1
                      have HA := hid (rapply_is rk rl 900 (V9.out.below hbw).is ⟨_, rfl, GR.out.below hbw⟩ HFI.out (by omega) G4.out (by have := HLS3.out; omega) (says_kinds HSY.out))
                      clear hdep hoth
                      go_simp
                      refine HA.out.mono ?_
                      rintro e w'' ⟨v, rfl, he, hb⟩
                      exact hK v _ hb (he.base hbw.size)
                    · intro a' w' hB hdep hoth K hK
                      have hK := growB hB hK
                      rw [if_pos (guard_none rfl)]
                      have hbw : Below W9.heap.size W9 w' := (below_drewN (Below.refl _ _) 1).trans hB
                      clear hdep hoth
                      go_simp
                      exact hK _ _ ((Below.refl _ _).alloc (Nat.le_refl _) _) ⟨w'.heap.size, rfl, hbw.size, heap_new w' _⟩
                  case fin0 =>
                    intro vs w' hB hs
                    have hbw : Below W9.heap.size W9 w' := (below_drewN (Below.refl _ _) 1).trans hB
                    have e4 := hs 4 (by decide) (by decide)
                    have e4 : BrEnd W9 _ (vs 4) w' := e4
                    obtain ⟨T0, e5, hT, hz⟩ := hs 5 (by decide) (by decide)
                    clear hs
                    refine cutQ_held (fun _ => True) (fun f => ?_)
                    simp only [actOf, dstAt, if_true, List.getElem?_toArray, List.getElem?_cons_succ, List.getElem?_cons_zero, Option.bind_some, Act.put, List.setIfInBounds_toArray, List.set_cons_zero, List.set_cons_succ, List.length_cons, List.length_nil, Nat.reduceAdd]
                    rw [e5]
                    obtain ⟨u0, hu⟩ : ∃ u, vs 4 = u := ⟨_, rfl⟩
                    rw [hu] at e4 ⊢
                    obtain ⟨X0, hst, hvar, hbv, hbx, hXo, hXs⟩ := brEnd_store e4 hz rfl hbw hT
                    refine wpAnyH_ready (rs := [6]) (by kernel_rfl) (by simp) ?_
                    refine AllReadyH.cons rfl (fun K hK => ?_) AllReadyH.nil
                    go_simp
                    refine hK.out _ _ trivial (fun _ => ?_)
                    clear hK K
                    refine wpAnyH_done (by kernel_rfl) ?_ _
                    have hb := hbx
                    have HB10 := hid (HB9.out.trans (hb.mono HB9.out.size))
                    have V10 := hid (V9.out.below hb)
                    have N10 := hid (blk_below N9.out hb (blk_lt N9.out))
                    have M10 := hid (blk_below M9.out hb (blk_lt M9.out))
                    have R10 := hid (R9.out.below hb)
                    have U10 := hid hvar
                    have Z10 := hid (blk_below Z9.out hb (blk_lt Z9.out))
                    have C10 := hid (cell_below GC0.out hb)
                    have E10 := hid (cell_below GC1.out hb)
                    have S10 := hid (RowOf.below GR.out hb)
                    have GB10 := hid (Nat.lt_of_lt_of_le GB.out hb.size)
                    clear hB hbw e4 hu hvar hbv hbx hXo hXs hst hz hT e5 hb
                    have HRR := hid (rright02_is rk (.slice za rl.length zc) rl (by rcases says_whom HSY.out with ⟨_, h | h⟩ | ⟨_, h | h, _⟩ <;> simp only at h <;> omega) (hear_nums HSM.out) X0 S10.out)
                    unfold recV at HRR
                    have g0 := C10.out
                    have g1 := E10.out
                    have gl := GB10.out
                    go_wp2_with fail
                    clear g0 g1 gl
                    refine HRR.out.mono ?_
                    rintro e W11 ⟨rfl, hb⟩
                    have HB11 := hid (HB10.out.trans (hb.mono HB10.out.size))
                    have V11 := hid (V10.out.below hb)
                    have N11 := hid (blk_below N10.out hb (blk_lt N10.out))
                    have M11 := hid (blk_below M10.out hb (blk_lt M10.out))
                    have R11 := hid (R10.out.below hb)
                    have U11 := hid (U10.out.below hb)
                    have Z11 := hid (blk_below Z10.out hb (blk_lt Z10.out))
                    clear hb HRR
                    have hldo := U11.out.load
                    have hld := V11.out.load
                    go_wp2_with fail
                    refine (rsame_is false HSM.out U11.out.is V11.out.is).mono ?_
                    clear hldo hld
                    rintro e W12 ⟨rfl, hb⟩
                    have HB12 := hid (HB11.out.trans (hb.mono HB11.out.size))
                    have V12 := hid (V11.out.below hb)
                    have N12 := hid (blk_below N11.out hb (blk_lt N11.out))
                    have M12 := hid (blk_below M11.out hb (blk_lt M11.out))
                    have R12 := hid (R11.out.below hb)
                    have U12 := hid (U11.out.below hb)
                    have Z12 := hid (blk_below Z11.out hb (blk_lt Z11.out))
                    clear hb
                    have hldo := U12.out.load
                    go_wp2_with fail
                    refine (rright_is true (hear_right H13.out rk rl) U12.out.is).mono ?_
                    clear hldo
                    rintro e W13 ⟨rfl, hb⟩
                    have HB13 := hid (HB12.out.trans (hb.mono HB12.out.size))
                    have V13 := hid (V12.out.below hb)
                    have N13 := hid (blk_below N12.out hb (blk_lt N12.out))
                    have M13 := hid (blk_below M12.out hb (blk_lt M12.out))
                    have R13 := hid (R12.out.below hb)
                    have U13 := hid (U12.out.below hb)
                    have Z13 := hid (blk_below Z12.out hb (blk_lt Z12.out))
                    clear hb
                    have hld := V13.out.load
                    obtain ⟨z0, z1, z2, z3, zf, zl⟩ := blk4 Z13.out
                    go_wp2_with fail
                    refine (dis20_is (B := B) true y.kind y.key HDU.out V13.out.is (by have := G2.out; omega) (by have := G1.out; omega)).mono ?_
                    clear hld z0 z1 z2 z3 zf zl
                    rintro e W14 ⟨rfl, hb⟩
                    have HB14 := hid (HB13.out.trans (hb.mono HB13.out.size))
                    have V14 := hid (V13.out.below hb)
                    have N14 := hid (blk_below N13.out hb (blk_lt N13.out))
                    have M14 := hid (blk_below M13.out hb (blk_lt M13.out))
                    have R14 := hid (R13.out.below hb)
                    have U14 := hid (U13.out.below hb)
                    have Z14 := hid (blk_below Z13.out hb (blk_lt Z13.out))
                    clear hb
                    obtain ⟨ma, mc, ia, ic, ka, kc, hv, hbb, _, _, hk⟩ := V14.out.open
                    have B19 := hid (show W14.cell? ⟨w.heap.size, 19, none⟩ = some (.slice ka B.K.length kc) from blk_cell hbb 19)
                    clear hv hbb
                    obtain ⟨_, _, he, _, _, _, hopk⟩ := hk.open
                    cases he
                    have HOK := hid hopk
                    clear hk hopk
                    obtain ⟨O, hO⟩ : ∃ O, applyB B rk rl = O := ⟨_, rfl⟩
                    have HO := hid hO
                    rw [hO] at U14
                    clear hO
                    obtain ⟨ma', mc', ia', ic', oa, oc, hv, hbb, _, _, hk⟩ := U14.out.open
                    have O19 := hid (show W14.cell? ⟨T0, 19, none⟩ = some (.slice oa O.K.length oc) from blk_cell hbb 19)
                    clear hv hbb
                    obtain ⟨_, _, he, _, _, _, hopk⟩ := hk.open
                    cases he
                    have HOO := hid hopk
                    clear hk hopk
                    go_wp2
                    go_loopw [16] (fun iv wr => ∃ n : Nat, n ≤ B.K.length ∧ iv = .int .i64 n ∧ Below W14.heap.size W14 wr) (fun iv _ => B.K.length - (intOf iv).toNat)
                    case atStart => exact ⟨0, Nat.zero_le _, rfl, Below.refl _ _⟩
                    case round =>
                      obtain ⟨n, hn, rfl, hb⟩ := hrel
                      obtain ⟨W15, hW15⟩ : ∃ W : World, W = wr := ⟨_, rfl⟩
                      rw [← hW15] at hb ⊢
                      clear hW15
                      have HBL := hid hb
                      have HB15 := hid (HB14.out.trans (hb.mono HB14.out.size))
                      have V15 := hid (V14.out.below hb)
                      have N15 := hid (blk_below N14.out hb (blk_lt N14.out))
                      have M15 := hid (blk_below M14.out hb (blk_lt M14.out))
                      have R15 := hid (R14.out.below hb)
                      have U15 := hid (U14.out.below hb)
                      have Z15 := hid (blk_below Z14.out hb (blk_lt Z14.out))
                      have y19 := cell_below B19.out hb
                      clear hb
                      have lb := V15.out.lt
                      by_cases hlt : n < B.K.length
                      · obtain ⟨b2, o2, rfl, hb2, hr2⟩ := HOK.out (by omega)
                        obtain ⟨x, hx⟩ := get_lt hlt
                        obtain ⟨g0, g1, g2, g3, g4, g5, g6, g7⟩ := rowK (hr2.below HBL.out hb2) hx
                        have hnL : (n : Int) < (B.K.length : Int) := by omega
                        have l2 : b2 < W15.heap.size := Nat.lt_of_lt_of_le hb2 HBL.out.size
                        have HX := hid hx
                        clear hx hr2
                        go_upto_region 17 with (fail)
                        obtain ⟨W16, hW16⟩ : ∃ W, W = W15.alloc (.cells #[.int .i64 x.id, .int .i64 x.token, .int .i64 x.version, .int .i64 x.zone, .int .u8 x.phase, .int .i64 x.since, .bool x.guarded, .bool x.complete] 63) := ⟨_, rfl⟩
                        have hb : Below W15.heap.size W15 W16 := by rw [hW16]; exact (Below.refl _ _).alloc (Nat.le_refl _) _
                        have HBL16 := hid (HBL.out.trans (hb.mono HBL.out.size))
                        have HB16 := hid (HB15.out.trans (hb.mono HB15.out.size))
                        have U16 := hid (U15.out.below hb)
                        have Z16 := hid (blk_below Z15.out hb (blk_lt Z15.out))
                        have X16 := hid (show W16.heap[W15.heap.size]? = some (.cells #[.int .i64 x.id, .int .i64 x.token, .int .i64 x.version, .int .i64 x.zone, .int .u8 x.phase, .int .i64 x.since, .bool x.guarded, .bool x.complete] 63) by rw [hW16]; exact heap_new _ _)
                        rw [← hW16]
                        obtain ⟨T17, hT⟩ : ∃ T, W15.heap.size = T := ⟨_, rfl⟩
                        rw [hT] at X16 ⊢
                        clear g0 g1 g2 g3 g4 g5 g6 g7 l2 y19 lb hW16 hb hT
                        obtain ⟨z0, z1, z2, z3, zf, zl⟩ := blk4 Z16.out
                        have x0 : W16.cell? ⟨T17, 0, none⟩ = some (.int .i64 x.id) := blk_cell X16.out 0
                        have xl := blk_lt X16.out
                        by_cases h1 : y.kind = 1
                        · have e1 : (y.kind != 1) = false := by rw [h1]; rfl
                          have HKK := hid (show y.kind = 1 ∨ x.id ≠ y.key from .inl h1)
                          clear h1
                          go_upto_region 18 with (fail)
                          clear z0 z1 z2 z3 zf zl
                          have hldo := U16.out.load
                          obtain ⟨j, hj1, hj2⟩ := hear_find (B := B) H13.out HSY.out (mem_get HX.out) HKK.out
                          dsimp only at hj1 hj2
                          rw [HO.out] at hj1 hj2
                          have HFD := hid (rfind13_at O u0 x.id (j : Int) hj1 W16 U16.out.is)
                          have HJ2 := hid hj2
                          clear hj1 hj2
                          go_wp2_with fail
                          refine HFD.out.mono ?_
                          clear hldo HFD x0 xl
                          rintro e W17 ⟨rfl, hb⟩
                          have HBL17 := hid (HBL16.out.trans (hb.mono HBL16.out.size))
                          have X17 := hid (blk_below X16.out hb (blk_lt X16.out))
                          have hlo : T0 < W17.heap.size := (U16.out.below hb).lt
                          clear hb
                          obtain ⟨b6, o6, ho6, hb6, hr6⟩ := HOO.out (by have := lt_get HJ2.out; omega)
                          have z19 := cell_below O19.out HBL17.out
                          rw [ho6] at z19
                          have hjL : (j : Int) < (O.K.length : Int) := by have := lt_get HJ2.out; omega
                          obtain ⟨f0, f1, f2, f3, f4, f5, f6, f7⟩ := rowK (hr6.below HBL17.out hb6) HJ2.out
                          have l6 : b6 < W17.heap.size := Nat.lt_of_lt_of_le hb6 HBL17.out.size
                          have x0 : W17.cell? ⟨T17, 0, none⟩ = some (.int .i64 x.id) := blk_cell X17.out 0
                          have x1 : W17.cell? ⟨T17, 1, none⟩ = some (.int .i64 x.token) := blk_cell X17.out 1
                          have x2 : W17.cell? ⟨T17, 2, none⟩ = some (.int .i64 x.version) := blk_cell X17.out 2
                          have x3 : W17.cell? ⟨T17, 3, none⟩ = some (.int .i64 x.zone) := blk_cell X17.out 3
                          have x4 : W17.cell? ⟨T17, 4, none⟩ = some (.int .u8 x.phase) := blk_cell X17.out 4
                          have x5 : W17.cell? ⟨T17, 5, none⟩ = some (.int .i64 x.since) := blk_cell X17.out 5
                          have x6 : W17.cell? ⟨T17, 6, none⟩ = some (.bool x.guarded) := blk_cell X17.out 6
                          have x7 : W17.cell? ⟨T17, 7, none⟩ = some (.bool x.complete) := blk_cell X17.out 7
                          have xl := blk_lt X17.out
                          have dj : decide ((j : Int) < 0) = false := decide_eq_false (by omega)
                          have hne := neqkpE_run x x
                          rw [kpEB_iff.2 rfl] at hne
                          clear hr6 ho6
                          go_wp2
                          go_quiet (fail)
                          go_wp2
                          go_roundw
                          case rel => exact ⟨n + 1, by omega, by go_num, below_drewN HBL17.out _⟩
                          case measure => simp [intOf]; omega
                        · have e1 : (y.kind != 1) = true := by simpa using h1
                          clear h1
                          by_cases h2 : x.id = y.key
                          · have e2 : (x.id == y.key) = true := by simpa using h2
                            clear h2
                            go_wp2
                            go_roundw
                            case rel => exact ⟨n + 1, by omega, by go_num, HBL16.out⟩
                            case measure => simp [intOf]; omega
                          · have e2 : (x.id == y.key) = false := by simpa using h2
                            have HKK := hid (show y.kind = 1 ∨ x.id ≠ y.key from .inr h2)
                            clear h2
                            go_upto_region 18 with (fail)
                            clear z0 z1 z2 z3 zf zl
                            have hldo := U16.out.load
                            obtain ⟨j, hj1, hj2⟩ := hear_find (B := B) H13.out HSY.out (mem_get HX.out) HKK.out
                            dsimp only at hj1 hj2
                            rw [HO.out] at hj1 hj2
                            have HFD := hid (rfind13_at O u0 x.id (j : Int) hj1 W16 U16.out.is)
                            have HJ2 := hid hj2
                            clear hj1 hj2
                            go_wp2_with fail
                            refine HFD.out.mono ?_
                            clear hldo HFD x0 xl
                            rintro e W17 ⟨rfl, hb⟩
                            have HBL17 := hid (HBL16.out.trans (hb.mono HBL16.out.size))
                            have X17 := hid (blk_below X16.out hb (blk_lt X16.out))
                            have hlo : T0 < W17.heap.size := (U16.out.below hb).lt
                            clear hb
                            obtain ⟨b6, o6, ho6, hb6, hr6⟩ := HOO.out (by have := lt_get HJ2.out; omega)
                            have z19 := cell_below O19.out HBL17.out
                            rw [ho6] at z19
                            have hjL : (j : Int) < (O.K.length : Int) := by have := lt_get HJ2.out; omega
                            obtain ⟨f0, f1, f2, f3, f4, f5, f6, f7⟩ := rowK (hr6.below HBL17.out hb6) HJ2.out
                            have l6 : b6 < W17.heap.size := Nat.lt_of_lt_of_le hb6 HBL17.out.size
                            have x0 : W17.cell? ⟨T17, 0, none⟩ = some (.int .i64 x.id) := blk_cell X17.out 0
                            have x1 : W17.cell? ⟨T17, 1, none⟩ = some (.int .i64 x.token) := blk_cell X17.out 1
                            have x2 : W17.cell? ⟨T17, 2, none⟩ = some (.int .i64 x.version) := blk_cell X17.out 2
                            have x3 : W17.cell? ⟨T17, 3, none⟩ = some (.int .i64 x.zone) := blk_cell X17.out 3
                            have x4 : W17.cell? ⟨T17, 4, none⟩ = some (.int .u8 x.phase) := blk_cell X17.out 4
                            have x5 : W17.cell? ⟨T17, 5, none⟩ = some (.int .i64 x.since) := blk_cell X17.out 5
                            have x6 : W17.cell? ⟨T17, 6, none⟩ = some (.bool x.guarded) := blk_cell X17.out 6
                            have x7 : W17.cell? ⟨T17, 7, none⟩ = some (.bool x.complete) := blk_cell X17.out 7
                            have xl := blk_lt X17.out
                            have dj : decide ((j : Int) < 0) = false := decide_eq_false (by omega)
                            have hne := neqkpE_run x x
                            rw [kpEB_iff.2 rfl] at hne
                            clear hr6 ho6
                            go_wp2
                            go_quiet (fail)
                            go_wp2
                            go_roundw
                            case rel => exact ⟨n + 1, by omega, by go_num, below_drewN HBL17.out _⟩
                            case measure => simp [intOf]; omega
                      · obtain rfl : n = B.K.length := by omega
                        go_wp2_with fail
                        refine (wakes_any W15 (HA.out.below HB15.out) (HC.out.below HB15.out) (HL.out.below HB15.out)).mono ?_
                        rintro e Ww ⟨rfl, hb⟩
                        have HBw := hid (HB15.out.trans (hb.mono HB15.out.size))
                        clear hb
                        go_wp2
                        go_ret
                        exact ⟨rfl, HBw.out⟩
                · exact absurd HLS.out.1 (by rw [hlc]; simp)
end Go.Proofs.YthhgpiolcnojfaaGreatDoor
