/- HearLate: answers to calls that are closed, or late, or of another epoch. Printed by gn_lhl.py. -/
import Derived.Test.YthhgpiolcnojfaaGreatDoorHg
import Derived.Test.YthhgpiolcnojfaaGreatDoorHlp
import Derived.Test.YthhgpiolcnojfaaGreatDoorRfm
import Derived.Deep.RegionHeld3
namespace Go.Proofs.YthhgpiolcnojfaaGreatDoor
open Go.RowKit Go.Shelf
attribute [-go_sem] loadVar storeVar Instr.buildSlice
attribute [local go_sem] load_other store_other

theorem set_row12 {W : World} {s : Value} {l : List CallV} {T : Nat} {c : Array Value} {t : TypeId} (h : Row12 W s l) (hT : W.heap[T]? = some (.cells c t)) (hc : c.size ≤ 3) (j : Nat) (u : Value) : Row12 (W.setCell ⟨T, j, none⟩ u) s l := by
  rcases h with h | ⟨h0, b, off, cc, rfl, h1, h2, hb, hr⟩
  · exact .inl h
  · obtain ⟨x, hx⟩ := get_lt h0
    have h3 := hr 0 x hx 3 _ rfl
    have hne : b ≠ T := by
      intro e
      subst e
      rw [blk_cell hT] at h3
      have := (Array.getElem?_eq_some_iff.1 h3).1
      omega
    refine .inr ⟨h0, b, off, cc, rfl, h1, h2, by simpa using hb, fun i x hx j' v hj => ?_⟩
    rw [World.cell?_setCell_far _ _ _ _ (by simpa using Ne.symm hne)]
    exact hr i x hx j' v hj
theorem wp_namedQ' {Q : Exit → Act → World → Prop} {e : Exit} {a : Act} {w : World} (h : ∀ U, U = w → Q e a U) : Q e a w := h w rfl
theorem keptL_len2 (C : CallsV) (c : Int) : (keptL ⟨C.epoch, C.next, C.opens⟩ (fun x => x.id != c)).length ≤ C.opens.length := kept_len ⟨C.epoch, C.next, C.opens⟩ _
theorem lateL_len2 (C : CallsV) (now : Int) : (lateL ⟨C.epoch, C.next, C.opens⟩ now 0).length ≤ C.opens.length := late_len ⟨C.epoch, C.next, C.opens⟩ now 0
theorem sames {ep nx : Int} {L M : List CallV} (h : L = M) : sameV ⟨ep, nx, L⟩ ⟨ep, nx, M⟩ = true := by
  subst h
  simp [sameV]
def CloseR (ep nx : Int) (l : List CallV) (z : Value) (w : World) : Prop := ∃ v, z = calls ep nx v ∧ Row12 w v l
theorem stays_closeR (ep nx : Int) (l : List CallV) : Stays (CloseR ep nx l) := by
  rintro z w w' ⟨v, h1, h2⟩ hb
  exact ⟨v, h1, h2.below hb⟩
def HearT (ep nx : Int) (r : List (Int × List Int)) (l : List CallV) (z : Value) (w : World) : Prop := ∃ v s, z = .tuple #[v, calls ep nx s] ∧ RecsL w r v ∧ Row12 w s l
theorem stays_hearT (ep nx : Int) (r : List (Int × List Int)) (l : List CallV) : Stays (HearT ep nx r l) := by
  rintro z w w' ⟨v, s, h1, h2, h3⟩ hb
  exact ⟨v, s, h1, h2.below hb, h3.below hb⟩
def RecsT (r : List (Int × List Int)) (z : Value) (w : World) : Prop := RecsL w r z
theorem stays_recsT (r : List (Int × List Int)) : Stays (RecsT r) := fun _ _ _ h hb => RecsL.below h hb
def NewCalls (base : World) (v : Value) (w : World) : Prop := ∃ T, v = .pointer (some ⟨T, 0, none⟩) ∧ base.heap.size ≤ T ∧ w.heap[T]? = some (.cells #[.int .i64 0, .int .i64 0, .slice none 0 0] 33)
theorem stays_newCalls (base : World) : Stays (NewCalls base) := by
  rintro v w w' ⟨T, h1, h2, h3⟩ hb
  exact ⟨T, h1, h2, blk_below h3 hb (blk_lt h3)⟩
set_option maxRecDepth 100000 in
set_option maxHeartbeats 8000000 in
theorem hlate_law (B : BrainV) (bv : Array Value) (C : CallsV) (c k i now bf : Int) (dn : Nat) (s : Value) (sa : Option Addr) (sn sc : Nat) (m : Bool) (w : World) (hB : BrIs w B (.agg bv)) (hs : Row12 w s C.opens) (hwf : ∀ x ∈ C.opens, x.wf) (hph : ∀ x ∈ B.K, in8 x.phase) (h8 : dn ≤ 255) (hlM : B.M.length ≤ 17592186043904)
    (hA : Asked w) (hC : Changes w) (hL : Limits w) :
    Calls Tryz.prog 5 #[.agg bv, calls C.epoch C.next s, tellT c k dn i (.slice sa sn sc) m, .int .i64 now, .int .i64 bf] w fun e w' => e = .returned (.bool true) ∧ Below w.heap.size w w' := by
  obtain ⟨va, vc, rfl, hv1, hv2, hv3, _⟩ := hs.open
  obtain ⟨W1, hW1⟩ : ∃ W1, W1 = ((w.alloc (.cells bv 30)).alloc (.cells #[.int .i64 C.epoch, .int .i64 C.next, .slice va C.opens.length vc] 33)).alloc (.cells #[.int .i64 c, .int .u8 k, .int .u8 dn, .int .i64 i, .slice sa sn sc, .bool m] 36) := ⟨_, rfl⟩
  have hb1 : Below w.heap.size w W1 := by rw [hW1]; exact (((Below.refl _ _).alloc (Nat.le_refl _) _).alloc (by simp) _).alloc (by simp; omega) _
  have n0 : BB W1 w.heap.size bv := by rw [hW1]; exact blk_alloc (blk_alloc (heap_new _ _) _) _
  have n1 : W1.heap[w.heap.size + 1]? = some (.cells #[.int .i64 C.epoch, .int .i64 C.next, .slice va C.opens.length vc] 33) := by rw [hW1]; exact blk_alloc (heap_new2 _ _ _) _
  have n2 : W1.heap[w.heap.size + 1 + 1]? = some (.cells #[.int .i64 c, .int .u8 k, .int .u8 dn, .int .i64 i, .slice sa sn sc, .bool m] 36) := by rw [hW1]; simpa using heap_new2 (w.alloc _) _ _
  obtain ⟨mv, iv, kv, e, h1, h2, h3⟩ := hB
  have V1 := hid (show VarIs W1 w.heap.size B (.agg bv) from by cases e; exact ⟨mv, iv, kv, rfl, n0, h1.below hb1, h2.below hb1, h3.below hb1⟩)
  have HW1 := hid hW1
  have HB1 := hid hb1
  have N1 := hid n1
  have M1 := hid n2
  have R1 := hid (hs.below hb1)
  have HWF := hid hwf
  have HPH := hid hph
  have HA := hid hA
  have HC := hid hC
  have HL := hid hL
  have hld := V1.out.load
  rw [hW1] at hld
  clear e h1 h2 h3 n0 n1 n2 hb1 hW1 hs hwf hph hA hC hL
  unfold calls tellT
  go_enter Tryz.func5, Tryz.ntmps5
  go_wp2_with fail
  rw [← HW1.out]
  clear hld
  refine (hgreat_any B bv C.epoch C.next c k dn i (.slice va C.opens.length vc) C.opens sa sn sc m W1 V1.out.is R1.out).mono ?_
  rintro e W2 ⟨q, rfl, hq, hb⟩
  have HB2 := hid (HB1.out.trans (hb.mono HB1.out.size))
  have V2 := hid (V1.out.below hb)
  have N2 := hid (blk_below N1.out hb (blk_lt N1.out))
  have M2 := hid (blk_below M1.out hb (blk_lt M1.out))
  have R2 := hid (R1.out.below hb)
  have HQ := hid hq
  clear hb hq
  cases q with
  | true =>
    go_wp2_with fail
    refine (wakes_any W2 (HA.out.below HB2.out) (HC.out.below HB2.out) (HL.out.below HB2.out)).mono ?_
    rintro e Ww ⟨rfl, hb⟩
    have HBw := hid (HB2.out.trans (hb.mono HB2.out.size))
    clear hb
    go_wp2
    go_ret
    exact ⟨rfl, HBw.out⟩
  | false =>
    obtain ⟨g1, g2, g3, g4⟩ := HQ.out rfl
    have G1 := hid g1
    have G2 := hid g2
    have G3 := hid g3
    have G4 := hid hlM
    have HFI := hid (show Fine B 900 from ⟨by omega, by omega, HPH.out⟩)
    clear g1 g2 g3 g4 HQ
    obtain ⟨rb, hrb⟩ : ∃ b, crightB ⟨C.epoch, C.next, C.opens⟩ = b := ⟨_, rfl⟩
    have HRB := hid hrb
    have HRR := hid (crright_at C.epoch C.next (.slice va C.opens.length vc) C.opens rb W2 (by have := G3.out; omega) HWF.out R2.out hrb)
    clear hrb
    have hld := V2.out.load
    have k0 : W2.cell? ⟨w.heap.size + 1, 0, none⟩ = some (.int .i64 C.epoch) := blk_cell N2.out 0
    have k1 : W2.cell? ⟨w.heap.size + 1, 1, none⟩ = some (.int .i64 C.next) := blk_cell N2.out 1
    have k2 : W2.cell? ⟨w.heap.size + 1, 2, none⟩ = some (.slice va C.opens.length vc) := blk_cell N2.out 2
    have kl := blk_lt N2.out
    unfold calls at HRR
    go_wp2_with fail
    refine HRR.out.mono ?_
    clear HRR hld k0 k1 k2 kl
    rintro e W3 ⟨rfl, hb⟩
    have HB3 := hid (HB2.out.trans (hb.mono HB2.out.size))
    have V3 := hid (V2.out.below hb)
    have N3 := hid (blk_below N2.out hb (blk_lt N2.out))
    have M3 := hid (blk_below M2.out hb (blk_lt M2.out))
    have R3 := hid (R2.out.below hb)
    clear hb
    cases rb with
    | false =>
      go_wp2_with fail
      refine (wakes_any W3 (HA.out.below HB3.out) (HC.out.below HB3.out) (HL.out.below HB3.out)).mono ?_
      rintro e Ww ⟨rfl, hb⟩
      have HBw := hid (HB3.out.trans (hb.mono HB3.out.size))
      clear hb
      go_wp2
      go_ret
      exact ⟨rfl, HBw.out⟩
    | true =>
      by_cases b1 : bf < 1
      · have d1 : decide (bf < 1) = true := decide_eq_true b1
        clear b1
        go_wp2_with fail
        refine (wakes_any W3 (HA.out.below HB3.out) (HC.out.below HB3.out) (HL.out.below HB3.out)).mono ?_
        rintro e Ww ⟨rfl, hb⟩
        have HBw := hid (HB3.out.trans (hb.mono HB3.out.size))
        clear hb
        go_wp2
        go_ret
        exact ⟨rfl, HBw.out⟩
      · have d1 : decide (bf < 1) = false := decide_eq_false b1
        have B1 := hid (show 1 ≤ bf by omega)
        clear b1
        by_cases b2 : 1000 < bf
        · have d2 : decide (1000 < bf) = true := decide_eq_true b2
          clear b2
          go_wp2_with fail
          refine (wakes_any W3 (HA.out.below HB3.out) (HC.out.below HB3.out) (HL.out.below HB3.out)).mono ?_
          rintro e Ww ⟨rfl, hb⟩
          have HBw := hid (HB3.out.trans (hb.mono HB3.out.size))
          clear hb
          go_wp2
          go_ret
          exact ⟨rfl, HBw.out⟩
        · have d2 : decide (1000 < bf) = false := decide_eq_false b2
          have B2 := hid (show bf ≤ 1000 by omega)
          clear b2
          by_cases b3 : now < 0
          · have d3 : decide (now < 0) = true := decide_eq_true b3
            clear b3
            go_wp2_with fail
            refine (wakes_any W3 (HA.out.below HB3.out) (HC.out.below HB3.out) (HL.out.below HB3.out)).mono ?_
            rintro e Ww ⟨rfl, hb⟩
            have HBw := hid (HB3.out.trans (hb.mono HB3.out.size))
            clear hb
            go_wp2
            go_ret
            exact ⟨rfl, HBw.out⟩
          · have d3 : decide (now < 0) = false := decide_eq_false b3
            have B3 := hid (show 0 ≤ now by omega)
            clear b3
            by_cases b4 : 1099511627776 < now
            · have d4 : decide (1099511627776 < now) = true := decide_eq_true b4
              clear b4
              go_wp2_with fail
              refine (wakes_any W3 (HA.out.below HB3.out) (HC.out.below HB3.out) (HL.out.below HB3.out)).mono ?_
              rintro e Ww ⟨rfl, hb⟩
              have HBw := hid (HB3.out.trans (hb.mono HB3.out.size))
              clear hb
              go_wp2
              go_ret
              exact ⟨rfl, HBw.out⟩
            · have d4 : decide (1099511627776 < now) = false := decide_eq_false b4
              have B4 := hid (show now ≤ 1099511627776 by omega)
              clear b4
              have hld := V3.out.load
              have k0 : W3.cell? ⟨w.heap.size + 1, 0, none⟩ = some (.int .i64 C.epoch) := blk_cell N3.out 0
              have k1 : W3.cell? ⟨w.heap.size + 1, 1, none⟩ = some (.int .i64 C.next) := blk_cell N3.out 1
              have k2 : W3.cell? ⟨w.heap.size + 1, 2, none⟩ = some (.slice va C.opens.length vc) := blk_cell N3.out 2
              have kl := blk_lt N3.out
              have t0 : W3.cell? ⟨w.heap.size + 1 + 1, 0, none⟩ = some (.int .i64 c) := blk_cell M3.out 0
              have t1 : W3.cell? ⟨w.heap.size + 1 + 1, 1, none⟩ = some (.int .u8 k) := blk_cell M3.out 1
              have t2 : W3.cell? ⟨w.heap.size + 1 + 1, 2, none⟩ = some (.int .u8 dn) := blk_cell M3.out 2
              have t3 : W3.cell? ⟨w.heap.size + 1 + 1, 3, none⟩ = some (.int .i64 i) := blk_cell M3.out 3
              have t4 : W3.cell? ⟨w.heap.size + 1 + 1, 4, none⟩ = some (.slice sa sn sc) := blk_cell M3.out 4
              have t5 : W3.cell? ⟨w.heap.size + 1 + 1, 5, none⟩ = some (.bool m) := blk_cell M3.out 5
              have tl := blk_lt M3.out
              have hF := hid (rfind_any C.epoch C.next c (.slice va C.opens.length vc) C.opens (W3.alloc (.cells #[.int .i64 c, .int .u8 k, .int .u8 dn, .int .i64 i, .slice sa sn sc, .bool m] 36)) (by have := G3.out; omega) (R3.out.below ((Below.refl _ _).alloc (Nat.le_refl _) _)))
              unfold calls at hF
              go_wp2_with fail
              obtain ⟨W4, hW4⟩ : ∃ W, W = W3.alloc (.cells #[.int .i64 c, .int .u8 k, .int .u8 dn, .int .i64 i, .slice sa sn sc, .bool m] 36) := ⟨_, rfl⟩
              rw [← hW4] at hF ⊢
              refine hF.out.mono ?_
              rintro e X5 ⟨rfl, hb⟩
              obtain ⟨⟨y, ok⟩, hy⟩ : ∃ r, findC C.opens c = r := ⟨_, rfl⟩
              have HY := hid hy
              rw [hy]
              obtain ⟨W5, hW5⟩ : ∃ W, W = X5.alloc (.cells #[.int .i64 y.id, .int .u8 y.kind, .int .i64 y.key, .int .i64 y.sent] 40) := ⟨_, rfl⟩
              have hb4 : Below W3.heap.size W3 W4 := by rw [hW4]; exact (Below.refl _ _).alloc (Nat.le_refl _) _
              have hb5 : Below X5.heap.size X5 W5 := by rw [hW5]; exact (Below.refl _ _).alloc (Nat.le_refl _) _
              have hbv := hb4.trans (hb.mono hb4.size)
              have hbq := hbv.trans (hb5.mono hbv.size)
              have HB5 := hid (HB3.out.trans (hbq.mono HB3.out.size))
              have V5 := hid (V3.out.below hbq)
              have N5 := hid (blk_below N3.out hbq (blk_lt N3.out))
              have M5 := hid (blk_below M3.out hbq (blk_lt M3.out))
              have R5 := hid (R3.out.below hbq)
              have O0 : X5.heap[W3.heap.size]? = some (.cells #[.int .i64 c, .int .u8 k, .int .u8 dn, .int .i64 i, .slice sa sn sc, .bool m] 36) := blk_below (by rw [hW4]; exact heap_new _ _) hb (by rw [hW4]; simp)
              have O5 := hid (blk_below O0 hb5 (blk_lt O0))
              have Y5 := hid (show W5.heap[X5.heap.size]? = some (.cells #[.int .i64 y.id, .int .u8 y.kind, .int .i64 y.key, .int .i64 y.sent] 40) by rw [hW5]; exact heap_new _ _)
              have HBQ5 := hid hbq
              have HT11 := hid (show w.heap.size + 1 + 1 < W3.heap.size from blk_lt M3.out)
              have HW5 := hid hW5
              obtain ⟨T11, hT11⟩ : ∃ T, W3.heap.size = T := ⟨_, rfl⟩
              obtain ⟨T12, hT12⟩ : ∃ T, X5.heap.size = T := ⟨_, rfl⟩
              have HT3 := hid (show W3.heap.size ≤ T11 by omega)
              have HT12 := hid (show T11 < T12 by rw [← hT11, ← hT12]; exact blk_lt O0)
              have u0 := blk_free (blk_below O0 hb5 (blk_lt O0)) 0
              have ul := blk_lt (blk_below O0 hb5 (blk_lt O0))
              rw [hT11] at O5 HT11 u0 ul ⊢
              have y0 : W5.cell? ⟨T12, 0, none⟩ = some (.int .i64 y.id) := by rw [← hT12]; exact blk_cell Y5.out 0
              have o0 : W5.cell? ⟨T11, 0, none⟩ = some (.int .i64 c) := blk_cell O5.out 0
              have yl : T12 < W5.heap.size := by rw [← hT12]; exact blk_lt Y5.out
              rw [hT12] at Y5
              rw [hW5] at y0 yl u0 ul o0
              rw [← hT12] at y0 yl
              clear hld k0 k1 k2 kl t0 t1 t2 t3 t4 t5 tl hF hb hb4 hb5 hbv hbq O0 hW4 hW5 hy hT11
              unfold encS
              dsimp only
              cases ok with
              | false =>
                have HW5' := HW5.out
                have HLT := hid (show false = false ∨ y.sent ≤ now from .inl rfl)
                go_upto_region 7 with (fail)
                rw [← HW5.out]
                clear HW5 HW5' y0 yl u0 ul o0
                refine wp_region_cut 13 1 (fun _ => True) (by kernel_rfl) (by kernel_rfl) (by kernel_rfl) ?_
                simp only [List.take_succ_cons, List.take_zero]
                refine wpAnyH_grownD (w0 := W5.drew) (spL _) (relD [] (KeptT 30) [] KeptE) (aliveD []) (ancD []) (spD (n := 13) (m := 13) (l := [fun z _ => z = (.agg bv), fun z _ => z = .agg #[.int .i64 C.epoch, .int .i64 C.next, .slice va C.opens.length vc], fun z _ => z = .pointer (some ⟨w.heap.size + 1 + 1, 0, none⟩), fun z _ => z = .int .i64 c, CloseR C.epoch C.next (keptL ⟨C.epoch, C.next, C.opens⟩ (fun x => x.id != c)), fun z _ => z = .agg #[.int .i64 c, .int .u8 k, .int .u8 dn, .int .i64 i, .slice sa sn sc, .bool m], fun z _ => z = .int .i64 now, HearT C.epoch C.next [] (keptL ⟨C.epoch, C.next, C.opens⟩ (fun x => x.id != c)), HearT C.epoch C.next [] (keptL ⟨C.epoch, C.next, C.opens⟩ (fun x => x.id != c)), RecsT [], CloseR C.epoch C.next (keptL ⟨C.epoch, C.next, C.opens⟩ (fun x => x.id != c)), NewCalls W5, RecsT []]) (apps := []) (stab := []) (appsE := []) (stabE := []) ⟨stays_eq _, stays_eq _, stays_eq _, stays_eq _, stays_closeR _ _ _, stays_eq _, stays_eq _, stays_hearT _ _ _ _, stays_hearT _ _ _ _, stays_recsT _, stays_closeR _ _ _, stays_newCalls _, stays_recsT _, trivial⟩ trivial trivial rfl (by decide) (by decide)) (by kernel_rfl) (by kernel_rfl) (by kernel_rfl) (by kernel_rfl) ?steps7 ?fin7 rfl
                case steps7 =>
                  refine ⟨?_, ?_, ?_, ?_, ?_, ?_, ?_, ?_, ?_, ?_, ?_, ?_, ?_, trivial⟩
                  · intro a' w' hB hdep hoth K hK
                    have hK := growB hB hK
                    rw [if_pos (guard_none rfl)]
                    have hbw : Below W5.heap.size W5 w' := (below_drewN (Below.refl _ _) 1).trans hB
                    have t5 := hoth 5 (notDst_at (by kernel_rfl))
                    simp only [List.getElem?_toArray, List.getElem?_cons_succ, List.getElem?_cons_zero] at t5
                    have hld := (V5.out.below hbw).load
                    clear hdep hoth
                    go_simp
                    exact hK _ _ (Below.refl _ _) rfl
                  · intro a' w' hB hdep hoth K hK
                    have hK := growB hB hK
                    rw [if_pos (guard_none rfl)]
                    have hbw : Below W5.heap.size W5 w' := (below_drewN (Below.refl _ _) 1).trans hB
                    have t6 := hoth 6 (notDst_at (by kernel_rfl))
                    simp only [List.getElem?_toArray, List.getElem?_cons_succ, List.getElem?_cons_zero] at t6
                    have hcl := blk_below N5.out hbw (blk_lt N5.out)
                    have q0 : w'.cell? ⟨w.heap.size + 1, 0, none⟩ = some (.int .i64 C.epoch) := blk_cell hcl 0
                    have q1 : w'.cell? ⟨w.heap.size + 1, 1, none⟩ = some (.int .i64 C.next) := blk_cell hcl 1
                    have q2 : w'.cell? ⟨w.heap.size + 1, 2, none⟩ = some (.slice va C.opens.length vc) := blk_cell hcl 2
                    have lq := blk_lt hcl
                    clear hcl
                    clear hdep hoth
                    go_simp
                    exact hK _ _ (Below.refl _ _) rfl
                  · intro a' w' hB hdep hoth K hK
                    have hK := growB hB hK
                    rw [if_pos (guard_none rfl)]
                    have hbw : Below W5.heap.size W5 w' := (below_drewN (Below.refl _ _) 1).trans hB
                    have t7 := hoth 7 (notDst_at (by kernel_rfl))
                    simp only [List.getElem?_toArray, List.getElem?_cons_succ, List.getElem?_cons_zero] at t7
                    clear hdep hoth
                    go_simp
                    exact hK _ _ (Below.refl _ _) rfl
                  · intro a' w' hB hdep hoth K hK
                    have hK := growB hB hK
                    rw [if_pos (guard_none rfl)]
                    have hbw : Below W5.heap.size W5 w' := (below_drewN (Below.refl _ _) 1).trans hB
                    obtain ⟨vx0, gx0, ex0⟩ := hdep ⟨2, .data⟩ (by simp) rfl
                    have gx0 := gx0 65 rfl (by simp)
                    obtain rfl : vx0 = .pointer (some ⟨w.heap.size + 1 + 1, 0, none⟩) := ex0
                    have htl := blk_below M5.out hbw (blk_lt M5.out)
                    have r0 : w'.cell? ⟨w.heap.size + 1 + 1, 0, none⟩ = some (.int .i64 c) := blk_cell htl 0
                    have lr := blk_lt htl
                    clear htl
                    clear hdep hoth
                    go_simp
                    exact hK _ _ (Below.refl _ _) rfl
                  · intro a' w' hB hdep hoth K hK
                    have hK := growB hB hK
                    rw [if_pos (guard_none rfl)]
                    have hbw : Below W5.heap.size W5 w' := (below_drewN (Below.refl _ _) 1).trans hB
                    obtain ⟨v0, p0, e0⟩ := hdep ⟨1, .data⟩ (by simp) rfl
                    have p0 := p0 64 rfl (by simp)
                    obtain rfl : v0 = .agg #[.int .i64 C.epoch, .int .i64 C.next, .slice va C.opens.length vc] := e0
                    obtain ⟨v1, p1, e1⟩ := hdep ⟨3, .data⟩ (by simp) rfl
                    have p1 := p1 66 rfl (by simp)
                    obtain rfl : v1 = .int .i64 c := e1
                    have HA' := hid (rclose_any C.epoch C.next c (.slice va C.opens.length vc) C.opens w' (by have := G3.out; omega) HWF.out (R5.out.below hbw))
                    clear hdep hoth
                    unfold calls at HA'
                    go_simp
                    refine HA'.out.mono ?_
                    rintro e w'' ⟨v, rfl, ho, hb⟩
                    exact hK _ _ hb ⟨v, rfl, ho⟩
                  · intro a' w' hB hdep hoth K hK
                    have hK := growB hB hK
                    rw [if_pos (guard_none rfl)]
                    have hbw : Below W5.heap.size W5 w' := (below_drewN (Below.refl _ _) 1).trans hB
                    have t7 := hoth 7 (notDst_at (by kernel_rfl))
                    simp only [List.getElem?_toArray, List.getElem?_cons_succ, List.getElem?_cons_zero] at t7
                    have htl := blk_below M5.out hbw (blk_lt M5.out)
                    have r0 : w'.cell? ⟨w.heap.size + 1 + 1, 0, none⟩ = some (.int .i64 c) := blk_cell htl 0
                    have r1 : w'.cell? ⟨w.heap.size + 1 + 1, 1, none⟩ = some (.int .u8 k) := blk_cell htl 1
                    have r2 : w'.cell? ⟨w.heap.size + 1 + 1, 2, none⟩ = some (.int .u8 dn) := blk_cell htl 2
                    have r3 : w'.cell? ⟨w.heap.size + 1 + 1, 3, none⟩ = some (.int .i64 i) := blk_cell htl 3
                    have r4 : w'.cell? ⟨w.heap.size + 1 + 1, 4, none⟩ = some (.slice sa sn sc) := blk_cell htl 4
                    have r5 : w'.cell? ⟨w.heap.size + 1 + 1, 5, none⟩ = some (.bool m) := blk_cell htl 5
                    have lr := blk_lt htl
                    clear htl
                    clear hdep hoth
                    go_simp
                    exact hK _ _ (Below.refl _ _) rfl
                  · intro a' w' hB hdep hoth K hK
                    have hK := growB hB hK
                    rw [if_pos (guard_none rfl)]
                    have hbw : Below W5.heap.size W5 w' := (below_drewN (Below.refl _ _) 1).trans hB
                    have t3 := hoth 3 (notDst_at (by kernel_rfl))
                    simp only [List.getElem?_toArray, List.getElem?_cons_succ, List.getElem?_cons_zero] at t3
                    clear hdep hoth
                    go_simp
                    exact hK _ _ (Below.refl _ _) rfl
                  · intro a' w' hB hdep hoth K hK
                    have hK := growB hB hK
                    rw [if_pos (guard_none rfl)]
                    have hbw : Below W5.heap.size W5 w' := (below_drewN (Below.refl _ _) 1).trans hB
                    obtain ⟨v0, p0, e0⟩ := hdep ⟨0, .data⟩ (by simp) rfl
                    have p0 := p0 63 rfl (by simp)
                    obtain rfl : v0 = .agg bv := e0
                    obtain ⟨v1, p1, e1⟩ := hdep ⟨4, .data⟩ (by simp) rfl
                    have p1 := p1 67 rfl (by simp)
                    obtain ⟨cv, rfl, hcv⟩ := e1
                    obtain ⟨v2, p2, e2⟩ := hdep ⟨5, .data⟩ (by simp) rfl
                    have p2 := p2 68 rfl (by simp)
                    obtain rfl : v2 = .agg #[.int .i64 c, .int .u8 k, .int .u8 dn, .int .i64 i, .slice sa sn sc, .bool m] := e2
                    obtain ⟨v3, p3, e3⟩ := hdep ⟨6, .data⟩ (by simp) rfl
                    have p3 := p3 69 rfl (by simp)
                    obtain rfl : v3 = .int .i64 now := e3
                    have HA' := hid (hear_any B bv C.epoch C.next c k i now dn cv ((keptL ⟨C.epoch, C.next, C.opens⟩ (fun x => x.id != c))) sa sn sc m w' (V5.out.below hbw).is hcv (by have := keptL_len2 C c; have := G3.out; omega) h8 HFI.out (by have := G4.out; omega) (HA.out.below (HB5.out.trans (hbw.mono HB5.out.size))) (HC.out.below (HB5.out.trans (hbw.mono HB5.out.size))) (HL.out.below (HB5.out.trans (hbw.mono HB5.out.size))))
                    clear hdep hoth hcv
                    unfold tellT at HA'
                    go_simp
                    refine HA'.out.mono ?_
                    rintro e w'' ⟨v, s', rfl, hr, hs, hb⟩
                    have hno := hear_no B (C := ⟨C.epoch, C.next, (keptL ⟨C.epoch, C.next, C.opens⟩ (fun x => x.id != c))⟩) (c := c) (k := k) (dn : Int) i now (closed_no HRB.out c)
                    rw [hno.1] at hr
                    rw [hno.2] at hs
                    exact hK _ _ hb ⟨v, s', rfl, hr, hs⟩
                  · intro a' w' hB hdep hoth K hK
                    have hK := growB hB hK
                    rw [if_pos (guard_none rfl)]
                    have hbw : Below W5.heap.size W5 w' := (below_drewN (Below.refl _ _) 1).trans hB
                    obtain ⟨v0, p0, e0⟩ := hdep ⟨7, .data⟩ (by simp) rfl
                    have p0 := p0 70 rfl (by simp)
                    obtain ⟨v, s', rfl, e1, e2⟩ := e0
                    clear hdep hoth
                    go_simp
                    exact hK _ _ (Below.refl _ _) ⟨v, s', rfl, e1, e2⟩
                  · intro a' w' hB hdep hoth K hK
                    have hK := growB hB hK
                    rw [if_pos (guard_none rfl)]
                    have hbw : Below W5.heap.size W5 w' := (below_drewN (Below.refl _ _) 1).trans hB
                    obtain ⟨v0, p0, e0⟩ := hdep ⟨8, .data⟩ (by simp) rfl
                    have p0 := p0 62 rfl (by simp)
                    obtain ⟨v, s', rfl, e1, e2⟩ := e0
                    have E1 := hid e1
                    clear e1 e2
                    clear hdep hoth
                    go_simp
                    exact hK _ _ (Below.refl _ _) E1.out
                  · intro a' w' hB hdep hoth K hK
                    have hK := growB hB hK
                    rw [if_pos (guard_none rfl)]
                    have hbw : Below W5.heap.size W5 w' := (below_drewN (Below.refl _ _) 1).trans hB
                    obtain ⟨v0, p0, e0⟩ := hdep ⟨8, .data⟩ (by simp) rfl
                    have p0 := p0 62 rfl (by simp)
                    obtain ⟨v, s', rfl, e1, e2⟩ := e0
                    have E2 := hid e2
                    clear e1 e2
                    clear hdep hoth
                    go_simp
                    exact hK _ _ (Below.refl _ _) ⟨s', rfl, E2.out⟩
                  · intro a' w' hB hdep hoth K hK
                    have hK := growB hB hK
                    rw [if_pos (guard_none rfl)]
                    have hbw : Below W5.heap.size W5 w' := (below_drewN (Below.refl _ _) 1).trans hB
                    clear hdep hoth
                    go_simp
                    exact hK _ _ ((Below.refl _ _).alloc (Nat.le_refl _) _) ⟨w'.heap.size, rfl, hbw.size, heap_new w' _⟩
                  · intro a' w' hB hdep hoth K hK
                    have hK := growB hB hK
                    rw [if_pos (guard_none rfl)]
                    have hbw : Below W5.heap.size W5 w' := (below_drewN (Below.refl _ _) 1).trans hB
                    obtain ⟨v0, p0, e0⟩ := hdep ⟨9, .data⟩ (by simp) rfl
                    have p0 := p0 71 rfl (by simp)
                    have E1 := hid (show RecsL w' [] v0 from e0)
                    clear e0
                    clear hdep hoth
                    go_simp
                    exact hK _ _ (Below.refl _ _) E1.out
                case fin7 =>
                  intro vs w' hB hs
                  have hbw : Below W5.heap.size W5 w' := (below_drewN (Below.refl _ _) 1).trans hB
                  have er : RecsL w' [] (vs 12) := hs 12 (by decide) (by decide)
                  obtain ⟨sv7, ec, hcr⟩ := hs 10 (by decide) (by decide)
                  obtain ⟨T15, ea, hT, hz⟩ := hs 11 (by decide) (by decide)
                  clear hs
                  refine cutQ_held (fun _ => True) (fun f => ?_)
                  simp only [actOf, dstAt, if_true, List.getElem?_toArray, List.getElem?_cons_succ, List.getElem?_cons_zero, Option.bind_some, Act.put, List.setIfInBounds_toArray, List.set_cons_zero, List.set_cons_succ, List.length_cons, List.length_nil, Nat.reduceAdd]
                  rw [ec, ea]
                  obtain ⟨ra7, rc7, hrv⟩ : ∃ a c, vs 12 = .slice a 0 c := RecsL.len er
                  rw [hrv]
                  obtain ⟨sa7, sc7, rfl⟩ := len12 hcr
                  have z0 := blk_cell hz 0
                  have z1 := blk_cell hz 1
                  have z2 := blk_cell hz 2
                  have zf := blk_free hz
                  have zl := blk_lt hz
                  simp only [List.getElem?_toArray, List.getElem?_cons_zero, List.getElem?_cons_succ] at z0 z1 z2
                  have HZ := hid hz
                  have HCR := hid hcr
                  have HT' := hid hT
                  have HBW := hid hbw
                  clear hz hcr hT er hrv hB hbw
                  unfold calls
                  refine wpAnyH_ready (rs := [13]) (by kernel_rfl) (by simp) ?_
                  refine AllReadyH.cons rfl (fun K hK => ?_) AllReadyH.nil
                  go_simp
                  refine hK.out _ _ trivial (fun _ => ?_)
                  clear hK K
                  refine wpAnyH_done (by kernel_rfl) ?_ _
                  refine wp_namedQ' (fun W7 hX => ?_)
                  have D7 := hid (set3 HZ.out (.int .i64 C.epoch) (.int .i64 C.next) (.slice sa7 (keptL ⟨C.epoch, C.next, C.opens⟩ (fun x => x.id != c)).length sc7))
                  have Q7 := hid (set_row12 (set_row12 (set_row12 HCR.out HZ.out (by decide) 0 (.int .i64 C.epoch)) (blk_set HZ.out 0 _) (by simp) 1 (.int .i64 C.next)) (blk_set (blk_set HZ.out 0 _) 1 _) (by simp) 2 (.slice sa7 (keptL ⟨C.epoch, C.next, C.opens⟩ (fun x => x.id != c)).length sc7))
                  have hbq : Below W5.heap.size W5 W7 := by
                    rw [hX]
                    exact ((HBW.out.setCell (p := ⟨T15, 0, none⟩) HT'.out _).setCell (p := ⟨T15, 1, none⟩) HT'.out _).setCell (p := ⟨T15, 2, none⟩) HT'.out _
                  rw [← hX] at D7 Q7
                  clear hX z0 z1 z2 zf zl HZ HCR HT' HBW ec ea
                  have HB7 := hid (HB5.out.trans (hbq.mono HB5.out.size))
                  have V7 := hid (V5.out.below hbq)
                  have N7 := hid (blk_below N5.out hbq (blk_lt N5.out))
                  have M7 := hid (blk_below M5.out hbq (blk_lt M5.out))
                  have R7 := hid (R5.out.below hbq)
                  have O7 := hid (blk_below O5.out hbq (blk_lt O5.out))
                  have Y7 := hid (blk_below Y5.out hbq (blk_lt Y5.out))
                  clear hbq
                  go_upto_region 8 with (fail)
                  refine wp_region_cut 12 1 (fun _ => True) (by kernel_rfl) (by kernel_rfl) (by kernel_rfl) ?_
                  simp only [List.take_succ_cons, List.take_zero]
                  refine wpAnyH_grownD (w0 := W7.drew) (spL _) (relD [] (KeptT 30) [] KeptE) (aliveD []) (ancD []) (spD (n := 12) (m := 12) (l := [fun z _ => z = (.agg bv), fun z _ => z = .agg #[.int .i64 C.epoch, .int .i64 C.next, .slice va C.opens.length vc], fun z _ => z = .int .i64 now, CloseR C.epoch C.next (lateL ⟨C.epoch, C.next, C.opens⟩ now 0), fun z _ => z = .agg #[.int .i64 c, .int .u8 k, .int .u8 dn, .int .i64 i, .slice sa sn sc, .bool m], fun z _ => z = .int .i64 now, HearT C.epoch C.next [] (lateL ⟨C.epoch, C.next, C.opens⟩ now 0), HearT C.epoch C.next [] (lateL ⟨C.epoch, C.next, C.opens⟩ now 0), RecsT [], CloseR C.epoch C.next (lateL ⟨C.epoch, C.next, C.opens⟩ now 0), NewCalls W7, RecsT []]) (apps := []) (stab := []) (appsE := []) (stabE := []) ⟨stays_eq _, stays_eq _, stays_eq _, stays_closeR _ _ _, stays_eq _, stays_eq _, stays_hearT _ _ _ _, stays_hearT _ _ _ _, stays_recsT _, stays_closeR _ _ _, stays_newCalls _, stays_recsT _, trivial⟩ trivial trivial rfl (by decide) (by decide)) (by kernel_rfl) (by kernel_rfl) (by kernel_rfl) (by kernel_rfl) ?steps8 ?fin8 rfl
                  case steps8 =>
                    refine ⟨?_, ?_, ?_, ?_, ?_, ?_, ?_, ?_, ?_, ?_, ?_, ?_, trivial⟩
                    · intro a' w' hB hdep hoth K hK
                      have hK := growB hB hK
                      rw [if_pos (guard_none rfl)]
                      have hbw : Below W7.heap.size W7 w' := (below_drewN (Below.refl _ _) 1).trans hB
                      have t5 := hoth 5 (notDst_at (by kernel_rfl))
                      simp only [List.getElem?_toArray, List.getElem?_cons_succ, List.getElem?_cons_zero] at t5
                      have hld := (V7.out.below hbw).load
                      clear hdep hoth
                      go_simp
                      exact hK _ _ (Below.refl _ _) rfl
                    · intro a' w' hB hdep hoth K hK
                      have hK := growB hB hK
                      rw [if_pos (guard_none rfl)]
                      have hbw : Below W7.heap.size W7 w' := (below_drewN (Below.refl _ _) 1).trans hB
                      have t6 := hoth 6 (notDst_at (by kernel_rfl))
                      simp only [List.getElem?_toArray, List.getElem?_cons_succ, List.getElem?_cons_zero] at t6
                      have hcl := blk_below N7.out hbw (blk_lt N7.out)
                      have q0 : w'.cell? ⟨w.heap.size + 1, 0, none⟩ = some (.int .i64 C.epoch) := blk_cell hcl 0
                      have q1 : w'.cell? ⟨w.heap.size + 1, 1, none⟩ = some (.int .i64 C.next) := blk_cell hcl 1
                      have q2 : w'.cell? ⟨w.heap.size + 1, 2, none⟩ = some (.slice va C.opens.length vc) := blk_cell hcl 2
                      have lq := blk_lt hcl
                      clear hcl
                      clear hdep hoth
                      go_simp
                      exact hK _ _ (Below.refl _ _) rfl
                    · intro a' w' hB hdep hoth K hK
                      have hK := growB hB hK
                      rw [if_pos (guard_none rfl)]
                      have hbw : Below W7.heap.size W7 w' := (below_drewN (Below.refl _ _) 1).trans hB
                      have t3 := hoth 3 (notDst_at (by kernel_rfl))
                      simp only [List.getElem?_toArray, List.getElem?_cons_succ, List.getElem?_cons_zero] at t3
                      clear hdep hoth
                      go_simp
                      exact hK _ _ (Below.refl _ _) rfl
                    · intro a' w' hB hdep hoth K hK
                      have hK := growB hB hK
                      rw [if_pos (guard_none rfl)]
                      have hbw : Below W7.heap.size W7 w' := (below_drewN (Below.refl _ _) 1).trans hB
                      obtain ⟨v0, p0, e0⟩ := hdep ⟨1, .data⟩ (by simp) rfl
                      have p0 := p0 75 rfl (by simp)
                      obtain rfl : v0 = .agg #[.int .i64 C.epoch, .int .i64 C.next, .slice va C.opens.length vc] := e0
                      obtain ⟨v1, p1, e1⟩ := hdep ⟨2, .data⟩ (by simp) rfl
                      have p1 := p1 76 rfl (by simp)
                      obtain rfl : v1 = .int .i64 now := e1
                      have HA' := hid (rlate_any C.epoch C.next now 0 (.slice va C.opens.length vc) C.opens w' (by have := G3.out; omega) HWF.out (R7.out.below hbw))
                      clear hdep hoth
                      unfold calls at HA'
                      go_simp
                      refine HA'.out.mono ?_
                      rintro e w'' ⟨v, rfl, ho, hb⟩
                      exact hK _ _ hb ⟨v, rfl, ho⟩
                    · intro a' w' hB hdep hoth K hK
                      have hK := growB hB hK
                      rw [if_pos (guard_none rfl)]
                      have hbw : Below W7.heap.size W7 w' := (below_drewN (Below.refl _ _) 1).trans hB
                      have t7 := hoth 7 (notDst_at (by kernel_rfl))
                      simp only [List.getElem?_toArray, List.getElem?_cons_succ, List.getElem?_cons_zero] at t7
                      have htl := blk_below M7.out hbw (blk_lt M7.out)
                      have r0 : w'.cell? ⟨w.heap.size + 1 + 1, 0, none⟩ = some (.int .i64 c) := blk_cell htl 0
                      have r1 : w'.cell? ⟨w.heap.size + 1 + 1, 1, none⟩ = some (.int .u8 k) := blk_cell htl 1
                      have r2 : w'.cell? ⟨w.heap.size + 1 + 1, 2, none⟩ = some (.int .u8 dn) := blk_cell htl 2
                      have r3 : w'.cell? ⟨w.heap.size + 1 + 1, 3, none⟩ = some (.int .i64 i) := blk_cell htl 3
                      have r4 : w'.cell? ⟨w.heap.size + 1 + 1, 4, none⟩ = some (.slice sa sn sc) := blk_cell htl 4
                      have r5 : w'.cell? ⟨w.heap.size + 1 + 1, 5, none⟩ = some (.bool m) := blk_cell htl 5
                      have lr := blk_lt htl
                      clear htl
                      clear hdep hoth
                      go_simp
                      exact hK _ _ (Below.refl _ _) rfl
                    · intro a' w' hB hdep hoth K hK
                      have hK := growB hB hK
                      rw [if_pos (guard_none rfl)]
                      have hbw : Below W7.heap.size W7 w' := (below_drewN (Below.refl _ _) 1).trans hB
                      have t3 := hoth 3 (notDst_at (by kernel_rfl))
                      simp only [List.getElem?_toArray, List.getElem?_cons_succ, List.getElem?_cons_zero] at t3
                      clear hdep hoth
                      go_simp
                      exact hK _ _ (Below.refl _ _) rfl
                    · intro a' w' hB hdep hoth K hK
                      have hK := growB hB hK
                      rw [if_pos (guard_none rfl)]
                      have hbw : Below W7.heap.size W7 w' := (below_drewN (Below.refl _ _) 1).trans hB
                      obtain ⟨v0, p0, e0⟩ := hdep ⟨0, .data⟩ (by simp) rfl
                      have p0 := p0 74 rfl (by simp)
                      obtain rfl : v0 = .agg bv := e0
                      obtain ⟨v1, p1, e1⟩ := hdep ⟨3, .data⟩ (by simp) rfl
                      have p1 := p1 77 rfl (by simp)
                      obtain ⟨cv, rfl, hcv⟩ := e1
                      obtain ⟨v2, p2, e2⟩ := hdep ⟨4, .data⟩ (by simp) rfl
                      have p2 := p2 78 rfl (by simp)
                      obtain rfl : v2 = .agg #[.int .i64 c, .int .u8 k, .int .u8 dn, .int .i64 i, .slice sa sn sc, .bool m] := e2
                      obtain ⟨v3, p3, e3⟩ := hdep ⟨5, .data⟩ (by simp) rfl
                      have p3 := p3 79 rfl (by simp)
                      obtain rfl : v3 = .int .i64 now := e3
                      have HA' := hid (hear_any B bv C.epoch C.next c k i now dn cv ((lateL ⟨C.epoch, C.next, C.opens⟩ now 0)) sa sn sc m w' (V7.out.below hbw).is hcv (by have := lateL_len2 C now; have := G3.out; omega) h8 HFI.out (by have := G4.out; omega) (HA.out.below (HB7.out.trans (hbw.mono HB7.out.size))) (HC.out.below (HB7.out.trans (hbw.mono HB7.out.size))) (HL.out.below (HB7.out.trans (hbw.mono HB7.out.size))))
                      clear hdep hoth hcv
                      unfold tellT at HA'
                      go_simp
                      refine HA'.out.mono ?_
                      rintro e w'' ⟨v, s', rfl, hr, hs, hb⟩
                      have hno := hear_no B (C := ⟨C.epoch, C.next, (lateL ⟨C.epoch, C.next, C.opens⟩ now 0)⟩) (c := c) (k := k) (dn : Int) i now (late_no HRB.out B3.out B4.out HY.out HLT.out)
                      rw [hno.1] at hr
                      rw [hno.2] at hs
                      exact hK _ _ hb ⟨v, s', rfl, hr, hs⟩
                    · intro a' w' hB hdep hoth K hK
                      have hK := growB hB hK
                      rw [if_pos (guard_none rfl)]
                      have hbw : Below W7.heap.size W7 w' := (below_drewN (Below.refl _ _) 1).trans hB
                      obtain ⟨v0, p0, e0⟩ := hdep ⟨6, .data⟩ (by simp) rfl
                      have p0 := p0 80 rfl (by simp)
                      obtain ⟨v, s', rfl, e1, e2⟩ := e0
                      clear hdep hoth
                      go_simp
                      exact hK _ _ (Below.refl _ _) ⟨v, s', rfl, e1, e2⟩
                    · intro a' w' hB hdep hoth K hK
                      have hK := growB hB hK
                      rw [if_pos (guard_none rfl)]
                      have hbw : Below W7.heap.size W7 w' := (below_drewN (Below.refl _ _) 1).trans hB
                      obtain ⟨v0, p0, e0⟩ := hdep ⟨7, .data⟩ (by simp) rfl
                      have p0 := p0 73 rfl (by simp)
                      obtain ⟨v, s', rfl, e1, e2⟩ := e0
                      have E1 := hid e1
                      clear e1 e2
                      clear hdep hoth
                      go_simp
                      exact hK _ _ (Below.refl _ _) E1.out
                    · intro a' w' hB hdep hoth K hK
                      have hK := growB hB hK
                      rw [if_pos (guard_none rfl)]
                      have hbw : Below W7.heap.size W7 w' := (below_drewN (Below.refl _ _) 1).trans hB
                      obtain ⟨v0, p0, e0⟩ := hdep ⟨7, .data⟩ (by simp) rfl
                      have p0 := p0 73 rfl (by simp)
                      obtain ⟨v, s', rfl, e1, e2⟩ := e0
                      have E2 := hid e2
                      clear e1 e2
                      clear hdep hoth
                      go_simp
                      exact hK _ _ (Below.refl _ _) ⟨s', rfl, E2.out⟩
                    · intro a' w' hB hdep hoth K hK
                      have hK := growB hB hK
                      rw [if_pos (guard_none rfl)]
                      have hbw : Below W7.heap.size W7 w' := (below_drewN (Below.refl _ _) 1).trans hB
                      clear hdep hoth
                      go_simp
                      exact hK _ _ ((Below.refl _ _).alloc (Nat.le_refl _) _) ⟨w'.heap.size, rfl, hbw.size, heap_new w' _⟩
                    · intro a' w' hB hdep hoth K hK
                      have hK := growB hB hK
                      rw [if_pos (guard_none rfl)]
                      have hbw : Below W7.heap.size W7 w' := (below_drewN (Below.refl _ _) 1).trans hB
                      obtain ⟨v0, p0, e0⟩ := hdep ⟨8, .data⟩ (by simp) rfl
                      have p0 := p0 81 rfl (by simp)
                      have E1 := hid (show RecsL w' [] v0 from e0)
                      clear e0
                      clear hdep hoth
                      go_simp
                      exact hK _ _ (Below.refl _ _) E1.out
                  case fin8 =>
                    intro vs w' hB hs
                    have hbw : Below W7.heap.size W7 w' := (below_drewN (Below.refl _ _) 1).trans hB
                    have er : RecsL w' [] (vs 11) := hs 11 (by decide) (by decide)
                    obtain ⟨sv8, ec, hcr⟩ := hs 9 (by decide) (by decide)
                    obtain ⟨T17, ea, hT, hz⟩ := hs 10 (by decide) (by decide)
                    clear hs
                    refine cutQ_held (fun _ => True) (fun f => ?_)
                    simp only [actOf, dstAt, if_true, List.getElem?_toArray, List.getElem?_cons_succ, List.getElem?_cons_zero, Option.bind_some, Act.put, List.setIfInBounds_toArray, List.set_cons_zero, List.set_cons_succ, List.length_cons, List.length_nil, Nat.reduceAdd]
                    rw [ec, ea]
                    obtain ⟨ra8, rc8, hrv⟩ : ∃ a c, vs 11 = .slice a 0 c := RecsL.len er
                    rw [hrv]
                    obtain ⟨sa8, sc8, rfl⟩ := len12 hcr
                    have z0 := blk_cell hz 0
                    have z1 := blk_cell hz 1
                    have z2 := blk_cell hz 2
                    have zf := blk_free hz
                    have zl := blk_lt hz
                    simp only [List.getElem?_toArray, List.getElem?_cons_zero, List.getElem?_cons_succ] at z0 z1 z2
                    have HZ := hid hz
                    have HCR := hid hcr
                    have HT' := hid hT
                    have HBW := hid hbw
                    clear hz hcr hT er hrv hB hbw
                    unfold calls
                    refine wpAnyH_ready (rs := [12]) (by kernel_rfl) (by simp) ?_
                    refine AllReadyH.cons rfl (fun K hK => ?_) AllReadyH.nil
                    go_simp
                    refine hK.out _ _ trivial (fun _ => ?_)
                    clear hK K
                    refine wpAnyH_done (by kernel_rfl) ?_ _
                    refine wp_namedQ' (fun W8 hX => ?_)
                    have D8 := hid (set3 HZ.out (.int .i64 C.epoch) (.int .i64 C.next) (.slice sa8 (lateL ⟨C.epoch, C.next, C.opens⟩ now 0).length sc8))
                    have Q8 := hid (set_row12 (set_row12 (set_row12 HCR.out HZ.out (by decide) 0 (.int .i64 C.epoch)) (blk_set HZ.out 0 _) (by simp) 1 (.int .i64 C.next)) (blk_set (blk_set HZ.out 0 _) 1 _) (by simp) 2 (.slice sa8 (lateL ⟨C.epoch, C.next, C.opens⟩ now 0).length sc8))
                    have hbq : Below W7.heap.size W7 W8 := by
                      rw [hX]
                      exact ((HBW.out.setCell (p := ⟨T17, 0, none⟩) HT'.out _).setCell (p := ⟨T17, 1, none⟩) HT'.out _).setCell (p := ⟨T17, 2, none⟩) HT'.out _
                    rw [← hX] at D8 Q8
                    clear hX z0 z1 z2 zf zl HZ HCR HT' HBW ec ea
                    have HB8 := hid (HB7.out.trans (hbq.mono HB7.out.size))
                    have V8 := hid (V7.out.below hbq)
                    have N8 := hid (blk_below N7.out hbq (blk_lt N7.out))
                    have M8 := hid (blk_below M7.out hbq (blk_lt M7.out))
                    have R8 := hid (R7.out.below hbq)
                    have O8 := hid (blk_below O7.out hbq (blk_lt O7.out))
                    have Y8 := hid (blk_below Y7.out hbq (blk_lt Y7.out))
                    have D7 := hid (blk_below D7.out hbq (blk_lt D7.out))
                    have Q7 := hid (Q7.out.below hbq)
                    clear hbq
                    go_upto_region 10 with (fail)
                    refine wp_region_held_drew (S := fun _ => True) (by kernel_rfl) trivial (fun _ => ?_)
                    refine wpAnyH_grownG (w0 := W8.drew) (spL [fun z _ => z = .slice ra7 0 rc7, fun z _ => z = .int .i64 0, fun z _ => z = .bool false, fun z _ => z = .bool false, fun z _ => z = .agg #[.int .i64 C.epoch, .int .i64 C.next, .slice sa7 (keptL ⟨C.epoch, C.next, C.opens⟩ (fun x => x.id != c)).length sc7], fun z _ => z = .agg #[.int .i64 C.epoch, .int .i64 C.next, .slice va C.opens.length vc], fun z _ => z = .pointer (some ⟨w.heap.size + 1 + 1, 0, none⟩), fun z _ => z = .int .i64 c, CloseR C.epoch C.next (keptL ⟨C.epoch, C.next, C.opens⟩ (fun x => x.id != c)), fun z _ => z = .bool true, fun z _ => z = .bool false, fun z _ => z = .bool false, fun z _ => z = .bool false, fun z _ => z = .bool true, fun z _ => z = .bool true, fun z _ => z = .slice ra8 0 rc8, fun z _ => z = .int .i64 0, fun z _ => z = .bool false, fun z _ => z = .bool false, fun z _ => z = .agg #[.int .i64 C.epoch, .int .i64 C.next, .slice sa8 (lateL ⟨C.epoch, C.next, C.opens⟩ now 0).length sc8], fun z _ => z = .agg #[.int .i64 C.epoch, .int .i64 C.next, .slice va C.opens.length vc], fun z _ => z = .int .i64 now, CloseR C.epoch C.next (lateL ⟨C.epoch, C.next, C.opens⟩ now 0), fun z _ => z = .bool true, fun z _ => z = .bool false, fun z _ => z = .bool false, fun z _ => z = .bool false, fun z _ => z = .bool false]) (spL_stays ⟨stays_eq _, stays_eq _, stays_eq _, stays_eq _, stays_eq _, stays_eq _, stays_eq _, stays_eq _, stays_closeR _ _ _, stays_eq _, stays_eq _, stays_eq _, stays_eq _, stays_eq _, stays_eq _, stays_eq _, stays_eq _, stays_eq _, stays_eq _, stays_eq _, stays_eq _, stays_eq _, stays_closeR _ _ _, stays_eq _, stays_eq _, stays_eq _, stays_eq _, stays_eq _, trivial⟩) (by kernel_rfl) (by kernel_rfl) ?steps10 ?fin10 rfl
                    case steps10 =>
                      refine ⟨?_, ?_, ?_, ?_, ?_, ?_, ?_, ?_, ?_, ?_, ?_, ?_, ?_, ?_, ?_, ?_, ?_, ?_, ?_, ?_, ?_, ?_, ?_, ?_, ?_, ?_, ?_, ?_, trivial⟩
                      · intro a' w' hB hdep hoth K hK
                        rw [if_pos (guard_none rfl)]
                        have hbw : Below W8.heap.size W8 w' := (below_drewN (Below.refl _ _) 1).trans hB
                        have t14 := hoth 14 (notDst_at (by kernel_rfl))
                        simp only [List.getElem?_toArray, List.getElem?_cons_succ, List.getElem?_cons_zero] at t14
                        clear hdep hoth
                        go_simp
                        exact hK _ _ (Below.refl _ _) rfl
                      · intro a' w' hB hdep hoth K hK
                        rw [if_pos (guard_none rfl)]
                        have hbw : Below W8.heap.size W8 w' := (below_drewN (Below.refl _ _) 1).trans hB
                        obtain ⟨vx0, gx0, ex0⟩ := hdep ⟨0, .data⟩ (by simp) rfl
                        have gx0 := gx0 91 rfl (by simp)
                        obtain rfl : vx0 = .slice ra7 0 rc7 := ex0
                        clear hdep hoth
                        go_simp
                        exact hK _ _ (Below.refl _ _) rfl
                      · intro a' w' hB hdep hoth K hK
                        rw [if_pos (guard_none rfl)]
                        have hbw : Below W8.heap.size W8 w' := (below_drewN (Below.refl _ _) 1).trans hB
                        obtain ⟨vx0, gx0, ex0⟩ := hdep ⟨1, .data⟩ (by simp) rfl
                        have gx0 := gx0 92 rfl (by simp)
                        obtain rfl : vx0 = .int .i64 0 := ex0
                        clear hdep hoth
                        go_simp
                        exact hK _ _ (Below.refl _ _) rfl
                      · intro a' w' hB hdep hoth K hK
                        rw [if_pos (guard_none rfl)]
                        have hbw : Below W8.heap.size W8 w' := (below_drewN (Below.refl _ _) 1).trans hB
                        obtain ⟨vx0, gx0, ex0⟩ := hdep ⟨2, .data⟩ (by simp) rfl
                        have gx0 := gx0 93 rfl (by simp)
                        obtain rfl : vx0 = .bool false := ex0
                        clear hdep hoth
                        go_simp
                        exact hK _ _ (Below.refl _ _) rfl
                      · intro a' w' hB hdep hoth K hK
                        obtain ⟨vg, gg, eg⟩ := hdep ⟨3, .guard⟩ (by simp) rfl
                        have gg := gg 94 rfl (by simp)
                        obtain rfl : vg = .bool false := eg
                        rw [guard_is rfl rfl gg]
                        rw [if_pos (by decide)]
                        have hbw : Below W8.heap.size W8 w' := (below_drewN (Below.refl _ _) 1).trans hB
                        have t15 := hoth 15 (notDst_at (by kernel_rfl))
                        simp only [List.getElem?_toArray, List.getElem?_cons_succ, List.getElem?_cons_zero] at t15
                        have hcl := blk_below D7.out hbw (blk_lt D7.out)
                        have q0 : w'.cell? ⟨T15, 0, none⟩ = some (.int .i64 C.epoch) := blk_cell hcl 0
                        have q1 : w'.cell? ⟨T15, 1, none⟩ = some (.int .i64 C.next) := blk_cell hcl 1
                        have q2 : w'.cell? ⟨T15, 2, none⟩ = some (.slice sa7 (keptL ⟨C.epoch, C.next, C.opens⟩ (fun x => x.id != c)).length sc7) := blk_cell hcl 2
                        have lq := blk_lt hcl
                        clear hcl
                        clear hdep hoth
                        go_simp
                        exact hK _ _ (Below.refl _ _) rfl
                      · intro a' w' hB hdep hoth K hK
                        obtain ⟨vg, gg, eg⟩ := hdep ⟨3, .guard⟩ (by simp) rfl
                        have gg := gg 94 rfl (by simp)
                        obtain rfl : vg = .bool false := eg
                        rw [guard_is rfl rfl gg]
                        rw [if_pos (by decide)]
                        have hbw : Below W8.heap.size W8 w' := (below_drewN (Below.refl _ _) 1).trans hB
                        have t6 := hoth 6 (notDst_at (by kernel_rfl))
                        simp only [List.getElem?_toArray, List.getElem?_cons_succ, List.getElem?_cons_zero] at t6
                        have hcl := blk_below N8.out hbw (blk_lt N8.out)
                        have q0 : w'.cell? ⟨w.heap.size + 1, 0, none⟩ = some (.int .i64 C.epoch) := blk_cell hcl 0
                        have q1 : w'.cell? ⟨w.heap.size + 1, 1, none⟩ = some (.int .i64 C.next) := blk_cell hcl 1
                        have q2 : w'.cell? ⟨w.heap.size + 1, 2, none⟩ = some (.slice va C.opens.length vc) := blk_cell hcl 2
                        have lq := blk_lt hcl
                        clear hcl
                        clear hdep hoth
                        go_simp
                        exact hK _ _ (Below.refl _ _) rfl
                      · intro a' w' hB hdep hoth K hK
                        obtain ⟨vg, gg, eg⟩ := hdep ⟨3, .guard⟩ (by simp) rfl
                        have gg := gg 94 rfl (by simp)
                        obtain rfl : vg = .bool false := eg
                        rw [guard_is rfl rfl gg]
                        rw [if_pos (by decide)]
                        have hbw : Below W8.heap.size W8 w' := (below_drewN (Below.refl _ _) 1).trans hB
                        have t7 := hoth 7 (notDst_at (by kernel_rfl))
                        simp only [List.getElem?_toArray, List.getElem?_cons_succ, List.getElem?_cons_zero] at t7
                        clear hdep hoth
                        go_simp
                        exact hK _ _ (Below.refl _ _) rfl
                      · intro a' w' hB hdep hoth K hK
                        obtain ⟨vg, gg, eg⟩ := hdep ⟨3, .guard⟩ (by simp) rfl
                        have gg := gg 94 rfl (by simp)
                        obtain rfl : vg = .bool false := eg
                        rw [guard_is rfl rfl gg]
                        rw [if_pos (by decide)]
                        have hbw : Below W8.heap.size W8 w' := (below_drewN (Below.refl _ _) 1).trans hB
                        obtain ⟨vx0, gx0, ex0⟩ := hdep ⟨6, .data⟩ (by simp) rfl
                        have gx0 := gx0 97 rfl (by simp)
                        obtain rfl : vx0 = .pointer (some ⟨w.heap.size + 1 + 1, 0, none⟩) := ex0
                        have htl := blk_below M8.out hbw (blk_lt M8.out)
                        have r0 : w'.cell? ⟨w.heap.size + 1 + 1, 0, none⟩ = some (.int .i64 c) := blk_cell htl 0
                        have lr := blk_lt htl
                        clear htl
                        clear hdep hoth
                        go_simp
                        exact hK _ _ (Below.refl _ _) rfl
                      · intro a' w' hB hdep hoth K hK
                        obtain ⟨vg, gg, eg⟩ := hdep ⟨3, .guard⟩ (by simp) rfl
                        have gg := gg 94 rfl (by simp)
                        obtain rfl : vg = .bool false := eg
                        rw [guard_is rfl rfl gg]
                        rw [if_pos (by decide)]
                        have hbw : Below W8.heap.size W8 w' := (below_drewN (Below.refl _ _) 1).trans hB
                        obtain ⟨v0, p0, e0⟩ := hdep ⟨5, .data⟩ (by simp) rfl
                        have p0 := p0 96 rfl (by simp)
                        obtain rfl : v0 = .agg #[.int .i64 C.epoch, .int .i64 C.next, .slice va C.opens.length vc] := e0
                        obtain ⟨v1, p1, e1⟩ := hdep ⟨7, .data⟩ (by simp) rfl
                        have p1 := p1 98 rfl (by simp)
                        obtain rfl : v1 = .int .i64 c := e1
                        have HA' := hid (rclose_any C.epoch C.next c (.slice va C.opens.length vc) C.opens w' (by have := G3.out; omega) HWF.out (R8.out.below hbw))
                        clear hdep hoth
                        unfold calls at HA'
                        go_simp
                        refine HA'.out.mono ?_
                        rintro e w'' ⟨v, rfl, ho, hb⟩
                        exact hK _ _ hb ⟨v, rfl, ho⟩
                      · intro a' w' hB hdep hoth K hK
                        obtain ⟨vg, gg, eg⟩ := hdep ⟨3, .guard⟩ (by simp) rfl
                        have gg := gg 94 rfl (by simp)
                        obtain rfl : vg = .bool false := eg
                        rw [guard_is rfl rfl gg]
                        rw [if_pos (by decide)]
                        have hbw : Below W8.heap.size W8 w' := (below_drewN (Below.refl _ _) 1).trans hB
                        obtain ⟨v0, p0, e0⟩ := hdep ⟨4, .data⟩ (by simp) rfl
                        have p0 := p0 95 rfl (by simp)
                        obtain rfl : v0 = .agg #[.int .i64 C.epoch, .int .i64 C.next, .slice sa7 (keptL ⟨C.epoch, C.next, C.opens⟩ (fun x => x.id != c)).length sc7] := e0
                        obtain ⟨v1, p1, e1⟩ := hdep ⟨8, .data⟩ (by simp) rfl
                        have p1 := p1 99 rfl (by simp)
                        obtain ⟨cv, rfl, hcv⟩ := e1
                        have HA' := rsame_any C.epoch C.next C.epoch C.next (.slice sa7 (keptL ⟨C.epoch, C.next, C.opens⟩ (fun x => x.id != c)).length sc7) cv (keptL ⟨C.epoch, C.next, C.opens⟩ (fun x => x.id != c)) (keptL ⟨C.epoch, C.next, C.opens⟩ (fun x => x.id != c)) w' (Q7.out.below hbw) hcv (by have := keptL_len2 C c; have := G3.out; omega) (by have := keptL_len2 C c; have := G3.out; omega)
                        rw [sames rfl] at HA'
                        have HA' := hid HA'
                        clear hdep hoth hcv
                        unfold calls at HA'
                        go_simp
                        refine HA'.out.mono ?_
                        rintro e w'' ⟨rfl, hb⟩
                        exact hK _ _ hb rfl
                      · intro a' w' hB hdep hoth K hK
                        obtain ⟨vg, gg, eg⟩ := hdep ⟨3, .guard⟩ (by simp) rfl
                        have gg := gg 94 rfl (by simp)
                        obtain rfl : vg = .bool false := eg
                        rw [guard_is rfl rfl gg]
                        rw [if_pos (by decide)]
                        have hbw : Below W8.heap.size W8 w' := (below_drewN (Below.refl _ _) 1).trans hB
                        obtain ⟨vx0, gx0, ex0⟩ := hdep ⟨9, .data⟩ (by simp) rfl
                        have gx0 := gx0 100 rfl (by simp)
                        obtain rfl : vx0 = .bool true := ex0
                        clear hdep hoth
                        go_simp
                        exact hK _ _ (Below.refl _ _) rfl
                      · intro a' w' hB hdep hoth K hK
                        rw [if_pos (guard_none rfl)]
                        have hbw : Below W8.heap.size W8 w' := (below_drewN (Below.refl _ _) 1).trans hB
                        obtain ⟨vx0, gx0, ex0⟩ := hdep ⟨3, .data⟩ (by simp) rfl
                        have gx0 := gx0 94 rfl (by simp)
                        obtain rfl : vx0 = .bool false := ex0
                        obtain ⟨vx1, gx1, ex1⟩ := hdep ⟨10, .data⟩ (by simp) rfl
                        have gx1 := gx1 101 rfl (by simp)
                        obtain rfl : vx1 = .bool false := ex1
                        clear hdep hoth
                        go_simp
                        exact hK _ _ (Below.refl _ _) rfl
                      · intro a' w' hB hdep hoth K hK
                        rw [if_pos (guard_none rfl)]
                        have hbw : Below W8.heap.size W8 w' := (below_drewN (Below.refl _ _) 1).trans hB
                        obtain ⟨vx0, gx0, ex0⟩ := hdep ⟨11, .data⟩ (by simp) rfl
                        have gx0 := gx0 102 rfl (by simp)
                        obtain rfl : vx0 = .bool false := ex0
                        clear hdep hoth
                        go_simp
                        exact hK _ _ (Below.refl _ _) rfl
                      · intro a' w' hB hdep hoth K hK
                        obtain ⟨vg, gg, eg⟩ := hdep ⟨12, .guard⟩ (by simp) rfl
                        have gg := gg 103 rfl (by simp)
                        obtain rfl : vg = .bool false := eg
                        rw [guard_is rfl rfl gg]
                        rw [if_pos (by decide)]
                        have hbw : Below W8.heap.size W8 w' := (below_drewN (Below.refl _ _) 1).trans hB
                        have t18 := hoth 18 (notDst_at (by kernel_rfl))
                        simp only [List.getElem?_toArray, List.getElem?_cons_succ, List.getElem?_cons_zero] at t18
                        clear hdep hoth
                        go_simp
                        exact hK _ _ (Below.refl _ _) rfl
                      · intro a' w' hB hdep hoth K hK
                        obtain ⟨vg, gg, eg⟩ := hdep ⟨12, .guard⟩ (by simp) rfl
                        have gg := gg 103 rfl (by simp)
                        obtain rfl : vg = .bool false := eg
                        rw [guard_is rfl rfl gg]
                        rw [if_pos (by decide)]
                        have hbw : Below W8.heap.size W8 w' := (below_drewN (Below.refl _ _) 1).trans hB
                        obtain ⟨vx0, gx0, ex0⟩ := hdep ⟨13, .data⟩ (by simp) rfl
                        have gx0 := gx0 104 rfl (by simp)
                        obtain rfl : vx0 = .bool true := ex0
                        clear hdep hoth
                        go_simp
                        exact hK _ _ (Below.refl _ _) rfl
                      · intro a' w' hB hdep hoth K hK
                        obtain ⟨vg, gg, eg⟩ := hdep ⟨14, .guard⟩ (by simp) rfl
                        have gg := gg 105 rfl (by simp)
                        obtain rfl : vg = .bool true := eg
                        rw [guard_is rfl rfl gg]
                        rw [if_pos (by decide)]
                        have hbw : Below W8.heap.size W8 w' := (below_drewN (Below.refl _ _) 1).trans hB
                        have t16 := hoth 16 (notDst_at (by kernel_rfl))
                        simp only [List.getElem?_toArray, List.getElem?_cons_succ, List.getElem?_cons_zero] at t16
                        clear hdep hoth
                        go_simp
                        exact hK _ _ (Below.refl _ _) rfl
                      · intro a' w' hB hdep hoth K hK
                        obtain ⟨vg, gg, eg⟩ := hdep ⟨14, .guard⟩ (by simp) rfl
                        have gg := gg 105 rfl (by simp)
                        obtain rfl : vg = .bool true := eg
                        rw [guard_is rfl rfl gg]
                        rw [if_pos (by decide)]
                        have hbw : Below W8.heap.size W8 w' := (below_drewN (Below.refl _ _) 1).trans hB
                        obtain ⟨vx0, gx0, ex0⟩ := hdep ⟨15, .data⟩ (by simp) rfl
                        have gx0 := gx0 106 rfl (by simp)
                        obtain rfl : vx0 = .slice ra8 0 rc8 := ex0
                        clear hdep hoth
                        go_simp
                        exact hK _ _ (Below.refl _ _) rfl
                      · intro a' w' hB hdep hoth K hK
                        obtain ⟨vg, gg, eg⟩ := hdep ⟨14, .guard⟩ (by simp) rfl
                        have gg := gg 105 rfl (by simp)
                        obtain rfl : vg = .bool true := eg
                        rw [guard_is rfl rfl gg]
                        rw [if_pos (by decide)]
                        have hbw : Below W8.heap.size W8 w' := (below_drewN (Below.refl _ _) 1).trans hB
                        obtain ⟨vx0, gx0, ex0⟩ := hdep ⟨16, .data⟩ (by simp) rfl
                        have gx0 := gx0 107 rfl (by simp)
                        obtain rfl : vx0 = .int .i64 0 := ex0
                        clear hdep hoth
                        go_simp
                        exact hK _ _ (Below.refl _ _) rfl
                      · intro a' w' hB hdep hoth K hK
                        obtain ⟨vg, gg, eg⟩ := hdep ⟨14, .guard⟩ (by simp) rfl
                        have gg := gg 105 rfl (by simp)
                        obtain rfl : vg = .bool true := eg
                        rw [guard_is rfl rfl gg]
                        rw [if_pos (by decide)]
                        have hbw : Below W8.heap.size W8 w' := (below_drewN (Below.refl _ _) 1).trans hB
                        obtain ⟨vx0, gx0, ex0⟩ := hdep ⟨17, .data⟩ (by simp) rfl
                        have gx0 := gx0 108 rfl (by simp)
                        obtain rfl : vx0 = .bool false := ex0
                        clear hdep hoth
                        go_simp
                        exact hK _ _ (Below.refl _ _) rfl
                      · intro a' w' hB hdep hoth K hK
                        obtain ⟨vg, gg, eg⟩ := hdep ⟨18, .guard⟩ (by simp) rfl
                        have gg := gg 109 rfl (by simp)
                        obtain rfl : vg = .bool false := eg
                        rw [guard_is rfl rfl gg]
                        rw [if_pos (by decide)]
                        have hbw : Below W8.heap.size W8 w' := (below_drewN (Below.refl _ _) 1).trans hB
                        have t17 := hoth 17 (notDst_at (by kernel_rfl))
                        simp only [List.getElem?_toArray, List.getElem?_cons_succ, List.getElem?_cons_zero] at t17
                        have hcl := blk_below D8.out hbw (blk_lt D8.out)
                        have q0 : w'.cell? ⟨T17, 0, none⟩ = some (.int .i64 C.epoch) := blk_cell hcl 0
                        have q1 : w'.cell? ⟨T17, 1, none⟩ = some (.int .i64 C.next) := blk_cell hcl 1
                        have q2 : w'.cell? ⟨T17, 2, none⟩ = some (.slice sa8 (lateL ⟨C.epoch, C.next, C.opens⟩ now 0).length sc8) := blk_cell hcl 2
                        have lq := blk_lt hcl
                        clear hcl
                        clear hdep hoth
                        go_simp
                        exact hK _ _ (Below.refl _ _) rfl
                      · intro a' w' hB hdep hoth K hK
                        obtain ⟨vg, gg, eg⟩ := hdep ⟨18, .guard⟩ (by simp) rfl
                        have gg := gg 109 rfl (by simp)
                        obtain rfl : vg = .bool false := eg
                        rw [guard_is rfl rfl gg]
                        rw [if_pos (by decide)]
                        have hbw : Below W8.heap.size W8 w' := (below_drewN (Below.refl _ _) 1).trans hB
                        have t6 := hoth 6 (notDst_at (by kernel_rfl))
                        simp only [List.getElem?_toArray, List.getElem?_cons_succ, List.getElem?_cons_zero] at t6
                        have hcl := blk_below N8.out hbw (blk_lt N8.out)
                        have q0 : w'.cell? ⟨w.heap.size + 1, 0, none⟩ = some (.int .i64 C.epoch) := blk_cell hcl 0
                        have q1 : w'.cell? ⟨w.heap.size + 1, 1, none⟩ = some (.int .i64 C.next) := blk_cell hcl 1
                        have q2 : w'.cell? ⟨w.heap.size + 1, 2, none⟩ = some (.slice va C.opens.length vc) := blk_cell hcl 2
                        have lq := blk_lt hcl
                        clear hcl
                        clear hdep hoth
                        go_simp
                        exact hK _ _ (Below.refl _ _) rfl
                      · intro a' w' hB hdep hoth K hK
                        obtain ⟨vg, gg, eg⟩ := hdep ⟨18, .guard⟩ (by simp) rfl
                        have gg := gg 109 rfl (by simp)
                        obtain rfl : vg = .bool false := eg
                        rw [guard_is rfl rfl gg]
                        rw [if_pos (by decide)]
                        have hbw : Below W8.heap.size W8 w' := (below_drewN (Below.refl _ _) 1).trans hB
                        have t3 := hoth 3 (notDst_at (by kernel_rfl))
                        simp only [List.getElem?_toArray, List.getElem?_cons_succ, List.getElem?_cons_zero] at t3
                        clear hdep hoth
                        go_simp
                        exact hK _ _ (Below.refl _ _) rfl
                      · intro a' w' hB hdep hoth K hK
                        obtain ⟨vg, gg, eg⟩ := hdep ⟨18, .guard⟩ (by simp) rfl
                        have gg := gg 109 rfl (by simp)
                        obtain rfl : vg = .bool false := eg
                        rw [guard_is rfl rfl gg]
                        rw [if_pos (by decide)]
                        have hbw : Below W8.heap.size W8 w' := (below_drewN (Below.refl _ _) 1).trans hB
                        obtain ⟨v0, p0, e0⟩ := hdep ⟨20, .data⟩ (by simp) rfl
                        have p0 := p0 111 rfl (by simp)
                        obtain rfl : v0 = .agg #[.int .i64 C.epoch, .int .i64 C.next, .slice va C.opens.length vc] := e0
                        obtain ⟨v1, p1, e1⟩ := hdep ⟨21, .data⟩ (by simp) rfl
                        have p1 := p1 112 rfl (by simp)
                        obtain rfl : v1 = .int .i64 now := e1
                        have HA' := hid (rlate_any C.epoch C.next now 0 (.slice va C.opens.length vc) C.opens w' (by have := G3.out; omega) HWF.out (R8.out.below hbw))
                        clear hdep hoth
                        unfold calls at HA'
                        go_simp
                        refine HA'.out.mono ?_
                        rintro e w'' ⟨v, rfl, ho, hb⟩
                        exact hK _ _ hb ⟨v, rfl, ho⟩
                      · intro a' w' hB hdep hoth K hK
                        obtain ⟨vg, gg, eg⟩ := hdep ⟨18, .guard⟩ (by simp) rfl
                        have gg := gg 109 rfl (by simp)
                        obtain rfl : vg = .bool false := eg
                        rw [guard_is rfl rfl gg]
                        rw [if_pos (by decide)]
                        have hbw : Below W8.heap.size W8 w' := (below_drewN (Below.refl _ _) 1).trans hB
                        obtain ⟨v0, p0, e0⟩ := hdep ⟨19, .data⟩ (by simp) rfl
                        have p0 := p0 110 rfl (by simp)
                        obtain rfl : v0 = .agg #[.int .i64 C.epoch, .int .i64 C.next, .slice sa8 (lateL ⟨C.epoch, C.next, C.opens⟩ now 0).length sc8] := e0
                        obtain ⟨v1, p1, e1⟩ := hdep ⟨22, .data⟩ (by simp) rfl
                        have p1 := p1 113 rfl (by simp)
                        obtain ⟨cv, rfl, hcv⟩ := e1
                        have HA' := rsame_any C.epoch C.next C.epoch C.next (.slice sa8 (lateL ⟨C.epoch, C.next, C.opens⟩ now 0).length sc8) cv (lateL ⟨C.epoch, C.next, C.opens⟩ now 0) (lateL ⟨C.epoch, C.next, C.opens⟩ now 0) w' (Q8.out.below hbw) hcv (by have := lateL_len2 C now; have := G3.out; omega) (by have := lateL_len2 C now; have := G3.out; omega)
                        rw [sames rfl] at HA'
                        have HA' := hid HA'
                        clear hdep hoth hcv
                        unfold calls at HA'
                        go_simp
                        refine HA'.out.mono ?_
                        rintro e w'' ⟨rfl, hb⟩
                        exact hK _ _ hb rfl
                      · intro a' w' hB hdep hoth K hK
                        obtain ⟨vg, gg, eg⟩ := hdep ⟨18, .guard⟩ (by simp) rfl
                        have gg := gg 109 rfl (by simp)
                        obtain rfl : vg = .bool false := eg
                        rw [guard_is rfl rfl gg]
                        rw [if_pos (by decide)]
                        have hbw : Below W8.heap.size W8 w' := (below_drewN (Below.refl _ _) 1).trans hB
                        obtain ⟨vx0, gx0, ex0⟩ := hdep ⟨23, .data⟩ (by simp) rfl
                        have gx0 := gx0 114 rfl (by simp)
                        obtain rfl : vx0 = .bool true := ex0
                        clear hdep hoth
                        go_simp
                        exact hK _ _ (Below.refl _ _) rfl
                      · intro a' w' hB hdep hoth K hK
                        obtain ⟨vg, gg, eg⟩ := hdep ⟨14, .guard⟩ (by simp) rfl
                        have gg := gg 105 rfl (by simp)
                        obtain rfl : vg = .bool true := eg
                        rw [guard_is rfl rfl gg]
                        rw [if_pos (by decide)]
                        have hbw : Below W8.heap.size W8 w' := (below_drewN (Below.refl _ _) 1).trans hB
                        obtain ⟨vx0, gx0, ex0⟩ := hdep ⟨18, .data⟩ (by simp) rfl
                        have gx0 := gx0 109 rfl (by simp)
                        obtain rfl : vx0 = .bool false := ex0
                        obtain ⟨vx1, gx1, ex1⟩ := hdep ⟨24, .data⟩ (by simp) rfl
                        have gx1 := gx1 115 rfl (by simp)
                        obtain rfl : vx1 = .bool false := ex1
                        clear hdep hoth
                        go_simp
                        exact hK _ _ (Below.refl _ _) rfl
                      · intro a' w' hB hdep hoth K hK
                        obtain ⟨vg, gg, eg⟩ := hdep ⟨12, .guard⟩ (by simp) rfl
                        have gg := gg 103 rfl (by simp)
                        obtain rfl : vg = .bool false := eg
                        rw [guard_is rfl rfl gg]
                        rw [if_pos (by decide)]
                        have hbw : Below W8.heap.size W8 w' := (below_drewN (Below.refl _ _) 1).trans hB
                        obtain ⟨vx0, gx0, ex0⟩ := hdep ⟨14, .data⟩ (by simp) rfl
                        have gx0 := gx0 105 rfl (by simp)
                        obtain rfl : vx0 = .bool true := ex0
                        obtain ⟨vx1, gx1, ex1⟩ := hdep ⟨25, .data⟩ (by simp) rfl
                        have gx1 := gx1 116 rfl (by simp)
                        obtain rfl : vx1 = .bool false := ex1
                        clear hdep hoth
                        go_simp
                        exact hK _ _ (Below.refl _ _) rfl
                      · intro a' w' hB hdep hoth K hK
                        rw [if_pos (guard_none rfl)]
                        have hbw : Below W8.heap.size W8 w' := (below_drewN (Below.refl _ _) 1).trans hB
                        obtain ⟨vx0, gx0, ex0⟩ := hdep ⟨12, .data⟩ (by simp) rfl
                        have gx0 := gx0 103 rfl (by simp)
                        obtain rfl : vx0 = .bool false := ex0
                        obtain ⟨vx1, gx1, ex1⟩ := hdep ⟨26, .data⟩ (by simp) rfl
                        have gx1 := gx1 117 rfl (by simp)
                        obtain rfl : vx1 = .bool false := ex1
                        clear hdep hoth
                        go_simp
                        exact hK _ _ (Below.refl _ _) rfl
                    case fin10 =>
                      intro vs W10 hB hs
                      have hbw : Below W8.heap.size W8 W10 := (below_drewN (Below.refl _ _) 1).trans hB
                      have ev : vs 27 = .bool false := hs 27 (by decide)
                      clear hs
                      simp only [actOf, dstAt, if_true, List.getElem?_toArray, List.getElem?_cons_succ, List.getElem?_cons_zero, Option.bind_some, Act.put, List.setIfInBounds_toArray, List.set_cons_zero, List.set_cons_succ, List.length_cons, List.length_nil, Nat.reduceAdd]
                      rw [ev]
                      clear ev hB
                      have HB10 := hid (HB8.out.trans (hbw.mono HB8.out.size))
                      have V10 := hid (V8.out.below hbw)
                      have N10 := hid (blk_below N8.out hbw (blk_lt N8.out))
                      have M10 := hid (blk_below M8.out hbw (blk_lt M8.out))
                      have R10 := hid (R8.out.below hbw)
                      clear hbw
                      go_wp2_with fail
                      refine (wakes_any W10 (HA.out.below HB10.out) (HC.out.below HB10.out) (HL.out.below HB10.out)).mono ?_
                      rintro e Ww ⟨rfl, hb⟩
                      have HBw := hid (HB10.out.trans (hb.mono HB10.out.size))
                      clear hb
                      go_wp2
                      go_ret
                      exact ⟨rfl, HBw.out⟩
              | true =>
                by_cases hlt : y.sent ≤ now
                · have HLT0 := hid hlt
                  have HLT := hid (show true = false ∨ y.sent ≤ now from .inr hlt)
                  clear hlt
                  obtain ⟨ow, oh⟩ := old_no HRB.out B1.out B2.out HY.out
                  clear oh
                  obtain ⟨W6, hW6⟩ : ∃ W, W = W5.setCell ⟨T11, 0, none⟩ (.int .i64 (y.id - bf * 1048576)) := ⟨_, rfl⟩
                  have HW6 := hid hW6
                  rw [HW5.out] at hW6
                  have hb6 : Below W3.heap.size W3 W6 := by rw [HW6.out]; exact HBQ5.out.setCell (p := ⟨T11, 0, none⟩) HT3.out _
                  have HB6 := hid (HB3.out.trans (hb6.mono HB3.out.size))
                  have V6 := hid (V3.out.below hb6)
                  have N6 := hid (blk_below N3.out hb6 (blk_lt N3.out))
                  have M6 := hid (blk_below M3.out hb6 (blk_lt M3.out))
                  have R6 := hid (R3.out.below hb6)
                  have O6 := hid (show W6.heap[T11]? = some (.cells #[.int .i64 (y.id - bf * 1048576), .int .u8 k, .int .u8 dn, .int .i64 i, .slice sa sn sc, .bool m] 36) by rw [HW6.out]; simpa using blk_set O5.out 0 (.int .i64 (y.id - bf * 1048576)))
                  have Y6 := hid (show W6.heap[T12]? = some (.cells #[.int .i64 y.id, .int .u8 y.kind, .int .i64 y.key, .int .i64 y.sent] 40) by rw [HW6.out]; exact blk_other Y5.out (p := ⟨T11, 0, none⟩) (by have := HT12.out; simp; omega) _)
                  have HW6' := hid hW6
                  go_upto_region 7 with (fail)
                  rw [ow, ← HW6'.out]
                  clear HW5 HW6 HW6' hW6 ow hb6 y0 yl u0 ul o0
                  refine wp_region_cut 13 1 (fun _ => True) (by kernel_rfl) (by kernel_rfl) (by kernel_rfl) ?_
                  simp only [List.take_succ_cons, List.take_zero]
                  refine wpAnyH_grownD (w0 := W6.drew) (spL _) (relD [] (KeptT 30) [] KeptE) (aliveD []) (ancD []) (spD (n := 13) (m := 13) (l := [fun z _ => z = (.agg bv), fun z _ => z = .agg #[.int .i64 C.epoch, .int .i64 C.next, .slice va C.opens.length vc], fun z _ => z = .pointer (some ⟨w.heap.size + 1 + 1, 0, none⟩), fun z _ => z = .int .i64 c, CloseR C.epoch C.next (keptL ⟨C.epoch, C.next, C.opens⟩ (fun x => x.id != c)), fun z _ => z = .agg #[.int .i64 c, .int .u8 k, .int .u8 dn, .int .i64 i, .slice sa sn sc, .bool m], fun z _ => z = .int .i64 now, HearT C.epoch C.next [] (keptL ⟨C.epoch, C.next, C.opens⟩ (fun x => x.id != c)), HearT C.epoch C.next [] (keptL ⟨C.epoch, C.next, C.opens⟩ (fun x => x.id != c)), RecsT [], CloseR C.epoch C.next (keptL ⟨C.epoch, C.next, C.opens⟩ (fun x => x.id != c)), NewCalls W6, RecsT []]) (apps := []) (stab := []) (appsE := []) (stabE := []) ⟨stays_eq _, stays_eq _, stays_eq _, stays_eq _, stays_closeR _ _ _, stays_eq _, stays_eq _, stays_hearT _ _ _ _, stays_hearT _ _ _ _, stays_recsT _, stays_closeR _ _ _, stays_newCalls _, stays_recsT _, trivial⟩ trivial trivial rfl (by decide) (by decide)) (by kernel_rfl) (by kernel_rfl) (by kernel_rfl) (by kernel_rfl) ?steps7 ?fin7 rfl
                  case steps7 =>
                    refine ⟨?_, ?_, ?_, ?_, ?_, ?_, ?_, ?_, ?_, ?_, ?_, ?_, ?_, trivial⟩
                    · intro a' w' hB hdep hoth K hK
                      have hK := growB hB hK
                      rw [if_pos (guard_none rfl)]
                      have hbw : Below W6.heap.size W6 w' := (below_drewN (Below.refl _ _) 1).trans hB
                      have t5 := hoth 5 (notDst_at (by kernel_rfl))
                      simp only [List.getElem?_toArray, List.getElem?_cons_succ, List.getElem?_cons_zero] at t5
                      have hld := (V6.out.below hbw).load
                      clear hdep hoth
                      go_simp
                      exact hK _ _ (Below.refl _ _) rfl
                    · intro a' w' hB hdep hoth K hK
                      have hK := growB hB hK
                      rw [if_pos (guard_none rfl)]
                      have hbw : Below W6.heap.size W6 w' := (below_drewN (Below.refl _ _) 1).trans hB
                      have t6 := hoth 6 (notDst_at (by kernel_rfl))
                      simp only [List.getElem?_toArray, List.getElem?_cons_succ, List.getElem?_cons_zero] at t6
                      have hcl := blk_below N6.out hbw (blk_lt N6.out)
                      have q0 : w'.cell? ⟨w.heap.size + 1, 0, none⟩ = some (.int .i64 C.epoch) := blk_cell hcl 0
                      have q1 : w'.cell? ⟨w.heap.size + 1, 1, none⟩ = some (.int .i64 C.next) := blk_cell hcl 1
                      have q2 : w'.cell? ⟨w.heap.size + 1, 2, none⟩ = some (.slice va C.opens.length vc) := blk_cell hcl 2
                      have lq := blk_lt hcl
                      clear hcl
                      clear hdep hoth
                      go_simp
                      exact hK _ _ (Below.refl _ _) rfl
                    · intro a' w' hB hdep hoth K hK
                      have hK := growB hB hK
                      rw [if_pos (guard_none rfl)]
                      have hbw : Below W6.heap.size W6 w' := (below_drewN (Below.refl _ _) 1).trans hB
                      have t7 := hoth 7 (notDst_at (by kernel_rfl))
                      simp only [List.getElem?_toArray, List.getElem?_cons_succ, List.getElem?_cons_zero] at t7
                      clear hdep hoth
                      go_simp
                      exact hK _ _ (Below.refl _ _) rfl
                    · intro a' w' hB hdep hoth K hK
                      have hK := growB hB hK
                      rw [if_pos (guard_none rfl)]
                      have hbw : Below W6.heap.size W6 w' := (below_drewN (Below.refl _ _) 1).trans hB
                      obtain ⟨vx0, gx0, ex0⟩ := hdep ⟨2, .data⟩ (by simp) rfl
                      have gx0 := gx0 65 rfl (by simp)
                      obtain rfl : vx0 = .pointer (some ⟨w.heap.size + 1 + 1, 0, none⟩) := ex0
                      have htl := blk_below M6.out hbw (blk_lt M6.out)
                      have r0 : w'.cell? ⟨w.heap.size + 1 + 1, 0, none⟩ = some (.int .i64 c) := blk_cell htl 0
                      have lr := blk_lt htl
                      clear htl
                      clear hdep hoth
                      go_simp
                      exact hK _ _ (Below.refl _ _) rfl
                    · intro a' w' hB hdep hoth K hK
                      have hK := growB hB hK
                      rw [if_pos (guard_none rfl)]
                      have hbw : Below W6.heap.size W6 w' := (below_drewN (Below.refl _ _) 1).trans hB
                      obtain ⟨v0, p0, e0⟩ := hdep ⟨1, .data⟩ (by simp) rfl
                      have p0 := p0 64 rfl (by simp)
                      obtain rfl : v0 = .agg #[.int .i64 C.epoch, .int .i64 C.next, .slice va C.opens.length vc] := e0
                      obtain ⟨v1, p1, e1⟩ := hdep ⟨3, .data⟩ (by simp) rfl
                      have p1 := p1 66 rfl (by simp)
                      obtain rfl : v1 = .int .i64 c := e1
                      have HA' := hid (rclose_any C.epoch C.next c (.slice va C.opens.length vc) C.opens w' (by have := G3.out; omega) HWF.out (R6.out.below hbw))
                      clear hdep hoth
                      unfold calls at HA'
                      go_simp
                      refine HA'.out.mono ?_
                      rintro e w'' ⟨v, rfl, ho, hb⟩
                      exact hK _ _ hb ⟨v, rfl, ho⟩
                    · intro a' w' hB hdep hoth K hK
                      have hK := growB hB hK
                      rw [if_pos (guard_none rfl)]
                      have hbw : Below W6.heap.size W6 w' := (below_drewN (Below.refl _ _) 1).trans hB
                      have t7 := hoth 7 (notDst_at (by kernel_rfl))
                      simp only [List.getElem?_toArray, List.getElem?_cons_succ, List.getElem?_cons_zero] at t7
                      have htl := blk_below M6.out hbw (blk_lt M6.out)
                      have r0 : w'.cell? ⟨w.heap.size + 1 + 1, 0, none⟩ = some (.int .i64 c) := blk_cell htl 0
                      have r1 : w'.cell? ⟨w.heap.size + 1 + 1, 1, none⟩ = some (.int .u8 k) := blk_cell htl 1
                      have r2 : w'.cell? ⟨w.heap.size + 1 + 1, 2, none⟩ = some (.int .u8 dn) := blk_cell htl 2
                      have r3 : w'.cell? ⟨w.heap.size + 1 + 1, 3, none⟩ = some (.int .i64 i) := blk_cell htl 3
                      have r4 : w'.cell? ⟨w.heap.size + 1 + 1, 4, none⟩ = some (.slice sa sn sc) := blk_cell htl 4
                      have r5 : w'.cell? ⟨w.heap.size + 1 + 1, 5, none⟩ = some (.bool m) := blk_cell htl 5
                      have lr := blk_lt htl
                      clear htl
                      clear hdep hoth
                      go_simp
                      exact hK _ _ (Below.refl _ _) rfl
                    · intro a' w' hB hdep hoth K hK
                      have hK := growB hB hK
                      rw [if_pos (guard_none rfl)]
                      have hbw : Below W6.heap.size W6 w' := (below_drewN (Below.refl _ _) 1).trans hB
                      have t3 := hoth 3 (notDst_at (by kernel_rfl))
                      simp only [List.getElem?_toArray, List.getElem?_cons_succ, List.getElem?_cons_zero] at t3
                      clear hdep hoth
                      go_simp
                      exact hK _ _ (Below.refl _ _) rfl
                    · intro a' w' hB hdep hoth K hK
                      have hK := growB hB hK
                      rw [if_pos (guard_none rfl)]
                      have hbw : Below W6.heap.size W6 w' := (below_drewN (Below.refl _ _) 1).trans hB
                      obtain ⟨v0, p0, e0⟩ := hdep ⟨0, .data⟩ (by simp) rfl
                      have p0 := p0 63 rfl (by simp)
                      obtain rfl : v0 = .agg bv := e0
                      obtain ⟨v1, p1, e1⟩ := hdep ⟨4, .data⟩ (by simp) rfl
                      have p1 := p1 67 rfl (by simp)
                      obtain ⟨cv, rfl, hcv⟩ := e1
                      obtain ⟨v2, p2, e2⟩ := hdep ⟨5, .data⟩ (by simp) rfl
                      have p2 := p2 68 rfl (by simp)
                      obtain rfl : v2 = .agg #[.int .i64 c, .int .u8 k, .int .u8 dn, .int .i64 i, .slice sa sn sc, .bool m] := e2
                      obtain ⟨v3, p3, e3⟩ := hdep ⟨6, .data⟩ (by simp) rfl
                      have p3 := p3 69 rfl (by simp)
                      obtain rfl : v3 = .int .i64 now := e3
                      have HA' := hid (hear_any B bv C.epoch C.next c k i now dn cv ((keptL ⟨C.epoch, C.next, C.opens⟩ (fun x => x.id != c))) sa sn sc m w' (V6.out.below hbw).is hcv (by have := keptL_len2 C c; have := G3.out; omega) h8 HFI.out (by have := G4.out; omega) (HA.out.below (HB6.out.trans (hbw.mono HB6.out.size))) (HC.out.below (HB6.out.trans (hbw.mono HB6.out.size))) (HL.out.below (HB6.out.trans (hbw.mono HB6.out.size))))
                      clear hdep hoth hcv
                      unfold tellT at HA'
                      go_simp
                      refine HA'.out.mono ?_
                      rintro e w'' ⟨v, s', rfl, hr, hs, hb⟩
                      have hno := hear_no B (C := ⟨C.epoch, C.next, (keptL ⟨C.epoch, C.next, C.opens⟩ (fun x => x.id != c))⟩) (c := c) (k := k) (dn : Int) i now (closed_no HRB.out c)
                      rw [hno.1] at hr
                      rw [hno.2] at hs
                      exact hK _ _ hb ⟨v, s', rfl, hr, hs⟩
                    · intro a' w' hB hdep hoth K hK
                      have hK := growB hB hK
                      rw [if_pos (guard_none rfl)]
                      have hbw : Below W6.heap.size W6 w' := (below_drewN (Below.refl _ _) 1).trans hB
                      obtain ⟨v0, p0, e0⟩ := hdep ⟨7, .data⟩ (by simp) rfl
                      have p0 := p0 70 rfl (by simp)
                      obtain ⟨v, s', rfl, e1, e2⟩ := e0
                      clear hdep hoth
                      go_simp
                      exact hK _ _ (Below.refl _ _) ⟨v, s', rfl, e1, e2⟩
                    · intro a' w' hB hdep hoth K hK
                      have hK := growB hB hK
                      rw [if_pos (guard_none rfl)]
                      have hbw : Below W6.heap.size W6 w' := (below_drewN (Below.refl _ _) 1).trans hB
                      obtain ⟨v0, p0, e0⟩ := hdep ⟨8, .data⟩ (by simp) rfl
                      have p0 := p0 62 rfl (by simp)
                      obtain ⟨v, s', rfl, e1, e2⟩ := e0
                      have E1 := hid e1
                      clear e1 e2
                      clear hdep hoth
                      go_simp
                      exact hK _ _ (Below.refl _ _) E1.out
                    · intro a' w' hB hdep hoth K hK
                      have hK := growB hB hK
                      rw [if_pos (guard_none rfl)]
                      have hbw : Below W6.heap.size W6 w' := (below_drewN (Below.refl _ _) 1).trans hB
                      obtain ⟨v0, p0, e0⟩ := hdep ⟨8, .data⟩ (by simp) rfl
                      have p0 := p0 62 rfl (by simp)
                      obtain ⟨v, s', rfl, e1, e2⟩ := e0
                      have E2 := hid e2
                      clear e1 e2
                      clear hdep hoth
                      go_simp
                      exact hK _ _ (Below.refl _ _) ⟨s', rfl, E2.out⟩
                    · intro a' w' hB hdep hoth K hK
                      have hK := growB hB hK
                      rw [if_pos (guard_none rfl)]
                      have hbw : Below W6.heap.size W6 w' := (below_drewN (Below.refl _ _) 1).trans hB
                      clear hdep hoth
                      go_simp
                      exact hK _ _ ((Below.refl _ _).alloc (Nat.le_refl _) _) ⟨w'.heap.size, rfl, hbw.size, heap_new w' _⟩
                    · intro a' w' hB hdep hoth K hK
                      have hK := growB hB hK
                      rw [if_pos (guard_none rfl)]
                      have hbw : Below W6.heap.size W6 w' := (below_drewN (Below.refl _ _) 1).trans hB
                      obtain ⟨v0, p0, e0⟩ := hdep ⟨9, .data⟩ (by simp) rfl
                      have p0 := p0 71 rfl (by simp)
                      have E1 := hid (show RecsL w' [] v0 from e0)
                      clear e0
                      clear hdep hoth
                      go_simp
                      exact hK _ _ (Below.refl _ _) E1.out
                  case fin7 =>
                    intro vs w' hB hs
                    have hbw : Below W6.heap.size W6 w' := (below_drewN (Below.refl _ _) 1).trans hB
                    have er : RecsL w' [] (vs 12) := hs 12 (by decide) (by decide)
                    obtain ⟨sv7, ec, hcr⟩ := hs 10 (by decide) (by decide)
                    obtain ⟨T15, ea, hT, hz⟩ := hs 11 (by decide) (by decide)
                    clear hs
                    refine cutQ_held (fun _ => True) (fun f => ?_)
                    simp only [actOf, dstAt, if_true, List.getElem?_toArray, List.getElem?_cons_succ, List.getElem?_cons_zero, Option.bind_some, Act.put, List.setIfInBounds_toArray, List.set_cons_zero, List.set_cons_succ, List.length_cons, List.length_nil, Nat.reduceAdd]
                    rw [ec, ea]
                    obtain ⟨ra7, rc7, hrv⟩ : ∃ a c, vs 12 = .slice a 0 c := RecsL.len er
                    rw [hrv]
                    obtain ⟨sa7, sc7, rfl⟩ := len12 hcr
                    have z0 := blk_cell hz 0
                    have z1 := blk_cell hz 1
                    have z2 := blk_cell hz 2
                    have zf := blk_free hz
                    have zl := blk_lt hz
                    simp only [List.getElem?_toArray, List.getElem?_cons_zero, List.getElem?_cons_succ] at z0 z1 z2
                    have HZ := hid hz
                    have HCR := hid hcr
                    have HT' := hid hT
                    have HBW := hid hbw
                    clear hz hcr hT er hrv hB hbw
                    unfold calls
                    refine wpAnyH_ready (rs := [13]) (by kernel_rfl) (by simp) ?_
                    refine AllReadyH.cons rfl (fun K hK => ?_) AllReadyH.nil
                    go_simp
                    refine hK.out _ _ trivial (fun _ => ?_)
                    clear hK K
                    refine wpAnyH_done (by kernel_rfl) ?_ _
                    refine wp_namedQ' (fun W7 hX => ?_)
                    have D7 := hid (set3 HZ.out (.int .i64 C.epoch) (.int .i64 C.next) (.slice sa7 (keptL ⟨C.epoch, C.next, C.opens⟩ (fun x => x.id != c)).length sc7))
                    have Q7 := hid (set_row12 (set_row12 (set_row12 HCR.out HZ.out (by decide) 0 (.int .i64 C.epoch)) (blk_set HZ.out 0 _) (by simp) 1 (.int .i64 C.next)) (blk_set (blk_set HZ.out 0 _) 1 _) (by simp) 2 (.slice sa7 (keptL ⟨C.epoch, C.next, C.opens⟩ (fun x => x.id != c)).length sc7))
                    have hbq : Below W6.heap.size W6 W7 := by
                      rw [hX]
                      exact ((HBW.out.setCell (p := ⟨T15, 0, none⟩) HT'.out _).setCell (p := ⟨T15, 1, none⟩) HT'.out _).setCell (p := ⟨T15, 2, none⟩) HT'.out _
                    rw [← hX] at D7 Q7
                    clear hX z0 z1 z2 zf zl HZ HCR HT' HBW ec ea
                    have HB7 := hid (HB6.out.trans (hbq.mono HB6.out.size))
                    have V7 := hid (V6.out.below hbq)
                    have N7 := hid (blk_below N6.out hbq (blk_lt N6.out))
                    have M7 := hid (blk_below M6.out hbq (blk_lt M6.out))
                    have R7 := hid (R6.out.below hbq)
                    have O7 := hid (blk_below O6.out hbq (blk_lt O6.out))
                    have Y7 := hid (blk_below Y6.out hbq (blk_lt Y6.out))
                    clear hbq
                    go_upto_region 8 with (fail)
                    refine wp_region_cut 12 1 (fun _ => True) (by kernel_rfl) (by kernel_rfl) (by kernel_rfl) ?_
                    simp only [List.take_succ_cons, List.take_zero]
                    refine wpAnyH_grownD (w0 := W7.drew) (spL _) (relD [] (KeptT 30) [] KeptE) (aliveD []) (ancD []) (spD (n := 12) (m := 12) (l := [fun z _ => z = (.agg bv), fun z _ => z = .agg #[.int .i64 C.epoch, .int .i64 C.next, .slice va C.opens.length vc], fun z _ => z = .int .i64 now, CloseR C.epoch C.next (lateL ⟨C.epoch, C.next, C.opens⟩ now 0), fun z _ => z = .agg #[.int .i64 c, .int .u8 k, .int .u8 dn, .int .i64 i, .slice sa sn sc, .bool m], fun z _ => z = .int .i64 now, HearT C.epoch C.next [] (lateL ⟨C.epoch, C.next, C.opens⟩ now 0), HearT C.epoch C.next [] (lateL ⟨C.epoch, C.next, C.opens⟩ now 0), RecsT [], CloseR C.epoch C.next (lateL ⟨C.epoch, C.next, C.opens⟩ now 0), NewCalls W7, RecsT []]) (apps := []) (stab := []) (appsE := []) (stabE := []) ⟨stays_eq _, stays_eq _, stays_eq _, stays_closeR _ _ _, stays_eq _, stays_eq _, stays_hearT _ _ _ _, stays_hearT _ _ _ _, stays_recsT _, stays_closeR _ _ _, stays_newCalls _, stays_recsT _, trivial⟩ trivial trivial rfl (by decide) (by decide)) (by kernel_rfl) (by kernel_rfl) (by kernel_rfl) (by kernel_rfl) ?steps8 ?fin8 rfl
                    case steps8 =>
                      refine ⟨?_, ?_, ?_, ?_, ?_, ?_, ?_, ?_, ?_, ?_, ?_, ?_, trivial⟩
                      · intro a' w' hB hdep hoth K hK
                        have hK := growB hB hK
                        rw [if_pos (guard_none rfl)]
                        have hbw : Below W7.heap.size W7 w' := (below_drewN (Below.refl _ _) 1).trans hB
                        have t5 := hoth 5 (notDst_at (by kernel_rfl))
                        simp only [List.getElem?_toArray, List.getElem?_cons_succ, List.getElem?_cons_zero] at t5
                        have hld := (V7.out.below hbw).load
                        clear hdep hoth
                        go_simp
                        exact hK _ _ (Below.refl _ _) rfl
                      · intro a' w' hB hdep hoth K hK
                        have hK := growB hB hK
                        rw [if_pos (guard_none rfl)]
                        have hbw : Below W7.heap.size W7 w' := (below_drewN (Below.refl _ _) 1).trans hB
                        have t6 := hoth 6 (notDst_at (by kernel_rfl))
                        simp only [List.getElem?_toArray, List.getElem?_cons_succ, List.getElem?_cons_zero] at t6
                        have hcl := blk_below N7.out hbw (blk_lt N7.out)
                        have q0 : w'.cell? ⟨w.heap.size + 1, 0, none⟩ = some (.int .i64 C.epoch) := blk_cell hcl 0
                        have q1 : w'.cell? ⟨w.heap.size + 1, 1, none⟩ = some (.int .i64 C.next) := blk_cell hcl 1
                        have q2 : w'.cell? ⟨w.heap.size + 1, 2, none⟩ = some (.slice va C.opens.length vc) := blk_cell hcl 2
                        have lq := blk_lt hcl
                        clear hcl
                        clear hdep hoth
                        go_simp
                        exact hK _ _ (Below.refl _ _) rfl
                      · intro a' w' hB hdep hoth K hK
                        have hK := growB hB hK
                        rw [if_pos (guard_none rfl)]
                        have hbw : Below W7.heap.size W7 w' := (below_drewN (Below.refl _ _) 1).trans hB
                        have t3 := hoth 3 (notDst_at (by kernel_rfl))
                        simp only [List.getElem?_toArray, List.getElem?_cons_succ, List.getElem?_cons_zero] at t3
                        clear hdep hoth
                        go_simp
                        exact hK _ _ (Below.refl _ _) rfl
                      · intro a' w' hB hdep hoth K hK
                        have hK := growB hB hK
                        rw [if_pos (guard_none rfl)]
                        have hbw : Below W7.heap.size W7 w' := (below_drewN (Below.refl _ _) 1).trans hB
                        obtain ⟨v0, p0, e0⟩ := hdep ⟨1, .data⟩ (by simp) rfl
                        have p0 := p0 75 rfl (by simp)
                        obtain rfl : v0 = .agg #[.int .i64 C.epoch, .int .i64 C.next, .slice va C.opens.length vc] := e0
                        obtain ⟨v1, p1, e1⟩ := hdep ⟨2, .data⟩ (by simp) rfl
                        have p1 := p1 76 rfl (by simp)
                        obtain rfl : v1 = .int .i64 now := e1
                        have HA' := hid (rlate_any C.epoch C.next now 0 (.slice va C.opens.length vc) C.opens w' (by have := G3.out; omega) HWF.out (R7.out.below hbw))
                        clear hdep hoth
                        unfold calls at HA'
                        go_simp
                        refine HA'.out.mono ?_
                        rintro e w'' ⟨v, rfl, ho, hb⟩
                        exact hK _ _ hb ⟨v, rfl, ho⟩
                      · intro a' w' hB hdep hoth K hK
                        have hK := growB hB hK
                        rw [if_pos (guard_none rfl)]
                        have hbw : Below W7.heap.size W7 w' := (below_drewN (Below.refl _ _) 1).trans hB
                        have t7 := hoth 7 (notDst_at (by kernel_rfl))
                        simp only [List.getElem?_toArray, List.getElem?_cons_succ, List.getElem?_cons_zero] at t7
                        have htl := blk_below M7.out hbw (blk_lt M7.out)
                        have r0 : w'.cell? ⟨w.heap.size + 1 + 1, 0, none⟩ = some (.int .i64 c) := blk_cell htl 0
                        have r1 : w'.cell? ⟨w.heap.size + 1 + 1, 1, none⟩ = some (.int .u8 k) := blk_cell htl 1
                        have r2 : w'.cell? ⟨w.heap.size + 1 + 1, 2, none⟩ = some (.int .u8 dn) := blk_cell htl 2
                        have r3 : w'.cell? ⟨w.heap.size + 1 + 1, 3, none⟩ = some (.int .i64 i) := blk_cell htl 3
                        have r4 : w'.cell? ⟨w.heap.size + 1 + 1, 4, none⟩ = some (.slice sa sn sc) := blk_cell htl 4
                        have r5 : w'.cell? ⟨w.heap.size + 1 + 1, 5, none⟩ = some (.bool m) := blk_cell htl 5
                        have lr := blk_lt htl
                        clear htl
                        clear hdep hoth
                        go_simp
                        exact hK _ _ (Below.refl _ _) rfl
                      · intro a' w' hB hdep hoth K hK
                        have hK := growB hB hK
                        rw [if_pos (guard_none rfl)]
                        have hbw : Below W7.heap.size W7 w' := (below_drewN (Below.refl _ _) 1).trans hB
                        have t3 := hoth 3 (notDst_at (by kernel_rfl))
                        simp only [List.getElem?_toArray, List.getElem?_cons_succ, List.getElem?_cons_zero] at t3
                        clear hdep hoth
                        go_simp
                        exact hK _ _ (Below.refl _ _) rfl
                      · intro a' w' hB hdep hoth K hK
                        have hK := growB hB hK
                        rw [if_pos (guard_none rfl)]
                        have hbw : Below W7.heap.size W7 w' := (below_drewN (Below.refl _ _) 1).trans hB
                        obtain ⟨v0, p0, e0⟩ := hdep ⟨0, .data⟩ (by simp) rfl
                        have p0 := p0 74 rfl (by simp)
                        obtain rfl : v0 = .agg bv := e0
                        obtain ⟨v1, p1, e1⟩ := hdep ⟨3, .data⟩ (by simp) rfl
                        have p1 := p1 77 rfl (by simp)
                        obtain ⟨cv, rfl, hcv⟩ := e1
                        obtain ⟨v2, p2, e2⟩ := hdep ⟨4, .data⟩ (by simp) rfl
                        have p2 := p2 78 rfl (by simp)
                        obtain rfl : v2 = .agg #[.int .i64 c, .int .u8 k, .int .u8 dn, .int .i64 i, .slice sa sn sc, .bool m] := e2
                        obtain ⟨v3, p3, e3⟩ := hdep ⟨5, .data⟩ (by simp) rfl
                        have p3 := p3 79 rfl (by simp)
                        obtain rfl : v3 = .int .i64 now := e3
                        have HA' := hid (hear_any B bv C.epoch C.next c k i now dn cv ((lateL ⟨C.epoch, C.next, C.opens⟩ now 0)) sa sn sc m w' (V7.out.below hbw).is hcv (by have := lateL_len2 C now; have := G3.out; omega) h8 HFI.out (by have := G4.out; omega) (HA.out.below (HB7.out.trans (hbw.mono HB7.out.size))) (HC.out.below (HB7.out.trans (hbw.mono HB7.out.size))) (HL.out.below (HB7.out.trans (hbw.mono HB7.out.size))))
                        clear hdep hoth hcv
                        unfold tellT at HA'
                        go_simp
                        refine HA'.out.mono ?_
                        rintro e w'' ⟨v, s', rfl, hr, hs, hb⟩
                        have hno := hear_no B (C := ⟨C.epoch, C.next, (lateL ⟨C.epoch, C.next, C.opens⟩ now 0)⟩) (c := c) (k := k) (dn : Int) i now (late_no HRB.out B3.out B4.out HY.out HLT.out)
                        rw [hno.1] at hr
                        rw [hno.2] at hs
                        exact hK _ _ hb ⟨v, s', rfl, hr, hs⟩
                      · intro a' w' hB hdep hoth K hK
                        have hK := growB hB hK
                        rw [if_pos (guard_none rfl)]
                        have hbw : Below W7.heap.size W7 w' := (below_drewN (Below.refl _ _) 1).trans hB
                        obtain ⟨v0, p0, e0⟩ := hdep ⟨6, .data⟩ (by simp) rfl
                        have p0 := p0 80 rfl (by simp)
                        obtain ⟨v, s', rfl, e1, e2⟩ := e0
                        clear hdep hoth
                        go_simp
                        exact hK _ _ (Below.refl _ _) ⟨v, s', rfl, e1, e2⟩
                      · intro a' w' hB hdep hoth K hK
                        have hK := growB hB hK
                        rw [if_pos (guard_none rfl)]
                        have hbw : Below W7.heap.size W7 w' := (below_drewN (Below.refl _ _) 1).trans hB
                        obtain ⟨v0, p0, e0⟩ := hdep ⟨7, .data⟩ (by simp) rfl
                        have p0 := p0 73 rfl (by simp)
                        obtain ⟨v, s', rfl, e1, e2⟩ := e0
                        have E1 := hid e1
                        clear e1 e2
                        clear hdep hoth
                        go_simp
                        exact hK _ _ (Below.refl _ _) E1.out
                      · intro a' w' hB hdep hoth K hK
                        have hK := growB hB hK
                        rw [if_pos (guard_none rfl)]
                        have hbw : Below W7.heap.size W7 w' := (below_drewN (Below.refl _ _) 1).trans hB
                        obtain ⟨v0, p0, e0⟩ := hdep ⟨7, .data⟩ (by simp) rfl
                        have p0 := p0 73 rfl (by simp)
                        obtain ⟨v, s', rfl, e1, e2⟩ := e0
                        have E2 := hid e2
                        clear e1 e2
                        clear hdep hoth
                        go_simp
                        exact hK _ _ (Below.refl _ _) ⟨s', rfl, E2.out⟩
                      · intro a' w' hB hdep hoth K hK
                        have hK := growB hB hK
                        rw [if_pos (guard_none rfl)]
                        have hbw : Below W7.heap.size W7 w' := (below_drewN (Below.refl _ _) 1).trans hB
                        clear hdep hoth
                        go_simp
                        exact hK _ _ ((Below.refl _ _).alloc (Nat.le_refl _) _) ⟨w'.heap.size, rfl, hbw.size, heap_new w' _⟩
                      · intro a' w' hB hdep hoth K hK
                        have hK := growB hB hK
                        rw [if_pos (guard_none rfl)]
                        have hbw : Below W7.heap.size W7 w' := (below_drewN (Below.refl _ _) 1).trans hB
                        obtain ⟨v0, p0, e0⟩ := hdep ⟨8, .data⟩ (by simp) rfl
                        have p0 := p0 81 rfl (by simp)
                        have E1 := hid (show RecsL w' [] v0 from e0)
                        clear e0
                        clear hdep hoth
                        go_simp
                        exact hK _ _ (Below.refl _ _) E1.out
                    case fin8 =>
                      intro vs w' hB hs
                      have hbw : Below W7.heap.size W7 w' := (below_drewN (Below.refl _ _) 1).trans hB
                      have er : RecsL w' [] (vs 11) := hs 11 (by decide) (by decide)
                      obtain ⟨sv8, ec, hcr⟩ := hs 9 (by decide) (by decide)
                      obtain ⟨T17, ea, hT, hz⟩ := hs 10 (by decide) (by decide)
                      clear hs
                      refine cutQ_held (fun _ => True) (fun f => ?_)
                      simp only [actOf, dstAt, if_true, List.getElem?_toArray, List.getElem?_cons_succ, List.getElem?_cons_zero, Option.bind_some, Act.put, List.setIfInBounds_toArray, List.set_cons_zero, List.set_cons_succ, List.length_cons, List.length_nil, Nat.reduceAdd]
                      rw [ec, ea]
                      obtain ⟨ra8, rc8, hrv⟩ : ∃ a c, vs 11 = .slice a 0 c := RecsL.len er
                      rw [hrv]
                      obtain ⟨sa8, sc8, rfl⟩ := len12 hcr
                      have z0 := blk_cell hz 0
                      have z1 := blk_cell hz 1
                      have z2 := blk_cell hz 2
                      have zf := blk_free hz
                      have zl := blk_lt hz
                      simp only [List.getElem?_toArray, List.getElem?_cons_zero, List.getElem?_cons_succ] at z0 z1 z2
                      have HZ := hid hz
                      have HCR := hid hcr
                      have HT' := hid hT
                      have HBW := hid hbw
                      clear hz hcr hT er hrv hB hbw
                      unfold calls
                      refine wpAnyH_ready (rs := [12]) (by kernel_rfl) (by simp) ?_
                      refine AllReadyH.cons rfl (fun K hK => ?_) AllReadyH.nil
                      go_simp
                      refine hK.out _ _ trivial (fun _ => ?_)
                      clear hK K
                      refine wpAnyH_done (by kernel_rfl) ?_ _
                      refine wp_namedQ' (fun W8 hX => ?_)
                      have D8 := hid (set3 HZ.out (.int .i64 C.epoch) (.int .i64 C.next) (.slice sa8 (lateL ⟨C.epoch, C.next, C.opens⟩ now 0).length sc8))
                      have Q8 := hid (set_row12 (set_row12 (set_row12 HCR.out HZ.out (by decide) 0 (.int .i64 C.epoch)) (blk_set HZ.out 0 _) (by simp) 1 (.int .i64 C.next)) (blk_set (blk_set HZ.out 0 _) 1 _) (by simp) 2 (.slice sa8 (lateL ⟨C.epoch, C.next, C.opens⟩ now 0).length sc8))
                      have hbq : Below W7.heap.size W7 W8 := by
                        rw [hX]
                        exact ((HBW.out.setCell (p := ⟨T17, 0, none⟩) HT'.out _).setCell (p := ⟨T17, 1, none⟩) HT'.out _).setCell (p := ⟨T17, 2, none⟩) HT'.out _
                      rw [← hX] at D8 Q8
                      clear hX z0 z1 z2 zf zl HZ HCR HT' HBW ec ea
                      have HB8 := hid (HB7.out.trans (hbq.mono HB7.out.size))
                      have V8 := hid (V7.out.below hbq)
                      have N8 := hid (blk_below N7.out hbq (blk_lt N7.out))
                      have M8 := hid (blk_below M7.out hbq (blk_lt M7.out))
                      have R8 := hid (R7.out.below hbq)
                      have O8 := hid (blk_below O7.out hbq (blk_lt O7.out))
                      have Y8 := hid (blk_below Y7.out hbq (blk_lt Y7.out))
                      have D7 := hid (blk_below D7.out hbq (blk_lt D7.out))
                      have Q7 := hid (Q7.out.below hbq)
                      clear hbq
                      have y3 : W8.cell? ⟨T12, 3, none⟩ = some (.int .i64 y.sent) := blk_cell Y8.out 3
                      have yl := blk_lt Y8.out
                      have d6 : decide (y.sent ≤ now) = true := decide_eq_true HLT0.out
                      go_upto_region 10 with (fail)
                      clear y3 yl
                      refine wp_region_held_drew (S := fun _ => True) (by kernel_rfl) trivial (fun _ => ?_)
                      refine wpAnyH_grownG (w0 := W8.drew) (spL [fun z _ => z = .slice ra7 0 rc7, fun z _ => z = .int .i64 0, fun z _ => z = .bool false, fun z _ => z = .bool false, fun z _ => z = .agg #[.int .i64 C.epoch, .int .i64 C.next, .slice sa7 (keptL ⟨C.epoch, C.next, C.opens⟩ (fun x => x.id != c)).length sc7], fun z _ => z = .agg #[.int .i64 C.epoch, .int .i64 C.next, .slice va C.opens.length vc], fun z _ => z = .pointer (some ⟨w.heap.size + 1 + 1, 0, none⟩), fun z _ => z = .int .i64 c, CloseR C.epoch C.next (keptL ⟨C.epoch, C.next, C.opens⟩ (fun x => x.id != c)), fun z _ => z = .bool true, fun z _ => z = .bool false, fun z _ => z = .bool false, fun z _ => z = .bool false, fun z _ => z = .bool true, fun z _ => z = .bool true, fun z _ => z = .slice ra8 0 rc8, fun z _ => z = .int .i64 0, fun z _ => z = .bool false, fun z _ => z = .bool false, fun z _ => z = .agg #[.int .i64 C.epoch, .int .i64 C.next, .slice sa8 (lateL ⟨C.epoch, C.next, C.opens⟩ now 0).length sc8], fun z _ => z = .agg #[.int .i64 C.epoch, .int .i64 C.next, .slice va C.opens.length vc], fun z _ => z = .int .i64 now, CloseR C.epoch C.next (lateL ⟨C.epoch, C.next, C.opens⟩ now 0), fun z _ => z = .bool true, fun z _ => z = .bool false, fun z _ => z = .bool false, fun z _ => z = .bool false, fun z _ => z = .bool false]) (spL_stays ⟨stays_eq _, stays_eq _, stays_eq _, stays_eq _, stays_eq _, stays_eq _, stays_eq _, stays_eq _, stays_closeR _ _ _, stays_eq _, stays_eq _, stays_eq _, stays_eq _, stays_eq _, stays_eq _, stays_eq _, stays_eq _, stays_eq _, stays_eq _, stays_eq _, stays_eq _, stays_eq _, stays_closeR _ _ _, stays_eq _, stays_eq _, stays_eq _, stays_eq _, stays_eq _, trivial⟩) (by kernel_rfl) (by kernel_rfl) ?steps10 ?fin10 rfl
                      case steps10 =>
                        refine ⟨?_, ?_, ?_, ?_, ?_, ?_, ?_, ?_, ?_, ?_, ?_, ?_, ?_, ?_, ?_, ?_, ?_, ?_, ?_, ?_, ?_, ?_, ?_, ?_, ?_, ?_, ?_, ?_, trivial⟩
                        · intro a' w' hB hdep hoth K hK
                          rw [if_pos (guard_none rfl)]
                          have hbw : Below W8.heap.size W8 w' := (below_drewN (Below.refl _ _) 1).trans hB
                          have t14 := hoth 14 (notDst_at (by kernel_rfl))
                          simp only [List.getElem?_toArray, List.getElem?_cons_succ, List.getElem?_cons_zero] at t14
                          clear hdep hoth
                          go_simp
                          exact hK _ _ (Below.refl _ _) rfl
                        · intro a' w' hB hdep hoth K hK
                          rw [if_pos (guard_none rfl)]
                          have hbw : Below W8.heap.size W8 w' := (below_drewN (Below.refl _ _) 1).trans hB
                          obtain ⟨vx0, gx0, ex0⟩ := hdep ⟨0, .data⟩ (by simp) rfl
                          have gx0 := gx0 91 rfl (by simp)
                          obtain rfl : vx0 = .slice ra7 0 rc7 := ex0
                          clear hdep hoth
                          go_simp
                          exact hK _ _ (Below.refl _ _) rfl
                        · intro a' w' hB hdep hoth K hK
                          rw [if_pos (guard_none rfl)]
                          have hbw : Below W8.heap.size W8 w' := (below_drewN (Below.refl _ _) 1).trans hB
                          obtain ⟨vx0, gx0, ex0⟩ := hdep ⟨1, .data⟩ (by simp) rfl
                          have gx0 := gx0 92 rfl (by simp)
                          obtain rfl : vx0 = .int .i64 0 := ex0
                          clear hdep hoth
                          go_simp
                          exact hK _ _ (Below.refl _ _) rfl
                        · intro a' w' hB hdep hoth K hK
                          rw [if_pos (guard_none rfl)]
                          have hbw : Below W8.heap.size W8 w' := (below_drewN (Below.refl _ _) 1).trans hB
                          obtain ⟨vx0, gx0, ex0⟩ := hdep ⟨2, .data⟩ (by simp) rfl
                          have gx0 := gx0 93 rfl (by simp)
                          obtain rfl : vx0 = .bool false := ex0
                          clear hdep hoth
                          go_simp
                          exact hK _ _ (Below.refl _ _) rfl
                        · intro a' w' hB hdep hoth K hK
                          obtain ⟨vg, gg, eg⟩ := hdep ⟨3, .guard⟩ (by simp) rfl
                          have gg := gg 94 rfl (by simp)
                          obtain rfl : vg = .bool false := eg
                          rw [guard_is rfl rfl gg]
                          rw [if_pos (by decide)]
                          have hbw : Below W8.heap.size W8 w' := (below_drewN (Below.refl _ _) 1).trans hB
                          have t15 := hoth 15 (notDst_at (by kernel_rfl))
                          simp only [List.getElem?_toArray, List.getElem?_cons_succ, List.getElem?_cons_zero] at t15
                          have hcl := blk_below D7.out hbw (blk_lt D7.out)
                          have q0 : w'.cell? ⟨T15, 0, none⟩ = some (.int .i64 C.epoch) := blk_cell hcl 0
                          have q1 : w'.cell? ⟨T15, 1, none⟩ = some (.int .i64 C.next) := blk_cell hcl 1
                          have q2 : w'.cell? ⟨T15, 2, none⟩ = some (.slice sa7 (keptL ⟨C.epoch, C.next, C.opens⟩ (fun x => x.id != c)).length sc7) := blk_cell hcl 2
                          have lq := blk_lt hcl
                          clear hcl
                          clear hdep hoth
                          go_simp
                          exact hK _ _ (Below.refl _ _) rfl
                        · intro a' w' hB hdep hoth K hK
                          obtain ⟨vg, gg, eg⟩ := hdep ⟨3, .guard⟩ (by simp) rfl
                          have gg := gg 94 rfl (by simp)
                          obtain rfl : vg = .bool false := eg
                          rw [guard_is rfl rfl gg]
                          rw [if_pos (by decide)]
                          have hbw : Below W8.heap.size W8 w' := (below_drewN (Below.refl _ _) 1).trans hB
                          have t6 := hoth 6 (notDst_at (by kernel_rfl))
                          simp only [List.getElem?_toArray, List.getElem?_cons_succ, List.getElem?_cons_zero] at t6
                          have hcl := blk_below N8.out hbw (blk_lt N8.out)
                          have q0 : w'.cell? ⟨w.heap.size + 1, 0, none⟩ = some (.int .i64 C.epoch) := blk_cell hcl 0
                          have q1 : w'.cell? ⟨w.heap.size + 1, 1, none⟩ = some (.int .i64 C.next) := blk_cell hcl 1
                          have q2 : w'.cell? ⟨w.heap.size + 1, 2, none⟩ = some (.slice va C.opens.length vc) := blk_cell hcl 2
                          have lq := blk_lt hcl
                          clear hcl
                          clear hdep hoth
                          go_simp
                          exact hK _ _ (Below.refl _ _) rfl
                        · intro a' w' hB hdep hoth K hK
                          obtain ⟨vg, gg, eg⟩ := hdep ⟨3, .guard⟩ (by simp) rfl
                          have gg := gg 94 rfl (by simp)
                          obtain rfl : vg = .bool false := eg
                          rw [guard_is rfl rfl gg]
                          rw [if_pos (by decide)]
                          have hbw : Below W8.heap.size W8 w' := (below_drewN (Below.refl _ _) 1).trans hB
                          have t7 := hoth 7 (notDst_at (by kernel_rfl))
                          simp only [List.getElem?_toArray, List.getElem?_cons_succ, List.getElem?_cons_zero] at t7
                          clear hdep hoth
                          go_simp
                          exact hK _ _ (Below.refl _ _) rfl
                        · intro a' w' hB hdep hoth K hK
                          obtain ⟨vg, gg, eg⟩ := hdep ⟨3, .guard⟩ (by simp) rfl
                          have gg := gg 94 rfl (by simp)
                          obtain rfl : vg = .bool false := eg
                          rw [guard_is rfl rfl gg]
                          rw [if_pos (by decide)]
                          have hbw : Below W8.heap.size W8 w' := (below_drewN (Below.refl _ _) 1).trans hB
                          obtain ⟨vx0, gx0, ex0⟩ := hdep ⟨6, .data⟩ (by simp) rfl
                          have gx0 := gx0 97 rfl (by simp)
                          obtain rfl : vx0 = .pointer (some ⟨w.heap.size + 1 + 1, 0, none⟩) := ex0
                          have htl := blk_below M8.out hbw (blk_lt M8.out)
                          have r0 : w'.cell? ⟨w.heap.size + 1 + 1, 0, none⟩ = some (.int .i64 c) := blk_cell htl 0
                          have lr := blk_lt htl
                          clear htl
                          clear hdep hoth
                          go_simp
                          exact hK _ _ (Below.refl _ _) rfl
                        · intro a' w' hB hdep hoth K hK
                          obtain ⟨vg, gg, eg⟩ := hdep ⟨3, .guard⟩ (by simp) rfl
                          have gg := gg 94 rfl (by simp)
                          obtain rfl : vg = .bool false := eg
                          rw [guard_is rfl rfl gg]
                          rw [if_pos (by decide)]
                          have hbw : Below W8.heap.size W8 w' := (below_drewN (Below.refl _ _) 1).trans hB
                          obtain ⟨v0, p0, e0⟩ := hdep ⟨5, .data⟩ (by simp) rfl
                          have p0 := p0 96 rfl (by simp)
                          obtain rfl : v0 = .agg #[.int .i64 C.epoch, .int .i64 C.next, .slice va C.opens.length vc] := e0
                          obtain ⟨v1, p1, e1⟩ := hdep ⟨7, .data⟩ (by simp) rfl
                          have p1 := p1 98 rfl (by simp)
                          obtain rfl : v1 = .int .i64 c := e1
                          have HA' := hid (rclose_any C.epoch C.next c (.slice va C.opens.length vc) C.opens w' (by have := G3.out; omega) HWF.out (R8.out.below hbw))
                          clear hdep hoth
                          unfold calls at HA'
                          go_simp
                          refine HA'.out.mono ?_
                          rintro e w'' ⟨v, rfl, ho, hb⟩
                          exact hK _ _ hb ⟨v, rfl, ho⟩
                        · intro a' w' hB hdep hoth K hK
                          obtain ⟨vg, gg, eg⟩ := hdep ⟨3, .guard⟩ (by simp) rfl
                          have gg := gg 94 rfl (by simp)
                          obtain rfl : vg = .bool false := eg
                          rw [guard_is rfl rfl gg]
                          rw [if_pos (by decide)]
                          have hbw : Below W8.heap.size W8 w' := (below_drewN (Below.refl _ _) 1).trans hB
                          obtain ⟨v0, p0, e0⟩ := hdep ⟨4, .data⟩ (by simp) rfl
                          have p0 := p0 95 rfl (by simp)
                          obtain rfl : v0 = .agg #[.int .i64 C.epoch, .int .i64 C.next, .slice sa7 (keptL ⟨C.epoch, C.next, C.opens⟩ (fun x => x.id != c)).length sc7] := e0
                          obtain ⟨v1, p1, e1⟩ := hdep ⟨8, .data⟩ (by simp) rfl
                          have p1 := p1 99 rfl (by simp)
                          obtain ⟨cv, rfl, hcv⟩ := e1
                          have HA' := rsame_any C.epoch C.next C.epoch C.next (.slice sa7 (keptL ⟨C.epoch, C.next, C.opens⟩ (fun x => x.id != c)).length sc7) cv (keptL ⟨C.epoch, C.next, C.opens⟩ (fun x => x.id != c)) (keptL ⟨C.epoch, C.next, C.opens⟩ (fun x => x.id != c)) w' (Q7.out.below hbw) hcv (by have := keptL_len2 C c; have := G3.out; omega) (by have := keptL_len2 C c; have := G3.out; omega)
                          rw [sames rfl] at HA'
                          have HA' := hid HA'
                          clear hdep hoth hcv
                          unfold calls at HA'
                          go_simp
                          refine HA'.out.mono ?_
                          rintro e w'' ⟨rfl, hb⟩
                          exact hK _ _ hb rfl
                        · intro a' w' hB hdep hoth K hK
                          obtain ⟨vg, gg, eg⟩ := hdep ⟨3, .guard⟩ (by simp) rfl
                          have gg := gg 94 rfl (by simp)
                          obtain rfl : vg = .bool false := eg
                          rw [guard_is rfl rfl gg]
                          rw [if_pos (by decide)]
                          have hbw : Below W8.heap.size W8 w' := (below_drewN (Below.refl _ _) 1).trans hB
                          obtain ⟨vx0, gx0, ex0⟩ := hdep ⟨9, .data⟩ (by simp) rfl
                          have gx0 := gx0 100 rfl (by simp)
                          obtain rfl : vx0 = .bool true := ex0
                          clear hdep hoth
                          go_simp
                          exact hK _ _ (Below.refl _ _) rfl
                        · intro a' w' hB hdep hoth K hK
                          rw [if_pos (guard_none rfl)]
                          have hbw : Below W8.heap.size W8 w' := (below_drewN (Below.refl _ _) 1).trans hB
                          obtain ⟨vx0, gx0, ex0⟩ := hdep ⟨3, .data⟩ (by simp) rfl
                          have gx0 := gx0 94 rfl (by simp)
                          obtain rfl : vx0 = .bool false := ex0
                          obtain ⟨vx1, gx1, ex1⟩ := hdep ⟨10, .data⟩ (by simp) rfl
                          have gx1 := gx1 101 rfl (by simp)
                          obtain rfl : vx1 = .bool false := ex1
                          clear hdep hoth
                          go_simp
                          exact hK _ _ (Below.refl _ _) rfl
                        · intro a' w' hB hdep hoth K hK
                          rw [if_pos (guard_none rfl)]
                          have hbw : Below W8.heap.size W8 w' := (below_drewN (Below.refl _ _) 1).trans hB
                          obtain ⟨vx0, gx0, ex0⟩ := hdep ⟨11, .data⟩ (by simp) rfl
                          have gx0 := gx0 102 rfl (by simp)
                          obtain rfl : vx0 = .bool false := ex0
                          clear hdep hoth
                          go_simp
                          exact hK _ _ (Below.refl _ _) rfl
                        · intro a' w' hB hdep hoth K hK
                          obtain ⟨vg, gg, eg⟩ := hdep ⟨12, .guard⟩ (by simp) rfl
                          have gg := gg 103 rfl (by simp)
                          obtain rfl : vg = .bool false := eg
                          rw [guard_is rfl rfl gg]
                          rw [if_pos (by decide)]
                          have hbw : Below W8.heap.size W8 w' := (below_drewN (Below.refl _ _) 1).trans hB
                          have t18 := hoth 18 (notDst_at (by kernel_rfl))
                          simp only [List.getElem?_toArray, List.getElem?_cons_succ, List.getElem?_cons_zero] at t18
                          clear hdep hoth
                          go_simp
                          exact hK _ _ (Below.refl _ _) rfl
                        · intro a' w' hB hdep hoth K hK
                          obtain ⟨vg, gg, eg⟩ := hdep ⟨12, .guard⟩ (by simp) rfl
                          have gg := gg 103 rfl (by simp)
                          obtain rfl : vg = .bool false := eg
                          rw [guard_is rfl rfl gg]
                          rw [if_pos (by decide)]
                          have hbw : Below W8.heap.size W8 w' := (below_drewN (Below.refl _ _) 1).trans hB
                          obtain ⟨vx0, gx0, ex0⟩ := hdep ⟨13, .data⟩ (by simp) rfl
                          have gx0 := gx0 104 rfl (by simp)
                          obtain rfl : vx0 = .bool true := ex0
                          clear hdep hoth
                          go_simp
                          exact hK _ _ (Below.refl _ _) rfl
                        · intro a' w' hB hdep hoth K hK
                          obtain ⟨vg, gg, eg⟩ := hdep ⟨14, .guard⟩ (by simp) rfl
                          have gg := gg 105 rfl (by simp)
                          obtain rfl : vg = .bool true := eg
                          rw [guard_is rfl rfl gg]
                          rw [if_pos (by decide)]
                          have hbw : Below W8.heap.size W8 w' := (below_drewN (Below.refl _ _) 1).trans hB
                          have t16 := hoth 16 (notDst_at (by kernel_rfl))
                          simp only [List.getElem?_toArray, List.getElem?_cons_succ, List.getElem?_cons_zero] at t16
                          clear hdep hoth
                          go_simp
                          exact hK _ _ (Below.refl _ _) rfl
                        · intro a' w' hB hdep hoth K hK
                          obtain ⟨vg, gg, eg⟩ := hdep ⟨14, .guard⟩ (by simp) rfl
                          have gg := gg 105 rfl (by simp)
                          obtain rfl : vg = .bool true := eg
                          rw [guard_is rfl rfl gg]
                          rw [if_pos (by decide)]
                          have hbw : Below W8.heap.size W8 w' := (below_drewN (Below.refl _ _) 1).trans hB
                          obtain ⟨vx0, gx0, ex0⟩ := hdep ⟨15, .data⟩ (by simp) rfl
                          have gx0 := gx0 106 rfl (by simp)
                          obtain rfl : vx0 = .slice ra8 0 rc8 := ex0
                          clear hdep hoth
                          go_simp
                          exact hK _ _ (Below.refl _ _) rfl
                        · intro a' w' hB hdep hoth K hK
                          obtain ⟨vg, gg, eg⟩ := hdep ⟨14, .guard⟩ (by simp) rfl
                          have gg := gg 105 rfl (by simp)
                          obtain rfl : vg = .bool true := eg
                          rw [guard_is rfl rfl gg]
                          rw [if_pos (by decide)]
                          have hbw : Below W8.heap.size W8 w' := (below_drewN (Below.refl _ _) 1).trans hB
                          obtain ⟨vx0, gx0, ex0⟩ := hdep ⟨16, .data⟩ (by simp) rfl
                          have gx0 := gx0 107 rfl (by simp)
                          obtain rfl : vx0 = .int .i64 0 := ex0
                          clear hdep hoth
                          go_simp
                          exact hK _ _ (Below.refl _ _) rfl
                        · intro a' w' hB hdep hoth K hK
                          obtain ⟨vg, gg, eg⟩ := hdep ⟨14, .guard⟩ (by simp) rfl
                          have gg := gg 105 rfl (by simp)
                          obtain rfl : vg = .bool true := eg
                          rw [guard_is rfl rfl gg]
                          rw [if_pos (by decide)]
                          have hbw : Below W8.heap.size W8 w' := (below_drewN (Below.refl _ _) 1).trans hB
                          obtain ⟨vx0, gx0, ex0⟩ := hdep ⟨17, .data⟩ (by simp) rfl
                          have gx0 := gx0 108 rfl (by simp)
                          obtain rfl : vx0 = .bool false := ex0
                          clear hdep hoth
                          go_simp
                          exact hK _ _ (Below.refl _ _) rfl
                        · intro a' w' hB hdep hoth K hK
                          obtain ⟨vg, gg, eg⟩ := hdep ⟨18, .guard⟩ (by simp) rfl
                          have gg := gg 109 rfl (by simp)
                          obtain rfl : vg = .bool false := eg
                          rw [guard_is rfl rfl gg]
                          rw [if_pos (by decide)]
                          have hbw : Below W8.heap.size W8 w' := (below_drewN (Below.refl _ _) 1).trans hB
                          have t17 := hoth 17 (notDst_at (by kernel_rfl))
                          simp only [List.getElem?_toArray, List.getElem?_cons_succ, List.getElem?_cons_zero] at t17
                          have hcl := blk_below D8.out hbw (blk_lt D8.out)
                          have q0 : w'.cell? ⟨T17, 0, none⟩ = some (.int .i64 C.epoch) := blk_cell hcl 0
                          have q1 : w'.cell? ⟨T17, 1, none⟩ = some (.int .i64 C.next) := blk_cell hcl 1
                          have q2 : w'.cell? ⟨T17, 2, none⟩ = some (.slice sa8 (lateL ⟨C.epoch, C.next, C.opens⟩ now 0).length sc8) := blk_cell hcl 2
                          have lq := blk_lt hcl
                          clear hcl
                          clear hdep hoth
                          go_simp
                          exact hK _ _ (Below.refl _ _) rfl
                        · intro a' w' hB hdep hoth K hK
                          obtain ⟨vg, gg, eg⟩ := hdep ⟨18, .guard⟩ (by simp) rfl
                          have gg := gg 109 rfl (by simp)
                          obtain rfl : vg = .bool false := eg
                          rw [guard_is rfl rfl gg]
                          rw [if_pos (by decide)]
                          have hbw : Below W8.heap.size W8 w' := (below_drewN (Below.refl _ _) 1).trans hB
                          have t6 := hoth 6 (notDst_at (by kernel_rfl))
                          simp only [List.getElem?_toArray, List.getElem?_cons_succ, List.getElem?_cons_zero] at t6
                          have hcl := blk_below N8.out hbw (blk_lt N8.out)
                          have q0 : w'.cell? ⟨w.heap.size + 1, 0, none⟩ = some (.int .i64 C.epoch) := blk_cell hcl 0
                          have q1 : w'.cell? ⟨w.heap.size + 1, 1, none⟩ = some (.int .i64 C.next) := blk_cell hcl 1
                          have q2 : w'.cell? ⟨w.heap.size + 1, 2, none⟩ = some (.slice va C.opens.length vc) := blk_cell hcl 2
                          have lq := blk_lt hcl
                          clear hcl
                          clear hdep hoth
                          go_simp
                          exact hK _ _ (Below.refl _ _) rfl
                        · intro a' w' hB hdep hoth K hK
                          obtain ⟨vg, gg, eg⟩ := hdep ⟨18, .guard⟩ (by simp) rfl
                          have gg := gg 109 rfl (by simp)
                          obtain rfl : vg = .bool false := eg
                          rw [guard_is rfl rfl gg]
                          rw [if_pos (by decide)]
                          have hbw : Below W8.heap.size W8 w' := (below_drewN (Below.refl _ _) 1).trans hB
                          have t3 := hoth 3 (notDst_at (by kernel_rfl))
                          simp only [List.getElem?_toArray, List.getElem?_cons_succ, List.getElem?_cons_zero] at t3
                          clear hdep hoth
                          go_simp
                          exact hK _ _ (Below.refl _ _) rfl
                        · intro a' w' hB hdep hoth K hK
                          obtain ⟨vg, gg, eg⟩ := hdep ⟨18, .guard⟩ (by simp) rfl
                          have gg := gg 109 rfl (by simp)
                          obtain rfl : vg = .bool false := eg
                          rw [guard_is rfl rfl gg]
                          rw [if_pos (by decide)]
                          have hbw : Below W8.heap.size W8 w' := (below_drewN (Below.refl _ _) 1).trans hB
                          obtain ⟨v0, p0, e0⟩ := hdep ⟨20, .data⟩ (by simp) rfl
                          have p0 := p0 111 rfl (by simp)
                          obtain rfl : v0 = .agg #[.int .i64 C.epoch, .int .i64 C.next, .slice va C.opens.length vc] := e0
                          obtain ⟨v1, p1, e1⟩ := hdep ⟨21, .data⟩ (by simp) rfl
                          have p1 := p1 112 rfl (by simp)
                          obtain rfl : v1 = .int .i64 now := e1
                          have HA' := hid (rlate_any C.epoch C.next now 0 (.slice va C.opens.length vc) C.opens w' (by have := G3.out; omega) HWF.out (R8.out.below hbw))
                          clear hdep hoth
                          unfold calls at HA'
                          go_simp
                          refine HA'.out.mono ?_
                          rintro e w'' ⟨v, rfl, ho, hb⟩
                          exact hK _ _ hb ⟨v, rfl, ho⟩
                        · intro a' w' hB hdep hoth K hK
                          obtain ⟨vg, gg, eg⟩ := hdep ⟨18, .guard⟩ (by simp) rfl
                          have gg := gg 109 rfl (by simp)
                          obtain rfl : vg = .bool false := eg
                          rw [guard_is rfl rfl gg]
                          rw [if_pos (by decide)]
                          have hbw : Below W8.heap.size W8 w' := (below_drewN (Below.refl _ _) 1).trans hB
                          obtain ⟨v0, p0, e0⟩ := hdep ⟨19, .data⟩ (by simp) rfl
                          have p0 := p0 110 rfl (by simp)
                          obtain rfl : v0 = .agg #[.int .i64 C.epoch, .int .i64 C.next, .slice sa8 (lateL ⟨C.epoch, C.next, C.opens⟩ now 0).length sc8] := e0
                          obtain ⟨v1, p1, e1⟩ := hdep ⟨22, .data⟩ (by simp) rfl
                          have p1 := p1 113 rfl (by simp)
                          obtain ⟨cv, rfl, hcv⟩ := e1
                          have HA' := rsame_any C.epoch C.next C.epoch C.next (.slice sa8 (lateL ⟨C.epoch, C.next, C.opens⟩ now 0).length sc8) cv (lateL ⟨C.epoch, C.next, C.opens⟩ now 0) (lateL ⟨C.epoch, C.next, C.opens⟩ now 0) w' (Q8.out.below hbw) hcv (by have := lateL_len2 C now; have := G3.out; omega) (by have := lateL_len2 C now; have := G3.out; omega)
                          rw [sames rfl] at HA'
                          have HA' := hid HA'
                          clear hdep hoth hcv
                          unfold calls at HA'
                          go_simp
                          refine HA'.out.mono ?_
                          rintro e w'' ⟨rfl, hb⟩
                          exact hK _ _ hb rfl
                        · intro a' w' hB hdep hoth K hK
                          obtain ⟨vg, gg, eg⟩ := hdep ⟨18, .guard⟩ (by simp) rfl
                          have gg := gg 109 rfl (by simp)
                          obtain rfl : vg = .bool false := eg
                          rw [guard_is rfl rfl gg]
                          rw [if_pos (by decide)]
                          have hbw : Below W8.heap.size W8 w' := (below_drewN (Below.refl _ _) 1).trans hB
                          obtain ⟨vx0, gx0, ex0⟩ := hdep ⟨23, .data⟩ (by simp) rfl
                          have gx0 := gx0 114 rfl (by simp)
                          obtain rfl : vx0 = .bool true := ex0
                          clear hdep hoth
                          go_simp
                          exact hK _ _ (Below.refl _ _) rfl
                        · intro a' w' hB hdep hoth K hK
                          obtain ⟨vg, gg, eg⟩ := hdep ⟨14, .guard⟩ (by simp) rfl
                          have gg := gg 105 rfl (by simp)
                          obtain rfl : vg = .bool true := eg
                          rw [guard_is rfl rfl gg]
                          rw [if_pos (by decide)]
                          have hbw : Below W8.heap.size W8 w' := (below_drewN (Below.refl _ _) 1).trans hB
                          obtain ⟨vx0, gx0, ex0⟩ := hdep ⟨18, .data⟩ (by simp) rfl
                          have gx0 := gx0 109 rfl (by simp)
                          obtain rfl : vx0 = .bool false := ex0
                          obtain ⟨vx1, gx1, ex1⟩ := hdep ⟨24, .data⟩ (by simp) rfl
                          have gx1 := gx1 115 rfl (by simp)
                          obtain rfl : vx1 = .bool false := ex1
                          clear hdep hoth
                          go_simp
                          exact hK _ _ (Below.refl _ _) rfl
                        · intro a' w' hB hdep hoth K hK
                          obtain ⟨vg, gg, eg⟩ := hdep ⟨12, .guard⟩ (by simp) rfl
                          have gg := gg 103 rfl (by simp)
                          obtain rfl : vg = .bool false := eg
                          rw [guard_is rfl rfl gg]
                          rw [if_pos (by decide)]
                          have hbw : Below W8.heap.size W8 w' := (below_drewN (Below.refl _ _) 1).trans hB
                          obtain ⟨vx0, gx0, ex0⟩ := hdep ⟨14, .data⟩ (by simp) rfl
                          have gx0 := gx0 105 rfl (by simp)
                          obtain rfl : vx0 = .bool true := ex0
                          obtain ⟨vx1, gx1, ex1⟩ := hdep ⟨25, .data⟩ (by simp) rfl
                          have gx1 := gx1 116 rfl (by simp)
                          obtain rfl : vx1 = .bool false := ex1
                          clear hdep hoth
                          go_simp
                          exact hK _ _ (Below.refl _ _) rfl
                        · intro a' w' hB hdep hoth K hK
                          rw [if_pos (guard_none rfl)]
                          have hbw : Below W8.heap.size W8 w' := (below_drewN (Below.refl _ _) 1).trans hB
                          obtain ⟨vx0, gx0, ex0⟩ := hdep ⟨12, .data⟩ (by simp) rfl
                          have gx0 := gx0 103 rfl (by simp)
                          obtain rfl : vx0 = .bool false := ex0
                          obtain ⟨vx1, gx1, ex1⟩ := hdep ⟨26, .data⟩ (by simp) rfl
                          have gx1 := gx1 117 rfl (by simp)
                          obtain rfl : vx1 = .bool false := ex1
                          clear hdep hoth
                          go_simp
                          exact hK _ _ (Below.refl _ _) rfl
                      case fin10 =>
                        intro vs W10 hB hs
                        have hbw : Below W8.heap.size W8 W10 := (below_drewN (Below.refl _ _) 1).trans hB
                        have ev : vs 27 = .bool false := hs 27 (by decide)
                        clear hs
                        simp only [actOf, dstAt, if_true, List.getElem?_toArray, List.getElem?_cons_succ, List.getElem?_cons_zero, Option.bind_some, Act.put, List.setIfInBounds_toArray, List.set_cons_zero, List.set_cons_succ, List.length_cons, List.length_nil, Nat.reduceAdd]
                        rw [ev]
                        clear ev hB
                        have HB10 := hid (HB8.out.trans (hbw.mono HB8.out.size))
                        have V10 := hid (V8.out.below hbw)
                        have N10 := hid (blk_below N8.out hbw (blk_lt N8.out))
                        have M10 := hid (blk_below M8.out hbw (blk_lt M8.out))
                        have R10 := hid (R8.out.below hbw)
                        have O10 := hid (blk_below O8.out hbw (blk_lt O8.out))
                        clear hbw
                        obtain ⟨ow, oh⟩ := old_no HRB.out B1.out B2.out HY.out
                        dsimp only at oh
                        have hno := hear_no B (C := ⟨C.epoch, C.next, C.opens⟩) (c := y.id - bf * 1048576) (k := k) (dn : Int) i now oh
                        have HNO := hid hno
                        have hld := V10.out.load
                        have k0 : W10.cell? ⟨w.heap.size + 1, 0, none⟩ = some (.int .i64 C.epoch) := blk_cell N10.out 0
                        have k1 : W10.cell? ⟨w.heap.size + 1, 1, none⟩ = some (.int .i64 C.next) := blk_cell N10.out 1
                        have k2 : W10.cell? ⟨w.heap.size + 1, 2, none⟩ = some (.slice va C.opens.length vc) := blk_cell N10.out 2
                        have kl := blk_lt N10.out
                        have o0 : W10.cell? ⟨T11, 0, none⟩ = some (.int .i64 (y.id - bf * 1048576)) := blk_cell O10.out 0
                        have o1 : W10.cell? ⟨T11, 1, none⟩ = some (.int .u8 k) := blk_cell O10.out 1
                        have o2 : W10.cell? ⟨T11, 2, none⟩ = some (.int .u8 dn) := blk_cell O10.out 2
                        have o3 : W10.cell? ⟨T11, 3, none⟩ = some (.int .i64 i) := blk_cell O10.out 3
                        have o4 : W10.cell? ⟨T11, 4, none⟩ = some (.slice sa sn sc) := blk_cell O10.out 4
                        have o5 : W10.cell? ⟨T11, 5, none⟩ = some (.bool m) := blk_cell O10.out 5
                        have ol := blk_lt O10.out
                        clear ow oh hno
                        go_wp2_with fail
                        clear k0 k1 k2 kl o0 o1 o2 o3 o4 o5 ol hld
                        refine (hear_any B bv C.epoch C.next (y.id - bf * 1048576) k i now dn (.slice va C.opens.length vc) C.opens sa sn sc m W10 V10.out.is R10.out (by have := G3.out; omega) h8 HFI.out (by have := G4.out; omega) (HA.out.below HB10.out) (HC.out.below HB10.out) (HL.out.below HB10.out)).mono ?_
                        rintro e Y11 ⟨v11, s11, rfl, hr, hs, hb⟩
                        rw [HNO.out.1] at hr
                        rw [HNO.out.2] at hs
                        obtain ⟨ra11, rc11, rfl⟩ : ∃ a c, v11 = .slice a 0 c := RecsL.len hr
                        obtain ⟨sa11, sc11, rfl⟩ := len12 hs
                        obtain ⟨W11, hW⟩ : ∃ W, W = Y11.alloc (.cells #[.int .i64 C.epoch, .int .i64 C.next, .slice sa11 C.opens.length sc11] 33) := ⟨_, rfl⟩
                        have hbz : Below Y11.heap.size Y11 W11 := by rw [hW]; exact (Below.refl _ _).alloc (Nat.le_refl _) _
                        have hbq := hb.trans (hbz.mono hb.size)
                        have HB11 := hid (HB10.out.trans (hbq.mono HB10.out.size))
                        have V11 := hid (V10.out.below hbq)
                        have N11 := hid (blk_below N10.out hbq (blk_lt N10.out))
                        have M11 := hid (blk_below M10.out hbq (blk_lt M10.out))
                        have R11 := hid (R10.out.below hbq)
                        have Q11 := hid (hs.below hbz)
                        have HW := hid hW
                        have hSA := hid (rsame_any C.epoch C.next C.epoch C.next (.slice sa11 C.opens.length sc11) (.slice va C.opens.length vc) C.opens C.opens W11 Q11.out R11.out (by have := G3.out; omega) (by have := G3.out; omega))
                        have k0 : W11.cell? ⟨w.heap.size + 1, 0, none⟩ = some (.int .i64 C.epoch) := blk_cell N11.out 0
                        have k1 : W11.cell? ⟨w.heap.size + 1, 1, none⟩ = some (.int .i64 C.next) := blk_cell N11.out 1
                        have k2 : W11.cell? ⟨w.heap.size + 1, 2, none⟩ = some (.slice va C.opens.length vc) := blk_cell N11.out 2
                        have kl := blk_lt N11.out
                        rw [hW] at k0 k1 k2 kl
                        clear hr hs hb hbz hbq hW
                        unfold calls
                        dsimp only
                        go_wp2_with fail
                        rw [← HW.out]
                        clear k0 k1 k2 kl HW
                        refine hSA.out.mono ?_
                        rintro e Y12 ⟨rfl, hb⟩
                        rw [sames rfl]
                        have HB12 := hid (HB11.out.trans (hb.mono HB11.out.size))
                        clear hb hSA
                        go_wp2_with fail
                        refine (wakes_any Y12 (HA.out.below HB12.out) (HC.out.below HB12.out) (HL.out.below HB12.out)).mono ?_
                        rintro e Ww ⟨rfl, hb⟩
                        have HBw := hid (HB12.out.trans (hb.mono HB12.out.size))
                        clear hb
                        go_wp2
                        go_ret
                        exact ⟨rfl, HBw.out⟩
                · have HLT0 := hid hlt
                  clear hlt
                  obtain ⟨ow, oh⟩ := old_no HRB.out B1.out B2.out HY.out
                  clear oh
                  obtain ⟨W6, hW6⟩ : ∃ W, W = W5.setCell ⟨T11, 0, none⟩ (.int .i64 (y.id - bf * 1048576)) := ⟨_, rfl⟩
                  have HW6 := hid hW6
                  rw [HW5.out] at hW6
                  have hb6 : Below W3.heap.size W3 W6 := by rw [HW6.out]; exact HBQ5.out.setCell (p := ⟨T11, 0, none⟩) HT3.out _
                  have HB6 := hid (HB3.out.trans (hb6.mono HB3.out.size))
                  have V6 := hid (V3.out.below hb6)
                  have N6 := hid (blk_below N3.out hb6 (blk_lt N3.out))
                  have M6 := hid (blk_below M3.out hb6 (blk_lt M3.out))
                  have R6 := hid (R3.out.below hb6)
                  have O6 := hid (show W6.heap[T11]? = some (.cells #[.int .i64 (y.id - bf * 1048576), .int .u8 k, .int .u8 dn, .int .i64 i, .slice sa sn sc, .bool m] 36) by rw [HW6.out]; simpa using blk_set O5.out 0 (.int .i64 (y.id - bf * 1048576)))
                  have Y6 := hid (show W6.heap[T12]? = some (.cells #[.int .i64 y.id, .int .u8 y.kind, .int .i64 y.key, .int .i64 y.sent] 40) by rw [HW6.out]; exact blk_other Y5.out (p := ⟨T11, 0, none⟩) (by have := HT12.out; simp; omega) _)
                  have HW6' := hid hW6
                  go_upto_region 7 with (fail)
                  rw [ow, ← HW6'.out]
                  clear HW5 HW6 HW6' hW6 ow hb6 y0 yl u0 ul o0
                  refine wp_region_cut 13 1 (fun _ => True) (by kernel_rfl) (by kernel_rfl) (by kernel_rfl) ?_
                  simp only [List.take_succ_cons, List.take_zero]
                  refine wpAnyH_grownD (w0 := W6.drew) (spL _) (relD [] (KeptT 30) [] KeptE) (aliveD []) (ancD []) (spD (n := 13) (m := 13) (l := [fun z _ => z = (.agg bv), fun z _ => z = .agg #[.int .i64 C.epoch, .int .i64 C.next, .slice va C.opens.length vc], fun z _ => z = .pointer (some ⟨w.heap.size + 1 + 1, 0, none⟩), fun z _ => z = .int .i64 c, CloseR C.epoch C.next (keptL ⟨C.epoch, C.next, C.opens⟩ (fun x => x.id != c)), fun z _ => z = .agg #[.int .i64 c, .int .u8 k, .int .u8 dn, .int .i64 i, .slice sa sn sc, .bool m], fun z _ => z = .int .i64 now, HearT C.epoch C.next [] (keptL ⟨C.epoch, C.next, C.opens⟩ (fun x => x.id != c)), HearT C.epoch C.next [] (keptL ⟨C.epoch, C.next, C.opens⟩ (fun x => x.id != c)), RecsT [], CloseR C.epoch C.next (keptL ⟨C.epoch, C.next, C.opens⟩ (fun x => x.id != c)), NewCalls W6, RecsT []]) (apps := []) (stab := []) (appsE := []) (stabE := []) ⟨stays_eq _, stays_eq _, stays_eq _, stays_eq _, stays_closeR _ _ _, stays_eq _, stays_eq _, stays_hearT _ _ _ _, stays_hearT _ _ _ _, stays_recsT _, stays_closeR _ _ _, stays_newCalls _, stays_recsT _, trivial⟩ trivial trivial rfl (by decide) (by decide)) (by kernel_rfl) (by kernel_rfl) (by kernel_rfl) (by kernel_rfl) ?steps7 ?fin7 rfl
                  case steps7 =>
                    refine ⟨?_, ?_, ?_, ?_, ?_, ?_, ?_, ?_, ?_, ?_, ?_, ?_, ?_, trivial⟩
                    · intro a' w' hB hdep hoth K hK
                      have hK := growB hB hK
                      rw [if_pos (guard_none rfl)]
                      have hbw : Below W6.heap.size W6 w' := (below_drewN (Below.refl _ _) 1).trans hB
                      have t5 := hoth 5 (notDst_at (by kernel_rfl))
                      simp only [List.getElem?_toArray, List.getElem?_cons_succ, List.getElem?_cons_zero] at t5
                      have hld := (V6.out.below hbw).load
                      clear hdep hoth
                      go_simp
                      exact hK _ _ (Below.refl _ _) rfl
                    · intro a' w' hB hdep hoth K hK
                      have hK := growB hB hK
                      rw [if_pos (guard_none rfl)]
                      have hbw : Below W6.heap.size W6 w' := (below_drewN (Below.refl _ _) 1).trans hB
                      have t6 := hoth 6 (notDst_at (by kernel_rfl))
                      simp only [List.getElem?_toArray, List.getElem?_cons_succ, List.getElem?_cons_zero] at t6
                      have hcl := blk_below N6.out hbw (blk_lt N6.out)
                      have q0 : w'.cell? ⟨w.heap.size + 1, 0, none⟩ = some (.int .i64 C.epoch) := blk_cell hcl 0
                      have q1 : w'.cell? ⟨w.heap.size + 1, 1, none⟩ = some (.int .i64 C.next) := blk_cell hcl 1
                      have q2 : w'.cell? ⟨w.heap.size + 1, 2, none⟩ = some (.slice va C.opens.length vc) := blk_cell hcl 2
                      have lq := blk_lt hcl
                      clear hcl
                      clear hdep hoth
                      go_simp
                      exact hK _ _ (Below.refl _ _) rfl
                    · intro a' w' hB hdep hoth K hK
                      have hK := growB hB hK
                      rw [if_pos (guard_none rfl)]
                      have hbw : Below W6.heap.size W6 w' := (below_drewN (Below.refl _ _) 1).trans hB
                      have t7 := hoth 7 (notDst_at (by kernel_rfl))
                      simp only [List.getElem?_toArray, List.getElem?_cons_succ, List.getElem?_cons_zero] at t7
                      clear hdep hoth
                      go_simp
                      exact hK _ _ (Below.refl _ _) rfl
                    · intro a' w' hB hdep hoth K hK
                      have hK := growB hB hK
                      rw [if_pos (guard_none rfl)]
                      have hbw : Below W6.heap.size W6 w' := (below_drewN (Below.refl _ _) 1).trans hB
                      obtain ⟨vx0, gx0, ex0⟩ := hdep ⟨2, .data⟩ (by simp) rfl
                      have gx0 := gx0 65 rfl (by simp)
                      obtain rfl : vx0 = .pointer (some ⟨w.heap.size + 1 + 1, 0, none⟩) := ex0
                      have htl := blk_below M6.out hbw (blk_lt M6.out)
                      have r0 : w'.cell? ⟨w.heap.size + 1 + 1, 0, none⟩ = some (.int .i64 c) := blk_cell htl 0
                      have lr := blk_lt htl
                      clear htl
                      clear hdep hoth
                      go_simp
                      exact hK _ _ (Below.refl _ _) rfl
                    · intro a' w' hB hdep hoth K hK
                      have hK := growB hB hK
                      rw [if_pos (guard_none rfl)]
                      have hbw : Below W6.heap.size W6 w' := (below_drewN (Below.refl _ _) 1).trans hB
                      obtain ⟨v0, p0, e0⟩ := hdep ⟨1, .data⟩ (by simp) rfl
                      have p0 := p0 64 rfl (by simp)
                      obtain rfl : v0 = .agg #[.int .i64 C.epoch, .int .i64 C.next, .slice va C.opens.length vc] := e0
                      obtain ⟨v1, p1, e1⟩ := hdep ⟨3, .data⟩ (by simp) rfl
                      have p1 := p1 66 rfl (by simp)
                      obtain rfl : v1 = .int .i64 c := e1
                      have HA' := hid (rclose_any C.epoch C.next c (.slice va C.opens.length vc) C.opens w' (by have := G3.out; omega) HWF.out (R6.out.below hbw))
                      clear hdep hoth
                      unfold calls at HA'
                      go_simp
                      refine HA'.out.mono ?_
                      rintro e w'' ⟨v, rfl, ho, hb⟩
                      exact hK _ _ hb ⟨v, rfl, ho⟩
                    · intro a' w' hB hdep hoth K hK
                      have hK := growB hB hK
                      rw [if_pos (guard_none rfl)]
                      have hbw : Below W6.heap.size W6 w' := (below_drewN (Below.refl _ _) 1).trans hB
                      have t7 := hoth 7 (notDst_at (by kernel_rfl))
                      simp only [List.getElem?_toArray, List.getElem?_cons_succ, List.getElem?_cons_zero] at t7
                      have htl := blk_below M6.out hbw (blk_lt M6.out)
                      have r0 : w'.cell? ⟨w.heap.size + 1 + 1, 0, none⟩ = some (.int .i64 c) := blk_cell htl 0
                      have r1 : w'.cell? ⟨w.heap.size + 1 + 1, 1, none⟩ = some (.int .u8 k) := blk_cell htl 1
                      have r2 : w'.cell? ⟨w.heap.size + 1 + 1, 2, none⟩ = some (.int .u8 dn) := blk_cell htl 2
                      have r3 : w'.cell? ⟨w.heap.size + 1 + 1, 3, none⟩ = some (.int .i64 i) := blk_cell htl 3
                      have r4 : w'.cell? ⟨w.heap.size + 1 + 1, 4, none⟩ = some (.slice sa sn sc) := blk_cell htl 4
                      have r5 : w'.cell? ⟨w.heap.size + 1 + 1, 5, none⟩ = some (.bool m) := blk_cell htl 5
                      have lr := blk_lt htl
                      clear htl
                      clear hdep hoth
                      go_simp
                      exact hK _ _ (Below.refl _ _) rfl
                    · intro a' w' hB hdep hoth K hK
                      have hK := growB hB hK
                      rw [if_pos (guard_none rfl)]
                      have hbw : Below W6.heap.size W6 w' := (below_drewN (Below.refl _ _) 1).trans hB
                      have t3 := hoth 3 (notDst_at (by kernel_rfl))
                      simp only [List.getElem?_toArray, List.getElem?_cons_succ, List.getElem?_cons_zero] at t3
                      clear hdep hoth
                      go_simp
                      exact hK _ _ (Below.refl _ _) rfl
                    · intro a' w' hB hdep hoth K hK
                      have hK := growB hB hK
                      rw [if_pos (guard_none rfl)]
                      have hbw : Below W6.heap.size W6 w' := (below_drewN (Below.refl _ _) 1).trans hB
                      obtain ⟨v0, p0, e0⟩ := hdep ⟨0, .data⟩ (by simp) rfl
                      have p0 := p0 63 rfl (by simp)
                      obtain rfl : v0 = .agg bv := e0
                      obtain ⟨v1, p1, e1⟩ := hdep ⟨4, .data⟩ (by simp) rfl
                      have p1 := p1 67 rfl (by simp)
                      obtain ⟨cv, rfl, hcv⟩ := e1
                      obtain ⟨v2, p2, e2⟩ := hdep ⟨5, .data⟩ (by simp) rfl
                      have p2 := p2 68 rfl (by simp)
                      obtain rfl : v2 = .agg #[.int .i64 c, .int .u8 k, .int .u8 dn, .int .i64 i, .slice sa sn sc, .bool m] := e2
                      obtain ⟨v3, p3, e3⟩ := hdep ⟨6, .data⟩ (by simp) rfl
                      have p3 := p3 69 rfl (by simp)
                      obtain rfl : v3 = .int .i64 now := e3
                      have HA' := hid (hear_any B bv C.epoch C.next c k i now dn cv ((keptL ⟨C.epoch, C.next, C.opens⟩ (fun x => x.id != c))) sa sn sc m w' (V6.out.below hbw).is hcv (by have := keptL_len2 C c; have := G3.out; omega) h8 HFI.out (by have := G4.out; omega) (HA.out.below (HB6.out.trans (hbw.mono HB6.out.size))) (HC.out.below (HB6.out.trans (hbw.mono HB6.out.size))) (HL.out.below (HB6.out.trans (hbw.mono HB6.out.size))))
                      clear hdep hoth hcv
                      unfold tellT at HA'
                      go_simp
                      refine HA'.out.mono ?_
                      rintro e w'' ⟨v, s', rfl, hr, hs, hb⟩
                      have hno := hear_no B (C := ⟨C.epoch, C.next, (keptL ⟨C.epoch, C.next, C.opens⟩ (fun x => x.id != c))⟩) (c := c) (k := k) (dn : Int) i now (closed_no HRB.out c)
                      rw [hno.1] at hr
                      rw [hno.2] at hs
                      exact hK _ _ hb ⟨v, s', rfl, hr, hs⟩
                    · intro a' w' hB hdep hoth K hK
                      have hK := growB hB hK
                      rw [if_pos (guard_none rfl)]
                      have hbw : Below W6.heap.size W6 w' := (below_drewN (Below.refl _ _) 1).trans hB
                      obtain ⟨v0, p0, e0⟩ := hdep ⟨7, .data⟩ (by simp) rfl
                      have p0 := p0 70 rfl (by simp)
                      obtain ⟨v, s', rfl, e1, e2⟩ := e0
                      clear hdep hoth
                      go_simp
                      exact hK _ _ (Below.refl _ _) ⟨v, s', rfl, e1, e2⟩
                    · intro a' w' hB hdep hoth K hK
                      have hK := growB hB hK
                      rw [if_pos (guard_none rfl)]
                      have hbw : Below W6.heap.size W6 w' := (below_drewN (Below.refl _ _) 1).trans hB
                      obtain ⟨v0, p0, e0⟩ := hdep ⟨8, .data⟩ (by simp) rfl
                      have p0 := p0 62 rfl (by simp)
                      obtain ⟨v, s', rfl, e1, e2⟩ := e0
                      have E1 := hid e1
                      clear e1 e2
                      clear hdep hoth
                      go_simp
                      exact hK _ _ (Below.refl _ _) E1.out
                    · intro a' w' hB hdep hoth K hK
                      have hK := growB hB hK
                      rw [if_pos (guard_none rfl)]
                      have hbw : Below W6.heap.size W6 w' := (below_drewN (Below.refl _ _) 1).trans hB
                      obtain ⟨v0, p0, e0⟩ := hdep ⟨8, .data⟩ (by simp) rfl
                      have p0 := p0 62 rfl (by simp)
                      obtain ⟨v, s', rfl, e1, e2⟩ := e0
                      have E2 := hid e2
                      clear e1 e2
                      clear hdep hoth
                      go_simp
                      exact hK _ _ (Below.refl _ _) ⟨s', rfl, E2.out⟩
                    · intro a' w' hB hdep hoth K hK
                      have hK := growB hB hK
                      rw [if_pos (guard_none rfl)]
                      have hbw : Below W6.heap.size W6 w' := (below_drewN (Below.refl _ _) 1).trans hB
                      clear hdep hoth
                      go_simp
                      exact hK _ _ ((Below.refl _ _).alloc (Nat.le_refl _) _) ⟨w'.heap.size, rfl, hbw.size, heap_new w' _⟩
                    · intro a' w' hB hdep hoth K hK
                      have hK := growB hB hK
                      rw [if_pos (guard_none rfl)]
                      have hbw : Below W6.heap.size W6 w' := (below_drewN (Below.refl _ _) 1).trans hB
                      obtain ⟨v0, p0, e0⟩ := hdep ⟨9, .data⟩ (by simp) rfl
                      have p0 := p0 71 rfl (by simp)
                      have E1 := hid (show RecsL w' [] v0 from e0)
                      clear e0
                      clear hdep hoth
                      go_simp
                      exact hK _ _ (Below.refl _ _) E1.out
                  case fin7 =>
                    intro vs w' hB hs
                    have hbw : Below W6.heap.size W6 w' := (below_drewN (Below.refl _ _) 1).trans hB
                    have er : RecsL w' [] (vs 12) := hs 12 (by decide) (by decide)
                    obtain ⟨sv7, ec, hcr⟩ := hs 10 (by decide) (by decide)
                    obtain ⟨T15, ea, hT, hz⟩ := hs 11 (by decide) (by decide)
                    clear hs
                    refine cutQ_held (fun _ => True) (fun f => ?_)
                    simp only [actOf, dstAt, if_true, List.getElem?_toArray, List.getElem?_cons_succ, List.getElem?_cons_zero, Option.bind_some, Act.put, List.setIfInBounds_toArray, List.set_cons_zero, List.set_cons_succ, List.length_cons, List.length_nil, Nat.reduceAdd]
                    rw [ec, ea]
                    obtain ⟨ra7, rc7, hrv⟩ : ∃ a c, vs 12 = .slice a 0 c := RecsL.len er
                    rw [hrv]
                    obtain ⟨sa7, sc7, rfl⟩ := len12 hcr
                    have z0 := blk_cell hz 0
                    have z1 := blk_cell hz 1
                    have z2 := blk_cell hz 2
                    have zf := blk_free hz
                    have zl := blk_lt hz
                    simp only [List.getElem?_toArray, List.getElem?_cons_zero, List.getElem?_cons_succ] at z0 z1 z2
                    have HZ := hid hz
                    have HCR := hid hcr
                    have HT' := hid hT
                    have HBW := hid hbw
                    clear hz hcr hT er hrv hB hbw
                    unfold calls
                    refine wpAnyH_ready (rs := [13]) (by kernel_rfl) (by simp) ?_
                    refine AllReadyH.cons rfl (fun K hK => ?_) AllReadyH.nil
                    go_simp
                    refine hK.out _ _ trivial (fun _ => ?_)
                    clear hK K
                    refine wpAnyH_done (by kernel_rfl) ?_ _
                    refine wp_namedQ' (fun W7 hX => ?_)
                    have D7 := hid (set3 HZ.out (.int .i64 C.epoch) (.int .i64 C.next) (.slice sa7 (keptL ⟨C.epoch, C.next, C.opens⟩ (fun x => x.id != c)).length sc7))
                    have Q7 := hid (set_row12 (set_row12 (set_row12 HCR.out HZ.out (by decide) 0 (.int .i64 C.epoch)) (blk_set HZ.out 0 _) (by simp) 1 (.int .i64 C.next)) (blk_set (blk_set HZ.out 0 _) 1 _) (by simp) 2 (.slice sa7 (keptL ⟨C.epoch, C.next, C.opens⟩ (fun x => x.id != c)).length sc7))
                    have hbq : Below W6.heap.size W6 W7 := by
                      rw [hX]
                      exact ((HBW.out.setCell (p := ⟨T15, 0, none⟩) HT'.out _).setCell (p := ⟨T15, 1, none⟩) HT'.out _).setCell (p := ⟨T15, 2, none⟩) HT'.out _
                    rw [← hX] at D7 Q7
                    clear hX z0 z1 z2 zf zl HZ HCR HT' HBW ec ea
                    have HB7 := hid (HB6.out.trans (hbq.mono HB6.out.size))
                    have V7 := hid (V6.out.below hbq)
                    have N7 := hid (blk_below N6.out hbq (blk_lt N6.out))
                    have M7 := hid (blk_below M6.out hbq (blk_lt M6.out))
                    have R7 := hid (R6.out.below hbq)
                    have O7 := hid (blk_below O6.out hbq (blk_lt O6.out))
                    have Y7 := hid (blk_below Y6.out hbq (blk_lt Y6.out))
                    clear hbq
                    go_upto_region 8 with (fail)
                    obtain ⟨HL2, hHL⟩ : ∃ l, hearL B ⟨C.epoch, C.next, (lateL ⟨C.epoch, C.next, C.opens⟩ now 0)⟩ c k dn i now = l := ⟨_, rfl⟩
                    obtain ⟨HC2, hHC⟩ : ∃ l, hearC ⟨C.epoch, C.next, (lateL ⟨C.epoch, C.next, C.opens⟩ now 0)⟩ c k = l := ⟨_, rfl⟩
                    have HHL := hid hHL
                    have HHC := hid hHC
                    clear hHL hHC
                    refine wp_region_cut 12 1 (fun _ => True) (by kernel_rfl) (by kernel_rfl) (by kernel_rfl) ?_
                    simp only [List.take_succ_cons, List.take_zero]
                    refine wpAnyH_grownD (w0 := W7.drew) (spL _) (relD [] (KeptT 30) [] KeptE) (aliveD []) (ancD []) (spD (n := 12) (m := 12) (l := [fun z _ => z = (.agg bv), fun z _ => z = .agg #[.int .i64 C.epoch, .int .i64 C.next, .slice va C.opens.length vc], fun z _ => z = .int .i64 now, CloseR C.epoch C.next (lateL ⟨C.epoch, C.next, C.opens⟩ now 0), fun z _ => z = .agg #[.int .i64 c, .int .u8 k, .int .u8 dn, .int .i64 i, .slice sa sn sc, .bool m], fun z _ => z = .int .i64 now, HearT C.epoch C.next HL2 HC2, HearT C.epoch C.next HL2 HC2, RecsT HL2, CloseR C.epoch C.next HC2, NewCalls W7, RecsT HL2]) (apps := []) (stab := []) (appsE := []) (stabE := []) ⟨stays_eq _, stays_eq _, stays_eq _, stays_closeR _ _ _, stays_eq _, stays_eq _, stays_hearT _ _ _ _, stays_hearT _ _ _ _, stays_recsT _, stays_closeR _ _ _, stays_newCalls _, stays_recsT _, trivial⟩ trivial trivial rfl (by decide) (by decide)) (by kernel_rfl) (by kernel_rfl) (by kernel_rfl) (by kernel_rfl) ?steps8 ?fin8 rfl
                    case steps8 =>
                      refine ⟨?_, ?_, ?_, ?_, ?_, ?_, ?_, ?_, ?_, ?_, ?_, ?_, trivial⟩
                      · intro a' w' hB hdep hoth K hK
                        have hK := growB hB hK
                        rw [if_pos (guard_none rfl)]
                        have hbw : Below W7.heap.size W7 w' := (below_drewN (Below.refl _ _) 1).trans hB
                        have t5 := hoth 5 (notDst_at (by kernel_rfl))
                        simp only [List.getElem?_toArray, List.getElem?_cons_succ, List.getElem?_cons_zero] at t5
                        have hld := (V7.out.below hbw).load
                        clear hdep hoth
                        go_simp
                        exact hK _ _ (Below.refl _ _) rfl
                      · intro a' w' hB hdep hoth K hK
                        have hK := growB hB hK
                        rw [if_pos (guard_none rfl)]
                        have hbw : Below W7.heap.size W7 w' := (below_drewN (Below.refl _ _) 1).trans hB
                        have t6 := hoth 6 (notDst_at (by kernel_rfl))
                        simp only [List.getElem?_toArray, List.getElem?_cons_succ, List.getElem?_cons_zero] at t6
                        have hcl := blk_below N7.out hbw (blk_lt N7.out)
                        have q0 : w'.cell? ⟨w.heap.size + 1, 0, none⟩ = some (.int .i64 C.epoch) := blk_cell hcl 0
                        have q1 : w'.cell? ⟨w.heap.size + 1, 1, none⟩ = some (.int .i64 C.next) := blk_cell hcl 1
                        have q2 : w'.cell? ⟨w.heap.size + 1, 2, none⟩ = some (.slice va C.opens.length vc) := blk_cell hcl 2
                        have lq := blk_lt hcl
                        clear hcl
                        clear hdep hoth
                        go_simp
                        exact hK _ _ (Below.refl _ _) rfl
                      · intro a' w' hB hdep hoth K hK
                        have hK := growB hB hK
                        rw [if_pos (guard_none rfl)]
                        have hbw : Below W7.heap.size W7 w' := (below_drewN (Below.refl _ _) 1).trans hB
                        have t3 := hoth 3 (notDst_at (by kernel_rfl))
                        simp only [List.getElem?_toArray, List.getElem?_cons_succ, List.getElem?_cons_zero] at t3
                        clear hdep hoth
                        go_simp
                        exact hK _ _ (Below.refl _ _) rfl
                      · intro a' w' hB hdep hoth K hK
                        have hK := growB hB hK
                        rw [if_pos (guard_none rfl)]
                        have hbw : Below W7.heap.size W7 w' := (below_drewN (Below.refl _ _) 1).trans hB
                        obtain ⟨v0, p0, e0⟩ := hdep ⟨1, .data⟩ (by simp) rfl
                        have p0 := p0 75 rfl (by simp)
                        obtain rfl : v0 = .agg #[.int .i64 C.epoch, .int .i64 C.next, .slice va C.opens.length vc] := e0
                        obtain ⟨v1, p1, e1⟩ := hdep ⟨2, .data⟩ (by simp) rfl
                        have p1 := p1 76 rfl (by simp)
                        obtain rfl : v1 = .int .i64 now := e1
                        have HA' := hid (rlate_any C.epoch C.next now 0 (.slice va C.opens.length vc) C.opens w' (by have := G3.out; omega) HWF.out (R7.out.below hbw))
                        clear hdep hoth
                        unfold calls at HA'
                        go_simp
                        refine HA'.out.mono ?_
                        rintro e w'' ⟨v, rfl, ho, hb⟩
                        exact hK _ _ hb ⟨v, rfl, ho⟩
                      · intro a' w' hB hdep hoth K hK
                        have hK := growB hB hK
                        rw [if_pos (guard_none rfl)]
                        have hbw : Below W7.heap.size W7 w' := (below_drewN (Below.refl _ _) 1).trans hB
                        have t7 := hoth 7 (notDst_at (by kernel_rfl))
                        simp only [List.getElem?_toArray, List.getElem?_cons_succ, List.getElem?_cons_zero] at t7
                        have htl := blk_below M7.out hbw (blk_lt M7.out)
                        have r0 : w'.cell? ⟨w.heap.size + 1 + 1, 0, none⟩ = some (.int .i64 c) := blk_cell htl 0
                        have r1 : w'.cell? ⟨w.heap.size + 1 + 1, 1, none⟩ = some (.int .u8 k) := blk_cell htl 1
                        have r2 : w'.cell? ⟨w.heap.size + 1 + 1, 2, none⟩ = some (.int .u8 dn) := blk_cell htl 2
                        have r3 : w'.cell? ⟨w.heap.size + 1 + 1, 3, none⟩ = some (.int .i64 i) := blk_cell htl 3
                        have r4 : w'.cell? ⟨w.heap.size + 1 + 1, 4, none⟩ = some (.slice sa sn sc) := blk_cell htl 4
                        have r5 : w'.cell? ⟨w.heap.size + 1 + 1, 5, none⟩ = some (.bool m) := blk_cell htl 5
                        have lr := blk_lt htl
                        clear htl
                        clear hdep hoth
                        go_simp
                        exact hK _ _ (Below.refl _ _) rfl
                      · intro a' w' hB hdep hoth K hK
                        have hK := growB hB hK
                        rw [if_pos (guard_none rfl)]
                        have hbw : Below W7.heap.size W7 w' := (below_drewN (Below.refl _ _) 1).trans hB
                        have t3 := hoth 3 (notDst_at (by kernel_rfl))
                        simp only [List.getElem?_toArray, List.getElem?_cons_succ, List.getElem?_cons_zero] at t3
                        clear hdep hoth
                        go_simp
                        exact hK _ _ (Below.refl _ _) rfl
                      · intro a' w' hB hdep hoth K hK
                        have hK := growB hB hK
                        rw [if_pos (guard_none rfl)]
                        have hbw : Below W7.heap.size W7 w' := (below_drewN (Below.refl _ _) 1).trans hB
                        obtain ⟨v0, p0, e0⟩ := hdep ⟨0, .data⟩ (by simp) rfl
                        have p0 := p0 74 rfl (by simp)
                        obtain rfl : v0 = .agg bv := e0
                        obtain ⟨v1, p1, e1⟩ := hdep ⟨3, .data⟩ (by simp) rfl
                        have p1 := p1 77 rfl (by simp)
                        obtain ⟨cv, rfl, hcv⟩ := e1
                        obtain ⟨v2, p2, e2⟩ := hdep ⟨4, .data⟩ (by simp) rfl
                        have p2 := p2 78 rfl (by simp)
                        obtain rfl : v2 = .agg #[.int .i64 c, .int .u8 k, .int .u8 dn, .int .i64 i, .slice sa sn sc, .bool m] := e2
                        obtain ⟨v3, p3, e3⟩ := hdep ⟨5, .data⟩ (by simp) rfl
                        have p3 := p3 79 rfl (by simp)
                        obtain rfl : v3 = .int .i64 now := e3
                        have HA' := hid (hear_any B bv C.epoch C.next c k i now dn cv ((lateL ⟨C.epoch, C.next, C.opens⟩ now 0)) sa sn sc m w' (V7.out.below hbw).is hcv (by have := lateL_len2 C now; have := G3.out; omega) h8 HFI.out (by have := G4.out; omega) (HA.out.below (HB7.out.trans (hbw.mono HB7.out.size))) (HC.out.below (HB7.out.trans (hbw.mono HB7.out.size))) (HL.out.below (HB7.out.trans (hbw.mono HB7.out.size))))
                        clear hdep hoth hcv
                        unfold tellT at HA'
                        go_simp
                        refine HA'.out.mono ?_
                        rintro e w'' ⟨v, s', rfl, hr, hs, hb⟩
                        rw [HHL.out] at hr
                        rw [HHC.out] at hs
                        exact hK _ _ hb ⟨v, s', rfl, hr, hs⟩
                      · intro a' w' hB hdep hoth K hK
                        have hK := growB hB hK
                        rw [if_pos (guard_none rfl)]
                        have hbw : Below W7.heap.size W7 w' := (below_drewN (Below.refl _ _) 1).trans hB
                        obtain ⟨v0, p0, e0⟩ := hdep ⟨6, .data⟩ (by simp) rfl
                        have p0 := p0 80 rfl (by simp)
                        obtain ⟨v, s', rfl, e1, e2⟩ := e0
                        clear hdep hoth
                        go_simp
                        exact hK _ _ (Below.refl _ _) ⟨v, s', rfl, e1, e2⟩
                      · intro a' w' hB hdep hoth K hK
                        have hK := growB hB hK
                        rw [if_pos (guard_none rfl)]
                        have hbw : Below W7.heap.size W7 w' := (below_drewN (Below.refl _ _) 1).trans hB
                        obtain ⟨v0, p0, e0⟩ := hdep ⟨7, .data⟩ (by simp) rfl
                        have p0 := p0 73 rfl (by simp)
                        obtain ⟨v, s', rfl, e1, e2⟩ := e0
                        have E1 := hid e1
                        clear e1 e2
                        clear hdep hoth
                        go_simp
                        exact hK _ _ (Below.refl _ _) E1.out
                      · intro a' w' hB hdep hoth K hK
                        have hK := growB hB hK
                        rw [if_pos (guard_none rfl)]
                        have hbw : Below W7.heap.size W7 w' := (below_drewN (Below.refl _ _) 1).trans hB
                        obtain ⟨v0, p0, e0⟩ := hdep ⟨7, .data⟩ (by simp) rfl
                        have p0 := p0 73 rfl (by simp)
                        obtain ⟨v, s', rfl, e1, e2⟩ := e0
                        have E2 := hid e2
                        clear e1 e2
                        clear hdep hoth
                        go_simp
                        exact hK _ _ (Below.refl _ _) ⟨s', rfl, E2.out⟩
                      · intro a' w' hB hdep hoth K hK
                        have hK := growB hB hK
                        rw [if_pos (guard_none rfl)]
                        have hbw : Below W7.heap.size W7 w' := (below_drewN (Below.refl _ _) 1).trans hB
                        clear hdep hoth
                        go_simp
                        exact hK _ _ ((Below.refl _ _).alloc (Nat.le_refl _) _) ⟨w'.heap.size, rfl, hbw.size, heap_new w' _⟩
                      · intro a' w' hB hdep hoth K hK
                        have hK := growB hB hK
                        rw [if_pos (guard_none rfl)]
                        have hbw : Below W7.heap.size W7 w' := (below_drewN (Below.refl _ _) 1).trans hB
                        obtain ⟨v0, p0, e0⟩ := hdep ⟨8, .data⟩ (by simp) rfl
                        have p0 := p0 81 rfl (by simp)
                        have E1 := hid (show RecsL w' HL2 v0 from e0)
                        clear e0
                        clear hdep hoth
                        go_simp
                        exact hK _ _ (Below.refl _ _) E1.out
                    case fin8 =>
                      intro vs w' hB hs
                      have hbw : Below W7.heap.size W7 w' := (below_drewN (Below.refl _ _) 1).trans hB
                      have er : RecsL w' HL2 (vs 11) := hs 11 (by decide) (by decide)
                      obtain ⟨sv8, ec, hcr⟩ := hs 9 (by decide) (by decide)
                      obtain ⟨T17, ea, hT, hz⟩ := hs 10 (by decide) (by decide)
                      clear hs
                      refine cutQ_held (fun _ => True) (fun f => ?_)
                      simp only [actOf, dstAt, if_true, List.getElem?_toArray, List.getElem?_cons_succ, List.getElem?_cons_zero, Option.bind_some, Act.put, List.setIfInBounds_toArray, List.set_cons_zero, List.set_cons_succ, List.length_cons, List.length_nil, Nat.reduceAdd]
                      rw [ec, ea]
                      obtain ⟨ra8, rc8, hrv⟩ : ∃ a c, vs 11 = .slice a HL2.length c := RecsL.len er
                      rw [hrv]
                      obtain ⟨sa8, sc8, rfl⟩ := len12 hcr
                      have z0 := blk_cell hz 0
                      have z1 := blk_cell hz 1
                      have z2 := blk_cell hz 2
                      have zf := blk_free hz
                      have zl := blk_lt hz
                      simp only [List.getElem?_toArray, List.getElem?_cons_zero, List.getElem?_cons_succ] at z0 z1 z2
                      have HZ := hid hz
                      have HCR := hid hcr
                      have HT' := hid hT
                      have HBW := hid hbw
                      clear hz hcr hT er hrv hB hbw
                      unfold calls
                      refine wpAnyH_ready (rs := [12]) (by kernel_rfl) (by simp) ?_
                      refine AllReadyH.cons rfl (fun K hK => ?_) AllReadyH.nil
                      go_simp
                      refine hK.out _ _ trivial (fun _ => ?_)
                      clear hK K
                      refine wpAnyH_done (by kernel_rfl) ?_ _
                      refine wp_namedQ' (fun W8 hX => ?_)
                      have D8 := hid (set3 HZ.out (.int .i64 C.epoch) (.int .i64 C.next) (.slice sa8 HC2.length sc8))
                      have Q8 := hid (set_row12 (set_row12 (set_row12 HCR.out HZ.out (by decide) 0 (.int .i64 C.epoch)) (blk_set HZ.out 0 _) (by simp) 1 (.int .i64 C.next)) (blk_set (blk_set HZ.out 0 _) 1 _) (by simp) 2 (.slice sa8 HC2.length sc8))
                      have hbq : Below W7.heap.size W7 W8 := by
                        rw [hX]
                        exact ((HBW.out.setCell (p := ⟨T17, 0, none⟩) HT'.out _).setCell (p := ⟨T17, 1, none⟩) HT'.out _).setCell (p := ⟨T17, 2, none⟩) HT'.out _
                      rw [← hX] at D8 Q8
                      clear hX z0 z1 z2 zf zl HZ HCR HT' HBW ec ea
                      have HB8 := hid (HB7.out.trans (hbq.mono HB7.out.size))
                      have V8 := hid (V7.out.below hbq)
                      have N8 := hid (blk_below N7.out hbq (blk_lt N7.out))
                      have M8 := hid (blk_below M7.out hbq (blk_lt M7.out))
                      have R8 := hid (R7.out.below hbq)
                      have O8 := hid (blk_below O7.out hbq (blk_lt O7.out))
                      have Y8 := hid (blk_below Y7.out hbq (blk_lt Y7.out))
                      have D7 := hid (blk_below D7.out hbq (blk_lt D7.out))
                      have Q7 := hid (Q7.out.below hbq)
                      clear hbq
                      have y3 : W8.cell? ⟨T12, 3, none⟩ = some (.int .i64 y.sent) := blk_cell Y8.out 3
                      have yl := blk_lt Y8.out
                      have d6 : decide (y.sent ≤ now) = false := decide_eq_false HLT0.out
                      go_upto_region 10 with (fail)
                      clear y3 yl
                      refine wp_region_held_drew (S := fun _ => True) (by kernel_rfl) trivial (fun _ => ?_)
                      refine wpAnyH_grownG (w0 := W8.drew) (spL [fun z _ => z = .slice ra7 0 rc7, fun z _ => z = .int .i64 0, fun z _ => z = .bool false, fun z _ => z = .bool false, fun z _ => z = .agg #[.int .i64 C.epoch, .int .i64 C.next, .slice sa7 (keptL ⟨C.epoch, C.next, C.opens⟩ (fun x => x.id != c)).length sc7], fun z _ => z = .agg #[.int .i64 C.epoch, .int .i64 C.next, .slice va C.opens.length vc], fun z _ => z = .pointer (some ⟨w.heap.size + 1 + 1, 0, none⟩), fun z _ => z = .int .i64 c, CloseR C.epoch C.next (keptL ⟨C.epoch, C.next, C.opens⟩ (fun x => x.id != c)), fun z _ => z = .bool true, fun z _ => z = .bool false, fun z _ => z = .bool false, fun z _ => z = .bool false, fun z _ => z = .bool false, fun z _ => z = .bool false, fun z _ => z = undef, fun z _ => z = undef, fun z _ => z = undef, fun z _ => z = undef, fun z _ => z = undef, fun z _ => z = undef, fun z _ => z = undef, fun z _ => z = undef, fun z _ => z = undef, fun z _ => z = undef, fun z _ => z = undef, fun z _ => z = .bool false, fun z _ => z = .bool false]) (spL_stays ⟨stays_eq _, stays_eq _, stays_eq _, stays_eq _, stays_eq _, stays_eq _, stays_eq _, stays_eq _, stays_closeR _ _ _, stays_eq _, stays_eq _, stays_eq _, stays_eq _, stays_eq _, stays_eq _, stays_eq _, stays_eq _, stays_eq _, stays_eq _, stays_eq _, stays_eq _, stays_eq _, stays_eq _, stays_eq _, stays_eq _, stays_eq _, stays_eq _, stays_eq _, trivial⟩) (by kernel_rfl) (by kernel_rfl) ?steps10 ?fin10 rfl
                      case steps10 =>
                        refine ⟨?_, ?_, ?_, ?_, ?_, ?_, ?_, ?_, ?_, ?_, ?_, ?_, ?_, ?_, ?_, ?_, ?_, ?_, ?_, ?_, ?_, ?_, ?_, ?_, ?_, ?_, ?_, ?_, trivial⟩
                        · intro a' w' hB hdep hoth K hK
                          rw [if_pos (guard_none rfl)]
                          have hbw : Below W8.heap.size W8 w' := (below_drewN (Below.refl _ _) 1).trans hB
                          have t14 := hoth 14 (notDst_at (by kernel_rfl))
                          simp only [List.getElem?_toArray, List.getElem?_cons_succ, List.getElem?_cons_zero] at t14
                          clear hdep hoth
                          go_simp
                          exact hK _ _ (Below.refl _ _) rfl
                        · intro a' w' hB hdep hoth K hK
                          rw [if_pos (guard_none rfl)]
                          have hbw : Below W8.heap.size W8 w' := (below_drewN (Below.refl _ _) 1).trans hB
                          obtain ⟨vx0, gx0, ex0⟩ := hdep ⟨0, .data⟩ (by simp) rfl
                          have gx0 := gx0 91 rfl (by simp)
                          obtain rfl : vx0 = .slice ra7 0 rc7 := ex0
                          clear hdep hoth
                          go_simp
                          exact hK _ _ (Below.refl _ _) rfl
                        · intro a' w' hB hdep hoth K hK
                          rw [if_pos (guard_none rfl)]
                          have hbw : Below W8.heap.size W8 w' := (below_drewN (Below.refl _ _) 1).trans hB
                          obtain ⟨vx0, gx0, ex0⟩ := hdep ⟨1, .data⟩ (by simp) rfl
                          have gx0 := gx0 92 rfl (by simp)
                          obtain rfl : vx0 = .int .i64 0 := ex0
                          clear hdep hoth
                          go_simp
                          exact hK _ _ (Below.refl _ _) rfl
                        · intro a' w' hB hdep hoth K hK
                          rw [if_pos (guard_none rfl)]
                          have hbw : Below W8.heap.size W8 w' := (below_drewN (Below.refl _ _) 1).trans hB
                          obtain ⟨vx0, gx0, ex0⟩ := hdep ⟨2, .data⟩ (by simp) rfl
                          have gx0 := gx0 93 rfl (by simp)
                          obtain rfl : vx0 = .bool false := ex0
                          clear hdep hoth
                          go_simp
                          exact hK _ _ (Below.refl _ _) rfl
                        · intro a' w' hB hdep hoth K hK
                          obtain ⟨vg, gg, eg⟩ := hdep ⟨3, .guard⟩ (by simp) rfl
                          have gg := gg 94 rfl (by simp)
                          obtain rfl : vg = .bool false := eg
                          rw [guard_is rfl rfl gg]
                          rw [if_pos (by decide)]
                          have hbw : Below W8.heap.size W8 w' := (below_drewN (Below.refl _ _) 1).trans hB
                          have t15 := hoth 15 (notDst_at (by kernel_rfl))
                          simp only [List.getElem?_toArray, List.getElem?_cons_succ, List.getElem?_cons_zero] at t15
                          have hcl := blk_below D7.out hbw (blk_lt D7.out)
                          have q0 : w'.cell? ⟨T15, 0, none⟩ = some (.int .i64 C.epoch) := blk_cell hcl 0
                          have q1 : w'.cell? ⟨T15, 1, none⟩ = some (.int .i64 C.next) := blk_cell hcl 1
                          have q2 : w'.cell? ⟨T15, 2, none⟩ = some (.slice sa7 (keptL ⟨C.epoch, C.next, C.opens⟩ (fun x => x.id != c)).length sc7) := blk_cell hcl 2
                          have lq := blk_lt hcl
                          clear hcl
                          clear hdep hoth
                          go_simp
                          exact hK _ _ (Below.refl _ _) rfl
                        · intro a' w' hB hdep hoth K hK
                          obtain ⟨vg, gg, eg⟩ := hdep ⟨3, .guard⟩ (by simp) rfl
                          have gg := gg 94 rfl (by simp)
                          obtain rfl : vg = .bool false := eg
                          rw [guard_is rfl rfl gg]
                          rw [if_pos (by decide)]
                          have hbw : Below W8.heap.size W8 w' := (below_drewN (Below.refl _ _) 1).trans hB
                          have t6 := hoth 6 (notDst_at (by kernel_rfl))
                          simp only [List.getElem?_toArray, List.getElem?_cons_succ, List.getElem?_cons_zero] at t6
                          have hcl := blk_below N8.out hbw (blk_lt N8.out)
                          have q0 : w'.cell? ⟨w.heap.size + 1, 0, none⟩ = some (.int .i64 C.epoch) := blk_cell hcl 0
                          have q1 : w'.cell? ⟨w.heap.size + 1, 1, none⟩ = some (.int .i64 C.next) := blk_cell hcl 1
                          have q2 : w'.cell? ⟨w.heap.size + 1, 2, none⟩ = some (.slice va C.opens.length vc) := blk_cell hcl 2
                          have lq := blk_lt hcl
                          clear hcl
                          clear hdep hoth
                          go_simp
                          exact hK _ _ (Below.refl _ _) rfl
                        · intro a' w' hB hdep hoth K hK
                          obtain ⟨vg, gg, eg⟩ := hdep ⟨3, .guard⟩ (by simp) rfl
                          have gg := gg 94 rfl (by simp)
                          obtain rfl : vg = .bool false := eg
                          rw [guard_is rfl rfl gg]
                          rw [if_pos (by decide)]
                          have hbw : Below W8.heap.size W8 w' := (below_drewN (Below.refl _ _) 1).trans hB
                          have t7 := hoth 7 (notDst_at (by kernel_rfl))
                          simp only [List.getElem?_toArray, List.getElem?_cons_succ, List.getElem?_cons_zero] at t7
                          clear hdep hoth
                          go_simp
                          exact hK _ _ (Below.refl _ _) rfl
                        · intro a' w' hB hdep hoth K hK
                          obtain ⟨vg, gg, eg⟩ := hdep ⟨3, .guard⟩ (by simp) rfl
                          have gg := gg 94 rfl (by simp)
                          obtain rfl : vg = .bool false := eg
                          rw [guard_is rfl rfl gg]
                          rw [if_pos (by decide)]
                          have hbw : Below W8.heap.size W8 w' := (below_drewN (Below.refl _ _) 1).trans hB
                          obtain ⟨vx0, gx0, ex0⟩ := hdep ⟨6, .data⟩ (by simp) rfl
                          have gx0 := gx0 97 rfl (by simp)
                          obtain rfl : vx0 = .pointer (some ⟨w.heap.size + 1 + 1, 0, none⟩) := ex0
                          have htl := blk_below M8.out hbw (blk_lt M8.out)
                          have r0 : w'.cell? ⟨w.heap.size + 1 + 1, 0, none⟩ = some (.int .i64 c) := blk_cell htl 0
                          have lr := blk_lt htl
                          clear htl
                          clear hdep hoth
                          go_simp
                          exact hK _ _ (Below.refl _ _) rfl
                        · intro a' w' hB hdep hoth K hK
                          obtain ⟨vg, gg, eg⟩ := hdep ⟨3, .guard⟩ (by simp) rfl
                          have gg := gg 94 rfl (by simp)
                          obtain rfl : vg = .bool false := eg
                          rw [guard_is rfl rfl gg]
                          rw [if_pos (by decide)]
                          have hbw : Below W8.heap.size W8 w' := (below_drewN (Below.refl _ _) 1).trans hB
                          obtain ⟨v0, p0, e0⟩ := hdep ⟨5, .data⟩ (by simp) rfl
                          have p0 := p0 96 rfl (by simp)
                          obtain rfl : v0 = .agg #[.int .i64 C.epoch, .int .i64 C.next, .slice va C.opens.length vc] := e0
                          obtain ⟨v1, p1, e1⟩ := hdep ⟨7, .data⟩ (by simp) rfl
                          have p1 := p1 98 rfl (by simp)
                          obtain rfl : v1 = .int .i64 c := e1
                          have HA' := hid (rclose_any C.epoch C.next c (.slice va C.opens.length vc) C.opens w' (by have := G3.out; omega) HWF.out (R8.out.below hbw))
                          clear hdep hoth
                          unfold calls at HA'
                          go_simp
                          refine HA'.out.mono ?_
                          rintro e w'' ⟨v, rfl, ho, hb⟩
                          exact hK _ _ hb ⟨v, rfl, ho⟩
                        · intro a' w' hB hdep hoth K hK
                          obtain ⟨vg, gg, eg⟩ := hdep ⟨3, .guard⟩ (by simp) rfl
                          have gg := gg 94 rfl (by simp)
                          obtain rfl : vg = .bool false := eg
                          rw [guard_is rfl rfl gg]
                          rw [if_pos (by decide)]
                          have hbw : Below W8.heap.size W8 w' := (below_drewN (Below.refl _ _) 1).trans hB
                          obtain ⟨v0, p0, e0⟩ := hdep ⟨4, .data⟩ (by simp) rfl
                          have p0 := p0 95 rfl (by simp)
                          obtain rfl : v0 = .agg #[.int .i64 C.epoch, .int .i64 C.next, .slice sa7 (keptL ⟨C.epoch, C.next, C.opens⟩ (fun x => x.id != c)).length sc7] := e0
                          obtain ⟨v1, p1, e1⟩ := hdep ⟨8, .data⟩ (by simp) rfl
                          have p1 := p1 99 rfl (by simp)
                          obtain ⟨cv, rfl, hcv⟩ := e1
                          have HA' := rsame_any C.epoch C.next C.epoch C.next (.slice sa7 (keptL ⟨C.epoch, C.next, C.opens⟩ (fun x => x.id != c)).length sc7) cv (keptL ⟨C.epoch, C.next, C.opens⟩ (fun x => x.id != c)) (keptL ⟨C.epoch, C.next, C.opens⟩ (fun x => x.id != c)) w' (Q7.out.below hbw) hcv (by have := keptL_len2 C c; have := G3.out; omega) (by have := keptL_len2 C c; have := G3.out; omega)
                          rw [sames rfl] at HA'
                          have HA' := hid HA'
                          clear hdep hoth hcv
                          unfold calls at HA'
                          go_simp
                          refine HA'.out.mono ?_
                          rintro e w'' ⟨rfl, hb⟩
                          exact hK _ _ hb rfl
                        · intro a' w' hB hdep hoth K hK
                          obtain ⟨vg, gg, eg⟩ := hdep ⟨3, .guard⟩ (by simp) rfl
                          have gg := gg 94 rfl (by simp)
                          obtain rfl : vg = .bool false := eg
                          rw [guard_is rfl rfl gg]
                          rw [if_pos (by decide)]
                          have hbw : Below W8.heap.size W8 w' := (below_drewN (Below.refl _ _) 1).trans hB
                          obtain ⟨vx0, gx0, ex0⟩ := hdep ⟨9, .data⟩ (by simp) rfl
                          have gx0 := gx0 100 rfl (by simp)
                          obtain rfl : vx0 = .bool true := ex0
                          clear hdep hoth
                          go_simp
                          exact hK _ _ (Below.refl _ _) rfl
                        · intro a' w' hB hdep hoth K hK
                          rw [if_pos (guard_none rfl)]
                          have hbw : Below W8.heap.size W8 w' := (below_drewN (Below.refl _ _) 1).trans hB
                          obtain ⟨vx0, gx0, ex0⟩ := hdep ⟨3, .data⟩ (by simp) rfl
                          have gx0 := gx0 94 rfl (by simp)
                          obtain rfl : vx0 = .bool false := ex0
                          obtain ⟨vx1, gx1, ex1⟩ := hdep ⟨10, .data⟩ (by simp) rfl
                          have gx1 := gx1 101 rfl (by simp)
                          obtain rfl : vx1 = .bool false := ex1
                          clear hdep hoth
                          go_simp
                          exact hK _ _ (Below.refl _ _) rfl
                        · intro a' w' hB hdep hoth K hK
                          rw [if_pos (guard_none rfl)]
                          have hbw : Below W8.heap.size W8 w' := (below_drewN (Below.refl _ _) 1).trans hB
                          obtain ⟨vx0, gx0, ex0⟩ := hdep ⟨11, .data⟩ (by simp) rfl
                          have gx0 := gx0 102 rfl (by simp)
                          obtain rfl : vx0 = .bool false := ex0
                          clear hdep hoth
                          go_simp
                          exact hK _ _ (Below.refl _ _) rfl
                        · intro a' w' hB hdep hoth K hK
                          obtain ⟨vg, gg, eg⟩ := hdep ⟨12, .guard⟩ (by simp) rfl
                          have gg := gg 103 rfl (by simp)
                          obtain rfl : vg = .bool false := eg
                          rw [guard_is rfl rfl gg]
                          rw [if_pos (by decide)]
                          have hbw : Below W8.heap.size W8 w' := (below_drewN (Below.refl _ _) 1).trans hB
                          have t18 := hoth 18 (notDst_at (by kernel_rfl))
                          simp only [List.getElem?_toArray, List.getElem?_cons_succ, List.getElem?_cons_zero] at t18
                          clear hdep hoth
                          go_simp
                          exact hK _ _ (Below.refl _ _) rfl
                        · intro a' w' hB hdep hoth K hK
                          obtain ⟨vg, gg, eg⟩ := hdep ⟨12, .guard⟩ (by simp) rfl
                          have gg := gg 103 rfl (by simp)
                          obtain rfl : vg = .bool false := eg
                          rw [guard_is rfl rfl gg]
                          rw [if_pos (by decide)]
                          have hbw : Below W8.heap.size W8 w' := (below_drewN (Below.refl _ _) 1).trans hB
                          obtain ⟨vx0, gx0, ex0⟩ := hdep ⟨13, .data⟩ (by simp) rfl
                          have gx0 := gx0 104 rfl (by simp)
                          obtain rfl : vx0 = .bool false := ex0
                          clear hdep hoth
                          go_simp
                          exact hK _ _ (Below.refl _ _) rfl
                        · intro a' w' hB hdep hoth K hK
                          obtain ⟨vg, gg, eg⟩ := hdep ⟨14, .guard⟩ (by simp) rfl
                          have gg := gg 105 rfl (by simp)
                          obtain rfl : vg = .bool false := eg
                          rw [guard_is rfl rfl gg]
                          rw [if_neg (by decide)]
                          exact hK _ _ (Below.refl _ _) rfl
                        · intro a' w' hB hdep hoth K hK
                          obtain ⟨vg, gg, eg⟩ := hdep ⟨14, .guard⟩ (by simp) rfl
                          have gg := gg 105 rfl (by simp)
                          obtain rfl : vg = .bool false := eg
                          rw [guard_is rfl rfl gg]
                          rw [if_neg (by decide)]
                          exact hK _ _ (Below.refl _ _) rfl
                        · intro a' w' hB hdep hoth K hK
                          obtain ⟨vg, gg, eg⟩ := hdep ⟨14, .guard⟩ (by simp) rfl
                          have gg := gg 105 rfl (by simp)
                          obtain rfl : vg = .bool false := eg
                          rw [guard_is rfl rfl gg]
                          rw [if_neg (by decide)]
                          exact hK _ _ (Below.refl _ _) rfl
                        · intro a' w' hB hdep hoth K hK
                          obtain ⟨vg, gg, eg⟩ := hdep ⟨14, .guard⟩ (by simp) rfl
                          have gg := gg 105 rfl (by simp)
                          obtain rfl : vg = .bool false := eg
                          rw [guard_is rfl rfl gg]
                          rw [if_neg (by decide)]
                          exact hK _ _ (Below.refl _ _) rfl
                        · intro a' w' hB hdep hoth K hK
                          obtain ⟨vg, gg, eg⟩ := hdep ⟨18, .guard⟩ (by simp) rfl
                          have gg := gg 109 rfl (by simp)
                          obtain rfl : vg = undef := eg
                          rw [guard_undef rfl rfl gg]
                          rw [if_neg (by decide)]
                          exact hK _ _ (Below.refl _ _) rfl
                        · intro a' w' hB hdep hoth K hK
                          obtain ⟨vg, gg, eg⟩ := hdep ⟨18, .guard⟩ (by simp) rfl
                          have gg := gg 109 rfl (by simp)
                          obtain rfl : vg = undef := eg
                          rw [guard_undef rfl rfl gg]
                          rw [if_neg (by decide)]
                          exact hK _ _ (Below.refl _ _) rfl
                        · intro a' w' hB hdep hoth K hK
                          obtain ⟨vg, gg, eg⟩ := hdep ⟨18, .guard⟩ (by simp) rfl
                          have gg := gg 109 rfl (by simp)
                          obtain rfl : vg = undef := eg
                          rw [guard_undef rfl rfl gg]
                          rw [if_neg (by decide)]
                          exact hK _ _ (Below.refl _ _) rfl
                        · intro a' w' hB hdep hoth K hK
                          obtain ⟨vg, gg, eg⟩ := hdep ⟨18, .guard⟩ (by simp) rfl
                          have gg := gg 109 rfl (by simp)
                          obtain rfl : vg = undef := eg
                          rw [guard_undef rfl rfl gg]
                          rw [if_neg (by decide)]
                          exact hK _ _ (Below.refl _ _) rfl
                        · intro a' w' hB hdep hoth K hK
                          obtain ⟨vg, gg, eg⟩ := hdep ⟨18, .guard⟩ (by simp) rfl
                          have gg := gg 109 rfl (by simp)
                          obtain rfl : vg = undef := eg
                          rw [guard_undef rfl rfl gg]
                          rw [if_neg (by decide)]
                          exact hK _ _ (Below.refl _ _) rfl
                        · intro a' w' hB hdep hoth K hK
                          obtain ⟨vg, gg, eg⟩ := hdep ⟨18, .guard⟩ (by simp) rfl
                          have gg := gg 109 rfl (by simp)
                          obtain rfl : vg = undef := eg
                          rw [guard_undef rfl rfl gg]
                          rw [if_neg (by decide)]
                          exact hK _ _ (Below.refl _ _) rfl
                        · intro a' w' hB hdep hoth K hK
                          obtain ⟨vg, gg, eg⟩ := hdep ⟨14, .guard⟩ (by simp) rfl
                          have gg := gg 105 rfl (by simp)
                          obtain rfl : vg = .bool false := eg
                          rw [guard_is rfl rfl gg]
                          rw [if_neg (by decide)]
                          exact hK _ _ (Below.refl _ _) rfl
                        · intro a' w' hB hdep hoth K hK
                          obtain ⟨vg, gg, eg⟩ := hdep ⟨12, .guard⟩ (by simp) rfl
                          have gg := gg 103 rfl (by simp)
                          obtain rfl : vg = .bool false := eg
                          rw [guard_is rfl rfl gg]
                          rw [if_pos (by decide)]
                          have hbw : Below W8.heap.size W8 w' := (below_drewN (Below.refl _ _) 1).trans hB
                          obtain ⟨vx0, gx0, ex0⟩ := hdep ⟨14, .data⟩ (by simp) rfl
                          have gx0 := gx0 105 rfl (by simp)
                          obtain rfl : vx0 = .bool false := ex0
                          clear hdep hoth
                          go_simp
                          exact hK _ _ (Below.refl _ _) rfl
                        · intro a' w' hB hdep hoth K hK
                          rw [if_pos (guard_none rfl)]
                          have hbw : Below W8.heap.size W8 w' := (below_drewN (Below.refl _ _) 1).trans hB
                          obtain ⟨vx0, gx0, ex0⟩ := hdep ⟨12, .data⟩ (by simp) rfl
                          have gx0 := gx0 103 rfl (by simp)
                          obtain rfl : vx0 = .bool false := ex0
                          obtain ⟨vx1, gx1, ex1⟩ := hdep ⟨26, .data⟩ (by simp) rfl
                          have gx1 := gx1 117 rfl (by simp)
                          obtain rfl : vx1 = .bool false := ex1
                          clear hdep hoth
                          go_simp
                          exact hK _ _ (Below.refl _ _) rfl
                      case fin10 =>
                        intro vs W10 hB hs
                        have hbw : Below W8.heap.size W8 W10 := (below_drewN (Below.refl _ _) 1).trans hB
                        have ev : vs 27 = .bool false := hs 27 (by decide)
                        clear hs
                        simp only [actOf, dstAt, if_true, List.getElem?_toArray, List.getElem?_cons_succ, List.getElem?_cons_zero, Option.bind_some, Act.put, List.setIfInBounds_toArray, List.set_cons_zero, List.set_cons_succ, List.length_cons, List.length_nil, Nat.reduceAdd]
                        rw [ev]
                        clear ev hB
                        have HB10 := hid (HB8.out.trans (hbw.mono HB8.out.size))
                        have V10 := hid (V8.out.below hbw)
                        have N10 := hid (blk_below N8.out hbw (blk_lt N8.out))
                        have M10 := hid (blk_below M8.out hbw (blk_lt M8.out))
                        have R10 := hid (R8.out.below hbw)
                        have O10 := hid (blk_below O8.out hbw (blk_lt O8.out))
                        clear hbw
                        obtain ⟨ow, oh⟩ := old_no HRB.out B1.out B2.out HY.out
                        dsimp only at oh
                        have hno := hear_no B (C := ⟨C.epoch, C.next, C.opens⟩) (c := y.id - bf * 1048576) (k := k) (dn : Int) i now oh
                        have HNO := hid hno
                        have hld := V10.out.load
                        have k0 : W10.cell? ⟨w.heap.size + 1, 0, none⟩ = some (.int .i64 C.epoch) := blk_cell N10.out 0
                        have k1 : W10.cell? ⟨w.heap.size + 1, 1, none⟩ = some (.int .i64 C.next) := blk_cell N10.out 1
                        have k2 : W10.cell? ⟨w.heap.size + 1, 2, none⟩ = some (.slice va C.opens.length vc) := blk_cell N10.out 2
                        have kl := blk_lt N10.out
                        have o0 : W10.cell? ⟨T11, 0, none⟩ = some (.int .i64 (y.id - bf * 1048576)) := blk_cell O10.out 0
                        have o1 : W10.cell? ⟨T11, 1, none⟩ = some (.int .u8 k) := blk_cell O10.out 1
                        have o2 : W10.cell? ⟨T11, 2, none⟩ = some (.int .u8 dn) := blk_cell O10.out 2
                        have o3 : W10.cell? ⟨T11, 3, none⟩ = some (.int .i64 i) := blk_cell O10.out 3
                        have o4 : W10.cell? ⟨T11, 4, none⟩ = some (.slice sa sn sc) := blk_cell O10.out 4
                        have o5 : W10.cell? ⟨T11, 5, none⟩ = some (.bool m) := blk_cell O10.out 5
                        have ol := blk_lt O10.out
                        clear ow oh hno
                        go_wp2_with fail
                        clear k0 k1 k2 kl o0 o1 o2 o3 o4 o5 ol hld
                        refine (hear_any B bv C.epoch C.next (y.id - bf * 1048576) k i now dn (.slice va C.opens.length vc) C.opens sa sn sc m W10 V10.out.is R10.out (by have := G3.out; omega) h8 HFI.out (by have := G4.out; omega) (HA.out.below HB10.out) (HC.out.below HB10.out) (HL.out.below HB10.out)).mono ?_
                        rintro e Y11 ⟨v11, s11, rfl, hr, hs, hb⟩
                        rw [HNO.out.1] at hr
                        rw [HNO.out.2] at hs
                        obtain ⟨ra11, rc11, rfl⟩ : ∃ a c, v11 = .slice a 0 c := RecsL.len hr
                        obtain ⟨sa11, sc11, rfl⟩ := len12 hs
                        obtain ⟨W11, hW⟩ : ∃ W, W = Y11.alloc (.cells #[.int .i64 C.epoch, .int .i64 C.next, .slice sa11 C.opens.length sc11] 33) := ⟨_, rfl⟩
                        have hbz : Below Y11.heap.size Y11 W11 := by rw [hW]; exact (Below.refl _ _).alloc (Nat.le_refl _) _
                        have hbq := hb.trans (hbz.mono hb.size)
                        have HB11 := hid (HB10.out.trans (hbq.mono HB10.out.size))
                        have V11 := hid (V10.out.below hbq)
                        have N11 := hid (blk_below N10.out hbq (blk_lt N10.out))
                        have M11 := hid (blk_below M10.out hbq (blk_lt M10.out))
                        have R11 := hid (R10.out.below hbq)
                        have Q11 := hid (hs.below hbz)
                        have HW := hid hW
                        have hSA := hid (rsame_any C.epoch C.next C.epoch C.next (.slice sa11 C.opens.length sc11) (.slice va C.opens.length vc) C.opens C.opens W11 Q11.out R11.out (by have := G3.out; omega) (by have := G3.out; omega))
                        have k0 : W11.cell? ⟨w.heap.size + 1, 0, none⟩ = some (.int .i64 C.epoch) := blk_cell N11.out 0
                        have k1 : W11.cell? ⟨w.heap.size + 1, 1, none⟩ = some (.int .i64 C.next) := blk_cell N11.out 1
                        have k2 : W11.cell? ⟨w.heap.size + 1, 2, none⟩ = some (.slice va C.opens.length vc) := blk_cell N11.out 2
                        have kl := blk_lt N11.out
                        rw [hW] at k0 k1 k2 kl
                        clear hr hs hb hbz hbq hW
                        unfold calls
                        dsimp only
                        go_wp2_with fail
                        rw [← HW.out]
                        clear k0 k1 k2 kl HW
                        refine hSA.out.mono ?_
                        rintro e Y12 ⟨rfl, hb⟩
                        rw [sames rfl]
                        have HB12 := hid (HB11.out.trans (hb.mono HB11.out.size))
                        clear hb hSA
                        go_wp2_with fail
                        refine (wakes_any Y12 (HA.out.below HB12.out) (HC.out.below HB12.out) (HL.out.below HB12.out)).mono ?_
                        rintro e Ww ⟨rfl, hb⟩
                        have HBw := hid (HB12.out.trans (hb.mono HB12.out.size))
                        clear hb
                        go_wp2
                        go_ret
                        exact ⟨rfl, HBw.out⟩
end Go.Proofs.YthhgpiolcnojfaaGreatDoor
