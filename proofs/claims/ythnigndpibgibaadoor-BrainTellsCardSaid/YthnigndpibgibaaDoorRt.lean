/- brain.Right, exact. -/
import Derived.Test.YthnigndpibgibaaDoorRi
import Derived.Test.YthnigndpibgibaaDoorCfm
import Derived.Test.YthnigndpibgibaaDoorClm
import Derived.Deep.Cut
namespace Go.Proofs.YthnigndpibgibaaDoor
open Go.RowKit Go.Shelf
attribute [-go_sem] loadVar
theorem load_other3 (t : TypeId) (a : Addr) (_h : t ≠ 30) (_h2 : t ≠ 24) : loadVar t a = isAgg t >>= fun b => if b = true then sizeOf t >>= fun n => loadCells a n >>= fun c => pure (.agg c) else load a := by unfold loadVar; rfl
attribute [local go_sem] load_other3

def phasesB (K : List KeptV) : Bool := decide (∀ x ∈ K, 1 ≤ x.phase ∧ x.phase < 11)
theorem phasesB_snoc (K : List KeptV) (x : KeptV) : phasesB (K ++ [x]) = (phasesB K && (decide (1 ≤ x.phase) && decide (x.phase < 11))) := by
  rw [Bool.eq_iff_iff]
  simp [phasesB, or_imp, forall_and]
  constructor
  · intro h; exact ⟨⟨h.1.1, h.2.1⟩, h.1.2, h.2.2⟩
  · intro h; exact ⟨⟨h.1.1, h.2.1⟩, h.1.2, h.2.2⟩
def fineB (B : BrainV) : Bool := decide (0 ≤ B.f 0) && (decide (B.f 0 ≤ 1099511627776) && (decide (0 ≤ B.f 1) && (decide (B.f 1 ≤ 1099511627776) && (phasesB B.K && (riseB (B.f 1) (B.I.map IntentV.token) && riseB 1099511627776 (B.K.map KeptV.id))))))
def refB (B : BrainV) : Bool := if B.f 20 = 1 then fineB B && (decide (1 ≤ min (B.f 21) (B.f 22)) && decide (max (B.f 21) (B.f 22) ≤ 1099511627776)) else fineB B
def rightB (B : BrainV) : Bool := if B.g 2 = true then refB B && checkB (fun i => B.f (i + 3)) B.M else refB B && (decide (B.I.length = 0) && decide (B.f 20 = 0))
/-- Behind the first tests. -/
def RtR (w wr : World) (fi : Bool) : Exit → Act → World → Prop
  | .normal, a', X => ∃ u : Nat → Value, a' = { tmps := #[u 0, .pointer (some ⟨w.heap.size, 0, none⟩), u 2, u 3, u 4, u 5, u 6, u 7, u 8, u 9, .bool fi, u 11, u 12, u 13, u 14, u 15, u 16, u 17, u 18, u 19, u 20, u 21, u 22, u 23, u 24, u 25, u 26, u 27, u 28, u 29, u 30, u 31, u 32, u 33, u 34, u 35, u 36, u 37, u 38, u 39, u 40, u 41, u 42, u 43, u 44, u 45, u 46, u 47, u 48, u 49, u 50, u 51, u 52, u 53, u 54, u 55, u 56, u 57, u 58, u 59, u 60, u 61, u 62, u 63, u 64, u 65, u 66, u 67, u 68, u 69, u 70, u 71, u 72, u 73, u 74, u 75, u 76, u 77, u 78, u 79, u 80, u 81, u 82, u 83, u 84, u 85, u 86, u 87, u 88, u 89, u 90, u 91, u 92, u 93, u 94, u 95, u 96, u 97, u 98, u 99, u 100, u 101, u 102, u 103, u 104, u 105, u 106, u 107, u 108, u 109, u 110, u 111, u 112, u 113, u 114, u 115, u 116, u 117, u 118, u 119, u 120, u 121, u 122, u 123, u 124], defers := [] } ∧ Below wr.heap.size wr X
  | _, _, _ => False
theorem RtR.of {w wr X : World} {fi : Bool} {a' : Act} (h : a' = { tmps := #[a'.tmps.getD 0 undef, .pointer (some ⟨w.heap.size, 0, none⟩), a'.tmps.getD 2 undef, a'.tmps.getD 3 undef, a'.tmps.getD 4 undef, a'.tmps.getD 5 undef, a'.tmps.getD 6 undef, a'.tmps.getD 7 undef, a'.tmps.getD 8 undef, a'.tmps.getD 9 undef, .bool fi, a'.tmps.getD 11 undef, a'.tmps.getD 12 undef, a'.tmps.getD 13 undef, a'.tmps.getD 14 undef, a'.tmps.getD 15 undef, a'.tmps.getD 16 undef, a'.tmps.getD 17 undef, a'.tmps.getD 18 undef, a'.tmps.getD 19 undef, a'.tmps.getD 20 undef, a'.tmps.getD 21 undef, a'.tmps.getD 22 undef, a'.tmps.getD 23 undef, a'.tmps.getD 24 undef, a'.tmps.getD 25 undef, a'.tmps.getD 26 undef, a'.tmps.getD 27 undef, a'.tmps.getD 28 undef, a'.tmps.getD 29 undef, a'.tmps.getD 30 undef, a'.tmps.getD 31 undef, a'.tmps.getD 32 undef, a'.tmps.getD 33 undef, a'.tmps.getD 34 undef, a'.tmps.getD 35 undef, a'.tmps.getD 36 undef, a'.tmps.getD 37 undef, a'.tmps.getD 38 undef, a'.tmps.getD 39 undef, a'.tmps.getD 40 undef, a'.tmps.getD 41 undef, a'.tmps.getD 42 undef, a'.tmps.getD 43 undef, a'.tmps.getD 44 undef, a'.tmps.getD 45 undef, a'.tmps.getD 46 undef, a'.tmps.getD 47 undef, a'.tmps.getD 48 undef, a'.tmps.getD 49 undef, a'.tmps.getD 50 undef, a'.tmps.getD 51 undef, a'.tmps.getD 52 undef, a'.tmps.getD 53 undef, a'.tmps.getD 54 undef, a'.tmps.getD 55 undef, a'.tmps.getD 56 undef, a'.tmps.getD 57 undef, a'.tmps.getD 58 undef, a'.tmps.getD 59 undef, a'.tmps.getD 60 undef, a'.tmps.getD 61 undef, a'.tmps.getD 62 undef, a'.tmps.getD 63 undef, a'.tmps.getD 64 undef, a'.tmps.getD 65 undef, a'.tmps.getD 66 undef, a'.tmps.getD 67 undef, a'.tmps.getD 68 undef, a'.tmps.getD 69 undef, a'.tmps.getD 70 undef, a'.tmps.getD 71 undef, a'.tmps.getD 72 undef, a'.tmps.getD 73 undef, a'.tmps.getD 74 undef, a'.tmps.getD 75 undef, a'.tmps.getD 76 undef, a'.tmps.getD 77 undef, a'.tmps.getD 78 undef, a'.tmps.getD 79 undef, a'.tmps.getD 80 undef, a'.tmps.getD 81 undef, a'.tmps.getD 82 undef, a'.tmps.getD 83 undef, a'.tmps.getD 84 undef, a'.tmps.getD 85 undef, a'.tmps.getD 86 undef, a'.tmps.getD 87 undef, a'.tmps.getD 88 undef, a'.tmps.getD 89 undef, a'.tmps.getD 90 undef, a'.tmps.getD 91 undef, a'.tmps.getD 92 undef, a'.tmps.getD 93 undef, a'.tmps.getD 94 undef, a'.tmps.getD 95 undef, a'.tmps.getD 96 undef, a'.tmps.getD 97 undef, a'.tmps.getD 98 undef, a'.tmps.getD 99 undef, a'.tmps.getD 100 undef, a'.tmps.getD 101 undef, a'.tmps.getD 102 undef, a'.tmps.getD 103 undef, a'.tmps.getD 104 undef, a'.tmps.getD 105 undef, a'.tmps.getD 106 undef, a'.tmps.getD 107 undef, a'.tmps.getD 108 undef, a'.tmps.getD 109 undef, a'.tmps.getD 110 undef, a'.tmps.getD 111 undef, a'.tmps.getD 112 undef, a'.tmps.getD 113 undef, a'.tmps.getD 114 undef, a'.tmps.getD 115 undef, a'.tmps.getD 116 undef, a'.tmps.getD 117 undef, a'.tmps.getD 118 undef, a'.tmps.getD 119 undef, a'.tmps.getD 120 undef, a'.tmps.getD 121 undef, a'.tmps.getD 122 undef, a'.tmps.getD 123 undef, a'.tmps.getD 124 undef], defers := [] }) (hb : Below wr.heap.size wr X) : RtR w wr fi .normal a' X := ⟨fun n => a'.tmps.getD n undef, h, hb⟩
set_option maxRecDepth 100000 in
set_option maxHeartbeats 4000000 in
theorem right_any (B : BrainV) (mv iv kv : Value) (w : World) (hm : RowOf 1 encI w mv B.M) (hi : RowOf 4 encIn w iv B.I) (hk : RowOf 8 encKp w kv B.K) (hI : B.I.length ≤ 10000) (hK : B.K.length ≤ 10000) (hLm : Limits w) :
    Calls Tryd.prog 13 #[.agg (brT B.f B.g mv iv kv)] w fun e w' => e = .returned (.bool (rightB B)) ∧ Below w.heap.size w w' := by
  obtain ⟨i0, hi0, hz0, hz1, hz2⟩ := info_parts infoI
  obtain ⟨W1, hW1⟩ : ∃ W1, W1 = w.alloc (.cells (brT B.f B.g mv iv kv) 30) := ⟨_, rfl⟩
  have hb1 : Below w.heap.size w W1 := by rw [hW1]; exact (Below.refl _ _).alloc (Nat.le_refl _) _
  have b1 : BB W1 w.heap.size (brT B.f B.g mv iv kv) := by rw [hW1]; exact heap_new _ _
  have hl1 := blk_lt b1
  have c18 : W1.cell? ⟨w.heap.size, 18, none⟩ = some iv := blk_cell b1 18
  obtain ⟨ia, ic, rfl, hi1, hi2, hi3, hiop⟩ := hi.open
  obtain ⟨ka, kc, rfl, hk1, hk2, hk3, hkop⟩ := hk.open
  have HIO := hid hiop
  have HKO := hid hkop
  have HW1 := hid hW1
  have HB1 := hid hb1
  have B1 := hid b1
  have HM := hid hm
  have HL := hid hLm
  have HI0 := hid hi0
  have HZ0 := hid hz0
  have HZ1 := hid hz1
  have HZ2 := hid hz2
  have HI := hid hi
  have HK := hid hk
  clear hiop hkop hb1 b1 hm hLm hi hk
  obtain ⟨r, hr⟩ : ∃ r, rightB B = r := ⟨_, rfl⟩
  rw [hr]
  have HR := hid hr
  clear hr
  rw [hW1] at c18 hl1
  go_enter Tryd.func13, Tryd.ntmps13
  go_wp2
  rw [← HW1.out]
  rw [← HW1.out] at c18 hl1
  clear hW1
  go_loopw [3, 15] (fun t i wr => ∃ (k : Nat), k ≤ B.I.length ∧ i = .int .i64 k ∧ OwnI wr W1.heap.size t ((B.I.take k).map IntentV.token) ∧ Below W1.heap.size W1 wr) (fun _ i _ => B.I.length - (intOf i).toNat)
  case atStart => exact ⟨0, Nat.zero_le _, rfl, Owns.nil _ _, Below.refl _ _⟩
  case round =>
    obtain ⟨k, hk, rfl, ho, hB⟩ := hrel
    have HO := hid ho
    have HB := hid hB
    have hsz := hB.size
    have hbw := HB1.out.trans (hB.mono HB1.out.size)
    have HBW := hid hbw
    by_cases hlt : k < B.I.length
    · obtain ⟨b1, o1, rfl, hb1, hr1⟩ := HIO.out (by omega)
      obtain ⟨x, hx⟩ := get_lt hlt
      obtain ⟨g0, g1, g2, g3⟩ := rowI (hr1.below hbw hb1) hx
      have hkL : (k : Int) < (B.I.length : Int) := by omega
      have hbl : b1 < wr.heap.size := Nat.lt_of_lt_of_le hb1 hbw.size
      have HX := hid hx
      obtain ⟨ta, tn, tc, rfl⟩ := ho.shape
      obtain ⟨V, hV⟩ : ∃ V, V = (wr.alloc (.cells #[.int .i64 x.token, .int .i64 x.version, .int .i64 x.zone, .bool x.warm] 41)).alloc (.cells #[.int .i64 x.token] 3) := ⟨_, rfl⟩
      have hbV : Below wr.heap.size wr V := by rw [hV]; exact ((Below.refl _ _).alloc (Nat.le_refl _) _).alloc (by simp) _
      have HOV := hid (HO.out.below hbV)
      have HBV := hid hbV
      have HV := hid hV
      have hlen : ((B.I.take k).map IntentV.token).length ≤ 10000 := by simp; omega
      have e1 : ((B.I.take k).map IntentV.token).length + 1 ≤ maxLen := by unfold maxLen; omega
      have e2 : (((B.I.take k).map IntentV.token).length + 1) * 8 ≤ 140737488355328 := by omega
      have e3 : W1.heap.size ≤ V.heap.size := Nat.le_trans HB.out.size hbV.size
      have hnew : ∀ (j : Nat) u, (encI x.token)[j]? = some u → V.cell? ((⟨wr.heap.size + 1, 0, none⟩ : Addr).add j) = some u := by
        intro j u hj
        rw [show ((⟨wr.heap.size + 1, 0, none⟩ : Addr).add j) = ⟨wr.heap.size + 1, j, none⟩ by unfold Addr.add; split <;> simp_all]
        rw [hV, blk_cell (heap_new2 wr _ _)]
        simpa [encI] using hj
      have HNEW := hid hnew
      clear hV hbV ho hB hbw hx hr1 hnew hlen
      go_wp2_with (at_builtin; rw [← HV.out]; refine append_one rfl _ _ 22 rfl W1.heap.size 3 i0 _ 8 Tryd.underlying22 HI0.out HZ0.out HZ1.out HZ2.out rfl (by decide) encI_len encI_one _ _ rfl HOV.out ⟨wr.heap.size + 1, 0, none⟩ x.token rfl HNEW.out e1 e2 e3 ?_)
      intro v' w' hov hbv _
      have HN := hid (show OwnI w' W1.heap.size v' ((B.I.take (k + 1)).map IntentV.token) by
        rw [take_snoc B.I k x HX.out, List.map_append]
        simpa using hov)
      have HBN := hid ((HB.out.trans (HBV.out.mono HB.out.size)).trans hbv)
      clear hov hbv
      go_wp2
      go_roundw
      case rel => exact ⟨k + 1, by omega, by go_num, HN.out, HBN.out⟩
      case measure => simp [intOf]; omega
    · obtain rfl : k = B.I.length := by omega
      rw [List.take_length] at ho
      have HT := hid (Owns.row ho encI_len (by decide))
      obtain ⟨ta, tn, tc, rfl⟩ := ho.shape
      have c19 : wr.cell? ⟨w.heap.size, 19, none⟩ = some (.slice ka B.K.length kc) := cell_below (blk_cell B1.out 19) hB
      have hlr : w.heap.size < wr.heap.size := Nat.lt_of_lt_of_le (blk_lt B1.out) hB.size
      have HBW1 := hid hB
      clear ho hB hbw
      obtain ⟨W2, hW2⟩ : ∃ W2, W2 = wr := ⟨_, rfl⟩
      subst hW2
      go_wp2
      go_loopw [4, 7, 28] (fun t p i wr => ∃ (k : Nat), k ≤ B.K.length ∧ i = .int .i64 k ∧ p = .bool (phasesB (B.K.take k)) ∧ OwnI wr W2.heap.size t ((B.K.take k).map KeptV.id) ∧ Below W2.heap.size W2 wr) (fun _ _ i _ => B.K.length - (intOf i).toNat)
      case atStart => exact ⟨0, Nat.zero_le _, rfl, rfl, Owns.nil _ _, Below.refl _ _⟩
      case round =>
        obtain ⟨k, hk, rfl, rfl, ho, hB⟩ := hrel
        have HO := hid ho
        have HB := hid hB
        have hsz := hB.size
        have hbw := HBW.out.trans (hB.mono HBW.out.size)
        have HBW2 := hid hbw
        by_cases hlt : k < B.K.length
        · obtain ⟨b1, o1, rfl, hb1, hr1⟩ := HKO.out (by omega)
          obtain ⟨x, hx⟩ := get_lt hlt
          obtain ⟨g0, g1, g2, g3, g4, g5, g6, g7⟩ := rowK (hr1.below hbw hb1) hx
          have hkL : (k : Int) < (B.K.length : Int) := by omega
          have hbl : b1 < wr.heap.size := Nat.lt_of_lt_of_le hb1 hbw.size
          have HX := hid hx
          obtain ⟨ua, un, uc, rfl⟩ := ho.shape
          obtain ⟨V, hV⟩ : ∃ V, V = (wr.alloc (.cells #[.int .i64 x.id, .int .i64 x.token, .int .i64 x.version, .int .i64 x.zone, .int .u8 x.phase, .int .i64 x.since, .bool x.guarded, .bool x.complete] 43)).alloc (.cells #[.int .i64 x.id] 3) := ⟨_, rfl⟩
          have hbV : Below wr.heap.size wr V := by rw [hV]; exact ((Below.refl _ _).alloc (Nat.le_refl _) _).alloc (by simp) _
          have HOV := hid (HO.out.below hbV)
          have HBV := hid hbV
          have HV := hid hV
          have hlen : ((B.K.take k).map KeptV.id).length ≤ 10000 := by simp; omega
          have e1 : ((B.K.take k).map KeptV.id).length + 1 ≤ maxLen := by unfold maxLen; omega
          have e2 : (((B.K.take k).map KeptV.id).length + 1) * 8 ≤ 140737488355328 := by omega
          have e3 : W2.heap.size ≤ V.heap.size := Nat.le_trans HB.out.size hbV.size
          have hnew : ∀ (j : Nat) u, (encI x.id)[j]? = some u → V.cell? ((⟨wr.heap.size + 1, 0, none⟩ : Addr).add j) = some u := by
            intro j u hj
            rw [show ((⟨wr.heap.size + 1, 0, none⟩ : Addr).add j) = ⟨wr.heap.size + 1, j, none⟩ by unfold Addr.add; split <;> simp_all]
            rw [hV, blk_cell (heap_new2 wr _ _)]
            simpa [encI] using hj
          have HNEW := hid hnew
          have hxc : V.cell? ⟨wr.heap.size, 4, none⟩ = some (.int .u8 x.phase) := by
            have h1 := blk_alloc (heap_new wr (.cells #[.int .i64 x.id, .int .i64 x.token, .int .i64 x.version, .int .i64 x.zone, .int .u8 x.phase, .int .i64 x.since, .bool x.guarded, .bool x.complete] 43)) (.cells #[.int .i64 x.id] 3)
            rw [hV]
            exact blk_cell h1 4
          have HXC := hid hxc
          have hlV : wr.heap.size < V.heap.size := by rw [hV]; simp; omega
          obtain ⟨p, hp⟩ : ∃ p, phasesB (B.K.take k) = p := ⟨_, rfl⟩
          obtain ⟨q1, hq1⟩ : ∃ q, decide (1 ≤ x.phase) = q := ⟨_, rfl⟩
          obtain ⟨q2, hq2⟩ : ∃ q, decide (x.phase < 11) = q := ⟨_, rfl⟩
          rw [hp]
          have HPH := hid (show phasesB (B.K.take (k + 1)) = (p && (q1 && q2)) by rw [take_snoc B.K k x HX.out, phasesB_snoc, hp, hq1, hq2])
          clear hV hbV ho hB hbw hx hr1 hnew hlen hp hxc
          go_wp2_with (at_builtin; rw [← HV.out]; refine append_one rfl _ _ 22 rfl W2.heap.size 3 i0 _ 8 Tryd.underlying22 HI0.out HZ0.out HZ1.out HZ2.out rfl (by decide) encI_len encI_one _ _ rfl HOV.out ⟨wr.heap.size + 1, 0, none⟩ x.id rfl HNEW.out e1 e2 e3 ?_)
          intro v' w' hov hbv hgv
          have HN := hid (show OwnI w' W2.heap.size v' ((B.K.take (k + 1)).map KeptV.id) by
            rw [take_snoc B.K k x HX.out, List.map_append]
            simpa using hov)
          have HBN := hid ((HB.out.trans (HBV.out.mono HB.out.size)).trans hbv)
          have hxc : w'.cell? ⟨wr.heap.size, 4, none⟩ = some (.int .u8 x.phase) := (World.cell?_of_block (hgv.block wr.heap.size hlV (fun e => Nat.lt_irrefl _ ((Owns.block HO.out _ e.symm).2)))).trans HXC.out
          have hlx := lt_of_cell hxc
          dsimp only at hlx
          clear hov hbv hgv
          cases p <;> cases q1 <;> cases q2
          all_goals
            go_wp2
            go_roundw
            case rel => exact ⟨k + 1, by omega, by go_num, by rw [HPH.out]; rfl, HN.out, HBN.out⟩
            case measure => simp [intOf]; omega
        · obtain rfl : k = B.K.length := by omega
          rw [List.take_length] at ho
          have HU := hid (Owns.row ho encI_len (by decide))
          obtain ⟨ua, un, uc, rfl⟩ := ho.shape
          have HB12 := hid ((HBW1.out).trans (hB.mono HBW1.out.size))
          have HBE := hid hbw
          have BBr := hid (B1.out.below HB12.out (blk_lt B1.out))
          have k0 : wr.cell? ⟨w.heap.size, 0, none⟩ = some (.int .i64 (B.f 0)) := blk_cell BBr.out 0
          have k1 : wr.cell? ⟨w.heap.size, 1, none⟩ = some (.int .i64 (B.f 1)) := blk_cell BBr.out 1
          have hlw := blk_lt BBr.out
          obtain ⟨ph, hph⟩ : ∃ ph, phasesB (B.K.take B.K.length) = ph := ⟨_, rfl⟩
          rw [hph]
          rw [List.take_length] at hph
          have HPH := hid hph
          have HRI := hid (fun W (hW : Below wr.heap.size wr W) => rising_any (.slice ta tn tc) (B.I.map IntentV.token) (B.f 1) W (HT.out.below (hB.trans (hW.mono hB.size))) (by simp; omega))
          have HRK := hid (fun W (hW : Below wr.heap.size wr W) => rising_any (.slice ua un uc) (B.K.map KeptV.id) 1099511627776 W (HU.out.below hW) (by simp; omega))
          obtain ⟨fi, hfi⟩ : ∃ fi, fineB B = fi := ⟨_, rfl⟩
          have HFI := hid hfi
          clear ho hB hbw hph hfi c18 c19
          go_upto_region 14 with (fail)
          refine wp_mono (Q := RtR w wr fi) ?region ?rest
          case region =>
            obtain ⟨b0, h0⟩ : ∃ b, decide (0 ≤ B.f 0) = b := ⟨_, rfl⟩
            obtain ⟨b1, h1⟩ : ∃ b, decide (B.f 0 ≤ 1099511627776) = b := ⟨_, rfl⟩
            obtain ⟨b2, h2⟩ : ∃ b, decide (0 ≤ B.f 1) = b := ⟨_, rfl⟩
            obtain ⟨b3, h3⟩ : ∃ b, decide (B.f 1 ≤ 1099511627776) = b := ⟨_, rfl⟩
            obtain ⟨r1, hr1⟩ : ∃ b, riseB (B.f 1) (B.I.map IntentV.token) = b := ⟨_, rfl⟩
            obtain ⟨r2, hr2⟩ : ∃ b, riseB 1099511627776 (B.K.map KeptV.id) = b := ⟨_, rfl⟩
            have HFE := hid (show fi = (b0 && (b1 && (b2 && (b3 && (ph && (r1 && r2)))))) by rw [← HFI.out]; unfold fineB; rw [h0, h1, h2, h3, HPH.out, hr1, hr2])
            rw [hr1] at HRI
            rw [hr2] at HRK
            clear hr1 hr2
            cases b0 with
            | false =>
              obtain rfl : fi = false := by rw [HFE.out]; rfl
              go_wp2
              exact RtR.of rfl (Below.refl _ _)
            | true =>
              cases b1 with
              | false =>
                obtain rfl : fi = false := by rw [HFE.out]; rfl
                go_wp2
                exact RtR.of rfl (Below.refl _ _)
              | true =>
                cases b2 with
                | false =>
                  obtain rfl : fi = false := by rw [HFE.out]; rfl
                  go_wp2
                  exact RtR.of rfl (Below.refl _ _)
                | true =>
                  cases b3 with
                  | false =>
                    obtain rfl : fi = false := by rw [HFE.out]; rfl
                    go_wp2
                    exact RtR.of rfl (Below.refl _ _)
                  | true =>
                    cases ph with
                    | false =>
                      obtain rfl : fi = false := by rw [HFE.out]; rfl
                      go_wp2
                      exact RtR.of rfl (Below.refl _ _)
                    | true =>
                      go_wp2_with fail
                      refine (HRI.out _ (Below.refl _ _)).mono ?_
                      rintro e X1 ⟨rfl, hx1⟩
                      have HX1 := hid hx1
                      clear hx1
                      cases r1 with
                      | false =>
                        obtain rfl : fi = false := by rw [HFE.out]; rfl
                        go_wp2
                        exact RtR.of rfl HX1.out
                      | true =>
                        go_wp2_with fail
                        refine (HRK.out _ HX1.out).mono ?_
                        rintro e X2 ⟨rfl, hx2⟩
                        have HX2 := hid (HX1.out.trans (hx2.mono HX1.out.size))
                        clear hx2
                        cases r2 with
                        | false =>
                          obtain rfl : fi = false := by rw [HFE.out]; rfl
                          go_wp2
                          exact RtR.of rfl HX2.out
                        | true =>
                          obtain rfl : fi = true := by rw [HFE.out]; rfl
                          go_wp2
                          exact RtR.of rfl HX2.out
          case rest =>
            intro e a' X hR
            match e, hR with
            | .normal, hR =>
            obtain ⟨u, rfl, hX⟩ := hR
            have HX := hid hX
            have BX := hid (BBr.out.below hX (blk_lt BBr.out))
            have HEX := hid (HBE.out.trans (hX.mono HBE.out.size))
            obtain ⟨v20, hv20⟩ : ∃ v, B.f 20 = v := ⟨_, rfl⟩
            obtain ⟨v21, hv21⟩ : ∃ v, B.f 21 = v := ⟨_, rfl⟩
            obtain ⟨v22, hv22⟩ : ∃ v, B.f 22 = v := ⟨_, rfl⟩
            have x20 : X.cell? ⟨w.heap.size, 20, none⟩ = some (.int .u8 (B.f 20)) := blk_cell BX.out 20
            have x21 : X.cell? ⟨w.heap.size, 21, none⟩ = some (.int .i64 (B.f 21)) := blk_cell BX.out 21
            have x22 : X.cell? ⟨w.heap.size, 22, none⟩ = some (.int .i64 (B.f 22)) := blk_cell BX.out 22
            rw [hv20] at x20
            rw [hv21] at x21
            rw [hv22] at x22
            have x23 : X.cell? ⟨w.heap.size, 23, none⟩ = some (.int .i64 (B.f 23)) := blk_cell BX.out 23
            have x24 : X.cell? ⟨w.heap.size, 24, none⟩ = some (.bool (B.g 24)) := blk_cell BX.out 24
            have x25 : X.cell? ⟨w.heap.size, 25, none⟩ = some (.int .i64 (B.f 25)) := blk_cell BX.out 25
            have x26 : X.cell? ⟨w.heap.size, 26, none⟩ = some (.int .i64 (B.f 26)) := blk_cell BX.out 26
            have lX := blk_lt BX.out
            obtain ⟨Y, hY⟩ : ∃ Y, Y = X.alloc (.cells #[.int .u8 v20, .int .i64 v21, .int .i64 v22, .int .i64 (B.f 23), .bool (B.g 24), .int .i64 (B.f 25), .int .i64 (B.f 26)] 28) := ⟨_, rfl⟩
            have hbY : Below X.heap.size X Y := by rw [hY]; exact (Below.refl _ _).alloc (Nat.le_refl _) _
            have HEY := hid (HEX.out.trans (hbY.mono HEX.out.size))
            have BY := hid (BX.out.below hbY lX)
            have hld := load_mid BY.out
            have y2 : Y.cell? ⟨w.heap.size, 2, none⟩ = some (.bool (B.g 2)) := blk_cell BY.out 2
            have y18 : Y.cell? ⟨w.heap.size, 18, none⟩ = some (.slice ia B.I.length ic) := blk_cell BY.out 18
            have y20 : Y.cell? ⟨w.heap.size, 20, none⟩ = some (.int .u8 (B.f 20)) := blk_cell BY.out 20
            rw [hv20] at y20
            have lY := blk_lt BY.out
            obtain ⟨c, hc⟩ : ∃ c, checkB (fun i => B.f (i + 3)) B.M = c := ⟨_, rfl⟩
            have hck := ccheck_any (fun i => B.f (i + 3)) (B.g 16) mv B.M Y (HM.out.below HEY.out) (HL.out.below HEY.out)
            rw [hc] at hck
            have HCK := hid hck
            obtain ⟨m1, hm1⟩ : ∃ b, decide (1 ≤ min v21 v22) = b := ⟨_, rfl⟩
            obtain ⟨m2, hm2⟩ : ∃ b, decide (max v21 v22 ≤ 1099511627776) = b := ⟨_, rfl⟩
            obtain ⟨g2, hg2⟩ : ∃ b, B.g 2 = b := ⟨_, rfl⟩
            obtain ⟨l0, hl0⟩ : ∃ b, ((B.I.length : Int) == 0) = b := ⟨_, rfl⟩
            obtain ⟨z0, hz0⟩ : ∃ b, (v20 == 0) = b := ⟨_, rfl⟩
            have HRE := hid (show r = if g2 = true then (if v20 = 1 then fi && (m1 && m2) else fi) && c else (if v20 = 1 then fi && (m1 && m2) else fi) && (l0 && z0) by
              rw [← HR.out]
              unfold rightB refB
              rw [hv20, hv21, hv22, HFI.out, hm1, hm2, hg2, hc]
              have e1 : decide (B.I.length = 0) = l0 := by rw [← hl0]; rw [Bool.eq_iff_iff]; simp
              have e2 : decide (v20 = 0) = z0 := by rw [← hz0]; rw [Bool.eq_iff_iff]; simp
              rw [e1, e2])
            rw [hg2] at y2
            have HY := hid hY
            have HEL := hid HEY.out
            rw [hY] at hld y2 y18 y20 lY HEL
            have HM1 := hid hm1
            have HM2 := hid hm2
            clear hX hY hbY hck hv20 hv21 hv22 hc hg2 hm1 hm2
            by_cases h1 : v20 = 1
            · have HRE2 := hid (show r = if g2 = true then (fi && (m1 && m2)) && c else (fi && (m1 && m2)) && (l0 && z0) by have := HRE.out; rwa [if_pos h1] at this)
              clear HRE
              subst h1
              cases fi with
              | false =>
                cases g2
                all_goals
                  go_wp2
                  go_ret
                  exact ⟨by rw [HRE2.out]; rfl, HEL.out⟩
              | true =>
                rcases Int.lt_trichotomy v21 v22 with hlt | rfl | hlt
                · have E1 := hid (show min v21 v22 = v21 by omega)
                  have E2 := hid (show max v21 v22 = v22 by omega)
                  have hnl : ¬ v22 < v21 := by omega
                  by_cases n1 : 1 ≤ v21
                  · obtain rfl : m1 = true := by rw [← HM1.out, E1.out]; simpa using n1
                    by_cases n2 : v22 ≤ 1099511627776
                    · obtain rfl : m2 = true := by rw [← HM2.out, E2.out]; simpa using n2
                      cases g2 with
                      | false =>
                        cases l0 with
                        | false =>
                          go_wp2
                          go_ret
                          exact ⟨by rw [HRE2.out]; rfl, HEL.out⟩
                        | true =>
                          cases z0
                          all_goals
                            go_wp2
                            go_ret
                            exact ⟨by rw [HRE2.out]; rfl, HEL.out⟩
                      | true =>
                        go_wp2_with fail
                        rw [← HY.out]
                        refine HCK.out.mono ?_
                        rintro e Z ⟨rfl, hz⟩
                        have HZ := hid (HEY.out.trans (hz.mono HEY.out.size))
                        clear hz
                        cases c
                        all_goals
                          try simp only [okN, Bool.false_eq_true, if_false, if_true]
                          go_wp2
                          go_ret
                          exact ⟨by rw [HRE2.out]; rfl, HZ.out⟩
                    · obtain rfl : m2 = false := by rw [← HM2.out, E2.out]; simpa using n2
                      cases g2
                      all_goals
                        go_wp2
                        go_ret
                        exact ⟨by rw [HRE2.out]; rfl, HEL.out⟩
                  · obtain rfl : m1 = false := by rw [← HM1.out, E1.out]; simpa using n1
                    cases g2
                    all_goals
                      go_wp2
                      go_ret
                      exact ⟨by rw [HRE2.out]; rfl, HEL.out⟩
                · have E1 := hid (show min v21 v21 = v21 by omega)
                  have E2 := hid (show max v21 v21 = v21 by omega)
                  by_cases n1 : 1 ≤ v21
                  · obtain rfl : m1 = true := by rw [← HM1.out, E1.out]; simpa using n1
                    by_cases n2 : v21 ≤ 1099511627776
                    · obtain rfl : m2 = true := by rw [← HM2.out, E2.out]; simpa using n2
                      cases g2 with
                      | false =>
                        cases l0 with
                        | false =>
                          go_wp2
                          go_ret
                          exact ⟨by rw [HRE2.out]; rfl, HEL.out⟩
                        | true =>
                          cases z0
                          all_goals
                            go_wp2
                            go_ret
                            exact ⟨by rw [HRE2.out]; rfl, HEL.out⟩
                      | true =>
                        go_wp2_with fail
                        rw [← HY.out]
                        refine HCK.out.mono ?_
                        rintro e Z ⟨rfl, hz⟩
                        have HZ := hid (HEY.out.trans (hz.mono HEY.out.size))
                        clear hz
                        cases c
                        all_goals
                          try simp only [okN, Bool.false_eq_true, if_false, if_true]
                          go_wp2
                          go_ret
                          exact ⟨by rw [HRE2.out]; rfl, HZ.out⟩
                    · obtain rfl : m2 = false := by rw [← HM2.out, E2.out]; simpa using n2
                      cases g2
                      all_goals
                        go_wp2
                        go_ret
                        exact ⟨by rw [HRE2.out]; rfl, HEL.out⟩
                  · obtain rfl : m1 = false := by rw [← HM1.out, E1.out]; simpa using n1
                    cases g2
                    all_goals
                      go_wp2
                      go_ret
                      exact ⟨by rw [HRE2.out]; rfl, HEL.out⟩
                · have E1 := hid (show min v21 v22 = v22 by omega)
                  have E2 := hid (show max v21 v22 = v21 by omega)
                  have hnl : ¬ v21 < v22 := by omega
                  by_cases n1 : 1 ≤ v22
                  · obtain rfl : m1 = true := by rw [← HM1.out, E1.out]; simpa using n1
                    by_cases n2 : v21 ≤ 1099511627776
                    · obtain rfl : m2 = true := by rw [← HM2.out, E2.out]; simpa using n2
                      cases g2 with
                      | false =>
                        cases l0 with
                        | false =>
                          go_wp2
                          go_ret
                          exact ⟨by rw [HRE2.out]; rfl, HEL.out⟩
                        | true =>
                          cases z0
                          all_goals
                            go_wp2
                            go_ret
                            exact ⟨by rw [HRE2.out]; rfl, HEL.out⟩
                      | true =>
                        go_wp2_with fail
                        rw [← HY.out]
                        refine HCK.out.mono ?_
                        rintro e Z ⟨rfl, hz⟩
                        have HZ := hid (HEY.out.trans (hz.mono HEY.out.size))
                        clear hz
                        cases c
                        all_goals
                          try simp only [okN, Bool.false_eq_true, if_false, if_true]
                          go_wp2
                          go_ret
                          exact ⟨by rw [HRE2.out]; rfl, HZ.out⟩
                    · obtain rfl : m2 = false := by rw [← HM2.out, E2.out]; simpa using n2
                      cases g2
                      all_goals
                        go_wp2
                        go_ret
                        exact ⟨by rw [HRE2.out]; rfl, HEL.out⟩
                  · obtain rfl : m1 = false := by rw [← HM1.out, E1.out]; simpa using n1
                    cases g2
                    all_goals
                      go_wp2
                      go_ret
                      exact ⟨by rw [HRE2.out]; rfl, HEL.out⟩
            · have hne : (v20 == 1) = false := by simpa using h1
              have HRE2 := hid (show r = if g2 = true then fi && c else fi && (l0 && z0) by have := HRE.out; rwa [if_neg h1] at this)
              clear h1 HRE
              cases fi with
              | false =>
                cases g2
                all_goals
                  go_wp2
                  go_ret
                  exact ⟨by rw [HRE2.out]; rfl, HEL.out⟩
              | true =>
                cases g2 with
                | false =>
                  cases l0 with
                  | false =>
                    go_wp2
                    go_ret
                    exact ⟨by rw [HRE2.out]; rfl, HEL.out⟩
                  | true =>
                    cases z0
                    all_goals
                      go_wp2
                      go_ret
                      exact ⟨by rw [HRE2.out]; rfl, HEL.out⟩
                | true =>
                  go_wp2_with fail
                  rw [← HY.out]
                  refine HCK.out.mono ?_
                  rintro e Z ⟨rfl, hz⟩
                  have HZ := hid (HEY.out.trans (hz.mono HEY.out.size))
                  clear hz
                  cases c
                  all_goals
                    try simp only [okN, Bool.false_eq_true, if_false, if_true]
                    go_wp2
                    go_ret
                    exact ⟨by rw [HRE2.out]; rfl, HZ.out⟩
end Go.Proofs.YthnigndpibgibaaDoor
