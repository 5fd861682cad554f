/- BrainNot: a record that is not as it is to be changes nothing. Printed by gn_ln.py. -/
import Derived.Test.YthnigndpibgibaaDoorLr
import Derived.Test.YthnigndpibgibaaDoorVd
import Derived.Test.YthnigndpibgibaaDoorPln
import Derived.Test.YthnigndpibgibaaDoorSlc
import Derived.Laws.BitsLemmas
import Derived.BigQuiet
import Derived.Deep.RegionHeld3
import Derived.Deep.RegionLaw
import Derived.Deep.Cut
namespace Go.Proofs.YthnigndpibgibaaDoor
open Go.RowKit Go.Shelf
attribute [-go_sem] loadVar storeVar Instr.buildSlice sliced run_sliceAt_slice
attribute [local go_sem] load_other store_other

theorem i64_and1023 (n : Int) : bits .and .i64 n 1023 = n % 1024 := by
  have h127 : (BitVec.ofInt 64 1023).toNat = 2 ^ 10 - 1 := by decide
  have key : (BitVec.ofInt 64 n &&& BitVec.ofInt 64 1023).toNat = (n % ((2 ^ 64 : Nat) : Int)).toNat % 2 ^ 10 := by
    rw [BitVec.toNat_and, BitVec.toNat_ofInt, h127, Nat.and_two_pow_sub_one_eq_mod]
  show IntKind.i64.wrap ((BitVec.ofInt 64 n &&& BitVec.ofInt 64 1023).toNat : Nat) = n % 1024
  rw [key, IntKind.wrap_i64]
  omega
theorem pick13 (key : Int) (n : Nat) (hn : 0 < n) (hn' : n ≤ 1000000) : ∃ j : Nat, j < n ∧ (wrap64 (key.tmod (n : Int) + (n : Int))).tmod (n : Int) = (j : Int) := by
  have h1 : key.tmod (n : Int) < n := Int.tmod_lt_of_pos _ (by omega)
  have h2 : -(n : Int) < key.tmod (n : Int) := Int.lt_tmod_of_pos _ (by omega)
  have h3 : wrap64 (key.tmod (n : Int) + (n : Int)) = key.tmod (n : Int) + (n : Int) := by unfold wrap64; omega
  rw [h3]
  have h4 : 0 ≤ (key.tmod (n : Int) + (n : Int)).tmod (n : Int) := Int.tmod_nonneg _ (by omega)
  have h5 : (key.tmod (n : Int) + (n : Int)).tmod (n : Int) < n := Int.tmod_lt_of_pos _ (by omega)
  exact ⟨((key.tmod (n : Int) + (n : Int)).tmod (n : Int)).toNat, by omega, by omega⟩
theorem bs_rec (k : Int) (a : Option Addr) (n c : Nat) (w : World) : (Instr.buildSlice 31 1 #[(0, .agg #[.int .u8 k, .slice a n c])]).run Tryd.prog w = .ok (.slice (some ⟨w.heap.size, 0, none⟩) 1 1) (w.alloc (.cells #[.int .u8 k, .slice a n c] 37)) := by kernel_rfl
theorem bs_int0' (w : World) : (Instr.buildSlice 22 0 #[]).run Tryd.prog w = .ok (.slice (some ⟨w.heap.size, 0, none⟩) 0 0) (w.alloc (.cells #[] 3)) := by kernel_rfl
theorem bs_int1 (y : Int) (w : World) : (Instr.buildSlice 22 1 #[(0, .int .i64 y)]).run Tryd.prog w = .ok (.slice (some ⟨w.heap.size, 0, none⟩) 1 1) (w.alloc (.cells #[.int .i64 y] 3)) := by kernel_rfl
theorem sameB_of {A B : BrainV} (h : A = B) : sameB A B = true := by rw [h]; exact sameB_refl B
theorem encI_one' (m : List Int) : ∀ y ∈ m, ∀ u ∈ encI y, u.oneCell' = true := by
  intro y _ u hu
  simp only [encI, List.mem_singleton] at hu
  rw [hu]; rfl
/-- A record in a variable of the call's own, its row too. -/
structure RecOwn (W X : World) (T : Nat) (k : Int) (v : Value) (L : List Int) : Prop where
  box : X.heap[T]? = some (.cells #[.int .u8 k, v] 37)
  own : OwnI X W.heap.size v L
  bel : Below W.heap.size W X
  le : W.heap.size ≤ T
section
variable {W X X' : World} {T : Nat} {k : Int} {v : Value} {L : List Int}
theorem RecOwn.below (h : RecOwn W X T k v L) (hb : Below X.heap.size X X') : RecOwn W X' T k v L :=
  ⟨blk_below h.box hb (blk_lt h.box), Owns.below h.own hb, h.bel.trans (hb.mono h.bel.size), h.le⟩
theorem RecOwn.is (h : RecOwn W X T k v L) : RecIs X k L (.agg #[.int .u8 k, v]) := ⟨v, rfl, h.own.row (fun _ => rfl) (by decide)⟩
theorem RecOwn.made {w' : World} {c0 c1 : Value} (hz : w'.heap[T]? = some (.cells #[c0, c1] 37)) (ho : OwnI w' W.heap.size v L) (hbw : Below W.heap.size W w') (hT : W.heap.size ≤ T) :
    RecOwn W ((w'.setCell ⟨T, 0, none⟩ (.int .u8 k)).setCell ⟨T, 1, none⟩ v) T k v L := by
  have h1 := blk_set hz 0 (.int .u8 k)
  exact ⟨blk_set h1 1 v, owns_at (owns_at ho hz (by decide) 0 _) h1 (by decide) 1 _, (hbw.setCell (p := ⟨T, 0, none⟩) hT _).setCell (p := ⟨T, 1, none⟩) hT _, hT⟩
theorem RecOwn.write {g n c m : Nat} (h : RecOwn W X T k (.slice (some ⟨g, 0, none⟩) n c) L) {x : Int} (hx : L[m]? = some x) (y : Int) : RecOwn W (X.setCell ⟨g, m, none⟩ (.int .i64 y)) T k (.slice (some ⟨g, 0, none⟩) n c) (L.set m y) := by
  obtain ⟨cur, h1, _⟩ := Owns.blk h.own
  have hg := (Owns.block h.own g rfl).1
  have := Owns.cell (k := 1) (enc := encI) (fun _ => rfl) h.own hx (j := 0) (by decide) (.int .i64 y) (x' := y) rfl
  simp only [Nat.mul_one, Nat.add_zero] at this
  refine ⟨?_, this, h.bel.setCell (p := ⟨g, m, none⟩) hg _, h.le⟩
  exact blk_other h.box (p := ⟨g, m, none⟩) (fun e => by have h2 := h.box; dsimp only at e; rw [e, h1] at h2; cases h2) _
end
theorem wp_named {C : Code} {P : Program} {Q : Exit → Act → World → Prop} {a : Act} {w : World} (h : ∀ U, U = w → C.wp P Q a U) : C.wp P Q a w := h w rfl
theorem wp_namedQ {Q : Exit → Act → World → Prop} {e : Exit} {a : Act} {w : World} (h : ∀ U, U = w → Q e a U) : Q e a w := h w rfl
def NewRec (base : World) (v : Value) (w : World) : Prop := ∃ T, v = .pointer (some ⟨T, 0, none⟩) ∧ base.heap.size ≤ T ∧ w.heap[T]? = some (.cells #[.int .u8 0, .slice none 0 0] 37)
theorem stays_newRec (base : World) : Stays (NewRec base) := by
  rintro v w w' ⟨T, h1, h2, h3⟩ hb
  exact ⟨T, h1, h2, blk_below h3 hb (blk_lt h3)⟩
theorem stw_newRec (base : World) : StaysW (KeptT 37) (NewRec base) := by
  rintro v w w' ⟨T, h1, h2, h3⟩ hb
  exact ⟨T, h1, h2, hb T _ h3⟩
theorem stwE_newRec (base : World) : StaysW KeptE (NewRec base) := by
  rintro v w w' ⟨T, h1, h2, h3⟩ hb
  exact ⟨T, h1, h2, hb T _ _ (by simp) h3⟩
theorem from_i1 (a : Option Addr) (n c : Nat) (hm : 1 ≤ n) (w : World) : (Instr.sliceAt 22 (.slice a n c) (some (.int .i64 1)) none none).run Tryd.prog w = .ok (sliced a 1 n c 1) w := by
  obtain ⟨k0, hk0, _, hk2, _⟩ := info_parts infoI
  exact run_from _ 3 k0 (by kernel_rfl) (by kernel_rfl) hk0 hk2 a n c 1 hm w
def RecSpec (base : World) (k : Int) (L : List Int) (v : Value) (w : World) : Prop := ∃ a n c, v = .agg #[.int .u8 k, .slice a n c] ∧ OwnI w base.heap.size (.slice a n c) L
theorem stays_recSpec (base : World) (k : Int) (L : List Int) : Stays (RecSpec base k L) := by
  rintro v w w' ⟨a, n, c, h1, h2⟩ hb
  exact ⟨a, n, c, h1, Owns.below h2 hb⟩
set_option maxRecDepth 100000 in
set_option maxHeartbeats 8000000 in
theorem not_law (B : BrainV) (bv s : Value) (k : Int) (L : List Int) (at0 n0 : Int) (w : World) (hB : BrIs w B bv) (hs : RowOf 1 encI w s L) (hk8 : in8 k) (hph : ∀ x ∈ B.K, in8 x.phase) (hC : Changes w) (hLm : Limits w) :
    Calls Tryd.prog 6 #[bv, recV k s, .int .i64 at0, .int .i64 n0] w fun e w' => e = .returned (.bool true) ∧ Below w.heap.size w w' := by
  obtain ⟨i0, hi0, hi1, hi2, hi3⟩ := info_parts infoI
  have HI0 := hid hi0
  have HI1 := hid hi1
  have HI2 := hid hi2
  have HI3 := hid hi3
  have HK8 := hid hk8
  clear hi0 hi1 hi2 hi3 hk8
  obtain ⟨sa, sc, rfl, p1, p2, p3, hop⟩ := hs.open
  obtain ⟨ma, mc, ia, ic, ka, kc, rfl, hm, hi, hk⟩ := hB.open
  have HB := hid hB
  have HS := hid hs
  have HC := hid hC
  have HL := hid hLm
  have HOP := hid hop
  obtain ⟨bv, hbv⟩ : ∃ bv, bv = brT B.f B.g (.slice ma B.M.length mc) (.slice ia B.I.length ic) (.slice ka B.K.length kc) := ⟨_, rfl⟩
  obtain ⟨W1, hW1⟩ : ∃ W1, W1 = (w.alloc (.cells bv 30)).alloc (.cells #[.int .u8 k, .slice sa L.length sc] 37) := ⟨_, rfl⟩
  have hb1 : Below w.heap.size w W1 := by rw [hW1]; exact ((Below.refl _ _).alloc (Nat.le_refl _) _).alloc (by simp) _
  have n1 : BB W1 w.heap.size bv := by rw [hW1]; exact blk_alloc (heap_new _ _) _
  have r1 : W1.heap[w.heap.size + 1]? = some (.cells #[.int .u8 k, .slice sa L.length sc] 37) := by rw [hW1]; exact heap_new2 _ _ _
  have hz1 : W1.heap.size = w.heap.size + 2 := by rw [hW1]; simp
  have hV1 : VarIs W1 w.heap.size B (.agg bv) := by rw [hbv] at n1 ⊢; exact ⟨_, _, _, rfl, n1, hm.below hb1, hi.below hb1, hk.below hb1⟩
  have hrr := RecsR.one (k := k) (hs.below hb1)
  obtain ⟨W2, hW2⟩ : ∃ W2, W2 = W1.alloc (.cells #[.int .u8 k, .slice sa L.length sc] 37) := ⟨_, rfl⟩
  rw [← hW2] at hrr
  have hb2 : Below W1.heap.size W1 W2 := by rw [hW2]; exact (Below.refl _ _).alloc (Nat.le_refl _) _
  have hV2 := hV1.below hb2
  obtain ⟨xr, hxB, hxr⟩ := BrsR.one (hV2.is) rfl
  obtain ⟨W3, hW3⟩ : ∃ W3, W3 = W2.alloc (.cells bv 30) := ⟨_, rfl⟩
  rw [← hW3] at hxr
  have hb3 : Below W2.heap.size W2 W3 := by rw [hW3]; exact (Below.refl _ _).alloc (Nat.le_refl _) _
  have hz2 : W2.heap.size = w.heap.size + 3 := by rw [hW2]; simp; omega
  have HGR := hid (great13_any _ _ [⟨k, .slice sa L.length sc, L⟩] [xr] W3 (hrr.below hb3) hxr)
  rw [hz1, hz2] at HGR
  have HV3 := hid (hV2.below hb3)
  have HR1 := hid r1
  have HB1 := hid hb1
  have hb13 := hb2.trans (hb3.mono hb2.size)
  have HR3 := hid (blk_below r1 hb13 (blk_lt r1))
  have HB3 := hid (hb1.trans (hb13.mono hb1.size))
  have HW1 := hid hW1
  have HW2 := hid hW2
  have HW3 := hid hW3
  have HPH := hid hph
  have HXB := hid hxB
  have HBV := hid hbv
  have hld := hV2.load
  have hbs := bs_brain B.f B.g (.slice ma B.M.length mc) (.slice ia B.I.length ic) (.slice ka B.K.length kc)
  rw [← hbv] at hbs HB ⊢
  have hbr := bs_rec k sa L.length sc
  have x0 : W1.cell? ⟨w.heap.size + 1, 0, none⟩ = some (.int .u8 k) := blk_cell r1 0
  have x1 : W1.cell? ⟨w.heap.size + 1, 1, none⟩ = some (.slice sa L.length sc) := blk_cell r1 1
  have lx := blk_lt r1
  rw [hW2, hW1] at hld
  rw [hW1] at x0 x1 lx
  clear hB hs hC hLm hop hm hi hk hb1 n1 r1 hV1 hV2 hrr hxr hb2 hb3 hb13 hph hbv hxB hz1 hz2
  unfold recV
  go_enter Tryd.func6, Tryd.ntmps6
  go_wp2_with fail
  rw [← HW1.out, ← HW2.out, ← HW3.out]
  refine HGR.out.mono ?_
  rintro e W4 ⟨q, rfl, hq, hb⟩
  have HB4 := hid (HB3.out.trans (hb.mono HB3.out.size))
  have HV4 := hid (HV3.out.below hb)
  have HR4 := hid (blk_below HR3.out hb (blk_lt HR3.out))
  have hld := HV4.out.load
  have HQ := hid hq
  clear hb hq hbs hbr hW1 hW2 hW3 x0 x1 lx
  cases q with
  | true =>
    go_wp2_with fail
    refine (wakes_any W4 (HC.out.below HB4.out) (HL.out.below HB4.out)).mono ?_
    rintro e Ww ⟨rfl, hb⟩
    have HBw := hid (HB4.out.trans (hb.mono HB4.out.size))
    clear hb
    go_wp2
    go_ret
    exact ⟨rfl, HBw.out⟩
  | false =>
    obtain ⟨_, hL40, hG⟩ := HQ.out rfl
    have hL40 : L.length ≤ 40 := hL40 _ (List.mem_singleton.2 rfl)
    have hgr := hG xr (List.mem_singleton.2 rfl)
    rw [HXB.out] at hgr
    have hgb : B.I.length ≤ 40 ∧ B.K.length ≤ 40 ∧ B.M.length ≤ 40 := by
      unfold greatB at hgr
      simp only [Bool.or_eq_false_iff, decide_eq_false_iff_not] at hgr
      omega
    have HGB := hid hgb
    clear hgr hG hgb
    have hl40 : L.length ≤ 40 := hL40
    clear hL40
    have x1 : W4.cell? ⟨w.heap.size + 1, 1, none⟩ = some (.slice sa L.length sc) := blk_cell HR4.out 1
    have x0 : W4.cell? ⟨w.heap.size + 1, 0, none⟩ = some (.int .u8 k) := blk_cell HR4.out 0
    have lx := blk_lt HR4.out
    have k0 : 0 ≤ k := HK8.out.1
    have k1 : k ≤ 255 := HK8.out.2
    by_cases h30 : (30 : Int) < (L.length : Int)
    · have d0 : decide ((30 : Int) < (L.length : Int)) = true := decide_eq_true h30
      clear h30
      go_wp2_with fail
      refine (wakes_any W4 (HC.out.below HB4.out) (HL.out.below HB4.out)).mono ?_
      rintro e Ww ⟨rfl, hb⟩
      have HBw := hid (HB4.out.trans (hb.mono HB4.out.size))
      clear hb
      go_wp2
      go_ret
      exact ⟨rfl, HBw.out⟩
    · have d0 : decide ((30 : Int) < (L.length : Int)) = false := decide_eq_false h30
      have HL30 := hid (show L.length ≤ 30 by omega)
      clear h30
      have HFI := hid (show Fine B 40 from ⟨HGB.out.1, HGB.out.2.1, HPH.out⟩)
      have hld := HV4.out.load
      go_upto_region 4 with (fail)
      refine wp_named (fun W5 hW5 => ?_)
      obtain ⟨ko, hko⟩ : ∃ ko, k % 200 + 17 = ko := ⟨_, rfl⟩
      rw [hko] at hW5 ⊢
      have hb45 : Below W4.heap.size W4 W5 := by rw [hW5]; exact (Below.refl _ _).alloc (Nat.le_refl _) _
      have HO5 := hid (show W5.heap[W4.heap.size]? = some (.cells #[.int .u8 ko, .slice sa L.length sc] 37) by rw [hW5]; exact heap_new _ _)
      have HNK := hid (show applyB B ko L = B from not_kind (by omega) (deedN_great (by omega)) L)
      have HB5 := hid (HB4.out.trans (hb45.mono HB4.out.size))
      have HV5 := hid (HV4.out.below hb45)
      have HR5 := hid (blk_below HR4.out hb45 (blk_lt HR4.out))
      obtain ⟨T9, hT9⟩ : ∃ T, W4.heap.size = T := ⟨_, rfl⟩
      rw [hT9] at HO5 ⊢
      clear hW5 hko hb45 x0 x1 lx k0 k1 d0 hld hT9
      refine wp_region_held_drew (S := fun _ => True) (by kernel_rfl) trivial (fun _ => ?_)
      refine wpAnyH_grownG (w0 := W5.drew) (spL [fun z _ => z = (.agg bv), fun z _ => z = .agg #[.int .u8 ko, .slice sa L.length sc], fun z w => BrEnd W5 (applyB B ko (L)) z w, fun z _ => z = (.agg bv), fun z _ => z = .bool true, fun z _ => z = .bool false, fun z _ => z = .bool false, fun z _ => z = (.agg bv), fun z _ => z = .pointer (some ⟨w.heap.size + 1, 1, none⟩), fun z _ => z = .slice sa L.length sc, fun z _ => z = .agg #[.int .u8 0, .slice sa L.length sc], fun z w => BrEnd W5 (applyB B 0 (L)) z w, fun z _ => z = (.agg bv), fun z _ => z = .bool true, fun z _ => z = .bool false, fun z _ => z = .bool false]) (spL_stays ⟨stays_eq _, stays_eq _, stays_brEnd _ _, stays_eq _, stays_eq _, stays_eq _, stays_eq _, stays_eq _, stays_eq _, stays_eq _, stays_eq _, stays_brEnd _ _, stays_eq _, stays_eq _, stays_eq _, stays_eq _, trivial⟩) (by kernel_rfl) (by kernel_rfl) ?steps4 ?fin4 rfl
      case steps4 =>
        refine ⟨?_, ?_, ?_, ?_, ?_, ?_, ?_, ?_, ?_, ?_, ?_, ?_, ?_, ?_, ?_, ?_, trivial⟩
        · intro a' w' hB hdep hoth K hK
          rw [if_pos (guard_none rfl)]
          have hbw : Below W5.heap.size W5 w' := (below_drewN (Below.refl _ _) 1).trans hB
          have t4 := hoth 4 (notDst_at (by kernel_rfl))
          simp only [List.getElem?_toArray, List.getElem?_cons_succ, List.getElem?_cons_zero] at t4
          have hld := (HV5.out.below hbw).load
          clear hdep hoth
          go_simp
          exact hK _ _ (Below.refl _ _) rfl
        · intro a' w' hB hdep hoth K hK
          rw [if_pos (guard_none rfl)]
          have hbw : Below W5.heap.size W5 w' := (below_drewN (Below.refl _ _) 1).trans hB
          have t9 := hoth 9 (notDst_at (by kernel_rfl))
          simp only [List.getElem?_toArray, List.getElem?_cons_succ, List.getElem?_cons_zero] at t9
          have hr5 := blk_below HO5.out hbw (blk_lt HO5.out)
          have x0 : w'.cell? ⟨T9, 0, none⟩ = some (.int .u8 ko) := blk_cell hr5 0
          have x1 : w'.cell? ⟨T9, 1, none⟩ = some (.slice sa L.length sc) := blk_cell hr5 1
          have lx := blk_lt hr5
          clear hr5
          clear hdep hoth
          go_simp
          exact hK _ _ (Below.refl _ _) rfl
        · intro a' w' hB hdep hoth K hK
          rw [if_pos (guard_none rfl)]
          have hbw : Below W5.heap.size W5 w' := (below_drewN (Below.refl _ _) 1).trans hB
          obtain ⟨v0, g0, e0⟩ := hdep ⟨0, .data⟩ (by simp) rfl
          have g0 := g0 32 rfl (by simp)
          obtain rfl : v0 = (.agg bv) := e0
          obtain ⟨v1, g1, e1⟩ := hdep ⟨1, .data⟩ (by simp) rfl
          have g1 := g1 33 rfl (by simp)
          obtain rfl : v1 = .agg #[.int .u8 ko, .slice sa L.length sc] := e1
          have HA := hid (apply_is (ko) (L) 40 (HV5.out.below hbw).is (⟨_, rfl, HS.out.below (HB5.out.trans (hbw.mono HB5.out.size))⟩) HFI.out (by omega) (by have := HGB.out.2.2; omega) (by have := HL30.out; simp; omega) (HC.out.below (HB5.out.trans (hbw.mono HB5.out.size))) (HL.out.below (HB5.out.trans (hbw.mono HB5.out.size))))
          clear hdep hoth
          go_simp
          refine HA.out.mono ?_
          rintro e w'' ⟨v, rfl, he, hb⟩
          exact hK v _ hb (he.base hbw.size)
        · intro a' w' hB hdep hoth K hK
          rw [if_pos (guard_none rfl)]
          have hbw : Below W5.heap.size W5 w' := (below_drewN (Below.refl _ _) 1).trans hB
          have t4 := hoth 4 (notDst_at (by kernel_rfl))
          simp only [List.getElem?_toArray, List.getElem?_cons_succ, List.getElem?_cons_zero] at t4
          have hld := (HV5.out.below hbw).load
          clear hdep hoth
          go_simp
          exact hK _ _ (Below.refl _ _) rfl
        · intro a' w' hB hdep hoth K hK
          rw [if_pos (guard_none rfl)]
          have hbw : Below W5.heap.size W5 w' := (below_drewN (Below.refl _ _) 1).trans hB
          obtain ⟨v0, q0, e0⟩ := hdep ⟨2, .data⟩ (by simp) rfl
          have q0 := q0 34 rfl (by simp)
          have e0 : BrEnd W5 (applyB B ko L) v0 w' := e0
          obtain ⟨v1, q1, e1⟩ := hdep ⟨3, .data⟩ (by simp) rfl
          have q1 := q1 35 rfl (by simp)
          obtain rfl : v1 = (.agg bv) := e1
          have HA := hid (rsame_is true (sameB_of HNK.out) e0.is (HV5.out.below hbw).is)
          clear hdep hoth e0
          go_simp
          refine HA.out.mono ?_
          rintro e w'' ⟨rfl, hb⟩
          exact hK _ _ hb rfl
        · intro a' w' hB hdep hoth K hK
          rw [if_pos (guard_none rfl)]
          have hbw : Below W5.heap.size W5 w' := (below_drewN (Below.refl _ _) 1).trans hB
          obtain ⟨vx0, gx0, ex0⟩ := hdep ⟨4, .data⟩ (by simp) rfl
          have gx0 := gx0 36 rfl (by simp)
          obtain rfl : vx0 = .bool true := ex0
          clear hdep hoth
          go_simp
          exact hK _ _ (Below.refl _ _) rfl
        · intro a' w' hB hdep hoth K hK
          rw [if_pos (guard_none rfl)]
          have hbw : Below W5.heap.size W5 w' := (below_drewN (Below.refl _ _) 1).trans hB
          obtain ⟨vx0, gx0, ex0⟩ := hdep ⟨5, .data⟩ (by simp) rfl
          have gx0 := gx0 37 rfl (by simp)
          obtain rfl : vx0 = .bool false := ex0
          clear hdep hoth
          go_simp
          exact hK _ _ (Below.refl _ _) rfl
        · intro a' w' hB hdep hoth K hK
          obtain ⟨vg, gg, eg⟩ := hdep ⟨6, .guard⟩ (by simp) rfl
          have gg := gg 38 rfl (by simp)
          obtain rfl : vg = .bool false := eg
          rw [guard_is rfl rfl gg]
          rw [if_pos (by decide)]
          have hbw : Below W5.heap.size W5 w' := (below_drewN (Below.refl _ _) 1).trans hB
          have t4 := hoth 4 (notDst_at (by kernel_rfl))
          simp only [List.getElem?_toArray, List.getElem?_cons_succ, List.getElem?_cons_zero] at t4
          have hld := (HV5.out.below hbw).load
          clear hdep hoth
          go_simp
          exact hK _ _ (Below.refl _ _) rfl
        · intro a' w' hB hdep hoth K hK
          obtain ⟨vg, gg, eg⟩ := hdep ⟨6, .guard⟩ (by simp) rfl
          have gg := gg 38 rfl (by simp)
          obtain rfl : vg = .bool false := eg
          rw [guard_is rfl rfl gg]
          rw [if_pos (by decide)]
          have hbw : Below W5.heap.size W5 w' := (below_drewN (Below.refl _ _) 1).trans hB
          have t5 := hoth 5 (notDst_at (by kernel_rfl))
          simp only [List.getElem?_toArray, List.getElem?_cons_succ, List.getElem?_cons_zero] at t5
          clear hdep hoth
          go_simp
          exact hK _ _ (Below.refl _ _) rfl
        · intro a' w' hB hdep hoth K hK
          obtain ⟨vg, gg, eg⟩ := hdep ⟨6, .guard⟩ (by simp) rfl
          have gg := gg 38 rfl (by simp)
          obtain rfl : vg = .bool false := eg
          rw [guard_is rfl rfl gg]
          rw [if_pos (by decide)]
          have hbw : Below W5.heap.size W5 w' := (below_drewN (Below.refl _ _) 1).trans hB
          obtain ⟨vx0, gx0, ex0⟩ := hdep ⟨8, .data⟩ (by simp) rfl
          have gx0 := gx0 40 rfl (by simp)
          obtain rfl : vx0 = .pointer (some ⟨w.heap.size + 1, 1, none⟩) := ex0
          have hr5 := blk_below HR5.out hbw (blk_lt HR5.out)
          have x0 : w'.cell? ⟨w.heap.size + 1, 0, none⟩ = some (.int .u8 k) := blk_cell hr5 0
          have x1 : w'.cell? ⟨w.heap.size + 1, 1, none⟩ = some (.slice sa L.length sc) := blk_cell hr5 1
          have lx := blk_lt hr5
          clear hr5
          clear hdep hoth
          go_simp
          exact hK _ _ (Below.refl _ _) rfl
        · intro a' w' hB hdep hoth K hK
          obtain ⟨vg, gg, eg⟩ := hdep ⟨6, .guard⟩ (by simp) rfl
          have gg := gg 38 rfl (by simp)
          obtain rfl : vg = .bool false := eg
          rw [guard_is rfl rfl gg]
          rw [if_pos (by decide)]
          have hbw : Below W5.heap.size W5 w' := (below_drewN (Below.refl _ _) 1).trans hB
          obtain ⟨vx0, gx0, ex0⟩ := hdep ⟨9, .data⟩ (by simp) rfl
          have gx0 := gx0 41 rfl (by simp)
          obtain rfl : vx0 = .slice sa L.length sc := ex0
          clear hdep hoth
          go_simp
          exact hK _ _ (Below.refl _ _) rfl
        · intro a' w' hB hdep hoth K hK
          obtain ⟨vg, gg, eg⟩ := hdep ⟨6, .guard⟩ (by simp) rfl
          have gg := gg 38 rfl (by simp)
          obtain rfl : vg = .bool false := eg
          rw [guard_is rfl rfl gg]
          rw [if_pos (by decide)]
          have hbw : Below W5.heap.size W5 w' := (below_drewN (Below.refl _ _) 1).trans hB
          obtain ⟨v0, g0, e0⟩ := hdep ⟨7, .data⟩ (by simp) rfl
          have g0 := g0 39 rfl (by simp)
          obtain rfl : v0 = (.agg bv) := e0
          obtain ⟨v1, g1, e1⟩ := hdep ⟨10, .data⟩ (by simp) rfl
          have g1 := g1 42 rfl (by simp)
          obtain rfl : v1 = .agg #[.int .u8 0, .slice sa L.length sc] := e1
          have HA := hid (apply_is (0) (L) 40 (HV5.out.below hbw).is (⟨_, rfl, HS.out.below (HB5.out.trans (hbw.mono HB5.out.size))⟩) HFI.out (by omega) (by have := HGB.out.2.2; omega) (by have := HL30.out; simp; omega) (HC.out.below (HB5.out.trans (hbw.mono HB5.out.size))) (HL.out.below (HB5.out.trans (hbw.mono HB5.out.size))))
          clear hdep hoth
          go_simp
          refine HA.out.mono ?_
          rintro e w'' ⟨v, rfl, he, hb⟩
          exact hK v _ hb (he.base hbw.size)
        · intro a' w' hB hdep hoth K hK
          obtain ⟨vg, gg, eg⟩ := hdep ⟨6, .guard⟩ (by simp) rfl
          have gg := gg 38 rfl (by simp)
          obtain rfl : vg = .bool false := eg
          rw [guard_is rfl rfl gg]
          rw [if_pos (by decide)]
          have hbw : Below W5.heap.size W5 w' := (below_drewN (Below.refl _ _) 1).trans hB
          have t4 := hoth 4 (notDst_at (by kernel_rfl))
          simp only [List.getElem?_toArray, List.getElem?_cons_succ, List.getElem?_cons_zero] at t4
          have hld := (HV5.out.below hbw).load
          clear hdep hoth
          go_simp
          exact hK _ _ (Below.refl _ _) rfl
        · intro a' w' hB hdep hoth K hK
          obtain ⟨vg, gg, eg⟩ := hdep ⟨6, .guard⟩ (by simp) rfl
          have gg := gg 38 rfl (by simp)
          obtain rfl : vg = .bool false := eg
          rw [guard_is rfl rfl gg]
          rw [if_pos (by decide)]
          have hbw : Below W5.heap.size W5 w' := (below_drewN (Below.refl _ _) 1).trans hB
          obtain ⟨v0, q0, e0⟩ := hdep ⟨11, .data⟩ (by simp) rfl
          have q0 := q0 43 rfl (by simp)
          have e0 : BrEnd W5 (applyB B 0 L) v0 w' := e0
          obtain ⟨v1, q1, e1⟩ := hdep ⟨12, .data⟩ (by simp) rfl
          have q1 := q1 44 rfl (by simp)
          obtain rfl : v1 = (.agg bv) := e1
          have HA := hid (rsame_is true (sameB_of (not_kind (by decide) deedN_zero L)) e0.is (HV5.out.below hbw).is)
          clear hdep hoth e0
          go_simp
          refine HA.out.mono ?_
          rintro e w'' ⟨rfl, hb⟩
          exact hK _ _ hb rfl
        · intro a' w' hB hdep hoth K hK
          obtain ⟨vg, gg, eg⟩ := hdep ⟨6, .guard⟩ (by simp) rfl
          have gg := gg 38 rfl (by simp)
          obtain rfl : vg = .bool false := eg
          rw [guard_is rfl rfl gg]
          rw [if_pos (by decide)]
          have hbw : Below W5.heap.size W5 w' := (below_drewN (Below.refl _ _) 1).trans hB
          obtain ⟨vx0, gx0, ex0⟩ := hdep ⟨13, .data⟩ (by simp) rfl
          have gx0 := gx0 45 rfl (by simp)
          obtain rfl : vx0 = .bool true := ex0
          clear hdep hoth
          go_simp
          exact hK _ _ (Below.refl _ _) rfl
        · intro a' w' hB hdep hoth K hK
          rw [if_pos (guard_none rfl)]
          have hbw : Below W5.heap.size W5 w' := (below_drewN (Below.refl _ _) 1).trans hB
          obtain ⟨vx0, gx0, ex0⟩ := hdep ⟨6, .data⟩ (by simp) rfl
          have gx0 := gx0 38 rfl (by simp)
          obtain rfl : vx0 = .bool false := ex0
          obtain ⟨vx1, gx1, ex1⟩ := hdep ⟨14, .data⟩ (by simp) rfl
          have gx1 := gx1 46 rfl (by simp)
          obtain rfl : vx1 = .bool false := ex1
          clear hdep hoth
          go_simp
          exact hK _ _ (Below.refl _ _) rfl
      case fin4 =>
        intro vs W6 hB hs
        have hbw : Below W5.heap.size W5 W6 := (below_drewN (Below.refl _ _) 1).trans hB
        have ev : vs 15 = .bool false := hs 15 (by decide)
        clear hs
        simp only [actOf, dstAt, if_true, List.getElem?_toArray, List.getElem?_cons_succ, List.getElem?_cons_zero, Option.bind_some, Act.put, List.setIfInBounds_toArray, List.set_cons_zero, List.set_cons_succ, List.length_cons, List.length_nil, Nat.reduceAdd]
        rw [ev]
        clear ev hB
        have HV6 := hid (HV5.out.below hbw)
        have HR6 := hid (blk_below HR5.out hbw (blk_lt HR5.out))
        have HB6 := hid (HB5.out.trans (hbw.mono HB5.out.size))
        clear hbw
        have x1 : W6.cell? ⟨w.heap.size + 1, 1, none⟩ = some (.slice sa L.length sc) := blk_cell HR6.out 1
        have lx := blk_lt HR6.out
        by_cases hl0 : 0 < L.length
        · have d0 : decide ((0 : Int) < (L.length : Int)) = true := decide_eq_true (by omega)
          have hbn := bs_int0'
          go_upto_region 7 with (fail)
          clear x1 lx d0
          refine wp_region_cut 8 1 (fun _ => True) (by kernel_rfl) (by kernel_rfl) (by kernel_rfl) ?_
          simp only [List.take_succ_cons, List.take_zero]
          refine wpAnyH_grownD (w0 := W6.drew) (spL _) (relD [5] (KeptT 37) [] KeptE) (aliveD [(5, 2)]) (ancD [(5, 6)]) (spD (n := 8) (m := 8) (l := [fun z _ => z = .pointer (some ⟨w.heap.size + 1, 0, none⟩), fun z _ => z = .int .u8 k, NewRow 3 W6.heap.size, fun z _ => z = .pointer (some ⟨w.heap.size + 1, 1, none⟩), fun z _ => z = .slice sa L.length sc, fun v w => OwnI w W6.heap.size v ([] ++ L), RecSpec W6 k L, NewRec W6]) (apps := [5]) (stab := [0, 1, 3, 4, 7]) (appsE := []) (stabE := []) ⟨stays_eq _, stays_eq _, stays_newRow _ _, stays_eq _, stays_eq _, stays_owns 1 _ encI _ _, stays_recSpec _ _ _, stays_newRec _, trivial⟩ ⟨stw_eq _ _, stw_eq _ _, stw_eq _ _, stw_eq _ _, stw_newRec _, trivial⟩ trivial rfl (by decide) (by decide)) (by kernel_rfl) (by kernel_rfl) (by kernel_rfl) (by kernel_rfl) ?steps7 ?fin7 rfl
          case steps7 =>
            refine ⟨?_, ?_, ?_, ?_, ?_, ?_, ?_, ?_, trivial⟩
            · intro a' w' hB hdep hoth K hK
              have hK := growB hB hK
              rw [if_pos (guard_none rfl)]
              have hbw : Below W6.heap.size W6 w' := (below_drewN (Below.refl _ _) 1).trans hB
              have t5 := hoth 5 (notDst_at (by kernel_rfl))
              simp only [List.getElem?_toArray, List.getElem?_cons_succ, List.getElem?_cons_zero] at t5
              clear hdep hoth
              go_simp
              exact hK _ _ (Below.refl _ _) rfl
            · intro a' w' hB hdep hoth K hK
              have hK := growB hB hK
              rw [if_pos (guard_none rfl)]
              have hbw : Below W6.heap.size W6 w' := (below_drewN (Below.refl _ _) 1).trans hB
              obtain ⟨vx0, gx0, ex0⟩ := hdep ⟨0, .data⟩ (by simp) rfl
              have gx0 := gx0 52 rfl (by simp)
              obtain rfl : vx0 = .pointer (some ⟨w.heap.size + 1, 0, none⟩) := ex0
              have hr5 := blk_below HR6.out hbw (blk_lt HR6.out)
              have x0 : w'.cell? ⟨w.heap.size + 1, 0, none⟩ = some (.int .u8 k) := blk_cell hr5 0
              have x1 : w'.cell? ⟨w.heap.size + 1, 1, none⟩ = some (.slice sa L.length sc) := blk_cell hr5 1
              have lx := blk_lt hr5
              clear hr5
              clear hdep hoth
              go_simp
              exact hK _ _ (Below.refl _ _) rfl
            · intro a' w' hB hdep hoth K hK
              have hK := growB hB hK
              rw [if_pos (guard_none rfl)]
              have hbw : Below W6.heap.size W6 w' := (below_drewN (Below.refl _ _) 1).trans hB
              clear hdep hoth
              go_simp
              exact hK _ _ ((Below.refl _ _).alloc (Nat.le_refl _) _) ⟨_, rfl, hbw.size, heap_new _ _⟩
            · intro a' w' hB hdep hoth K hK
              have hK := growB hB hK
              rw [if_pos (guard_none rfl)]
              have hbw : Below W6.heap.size W6 w' := (below_drewN (Below.refl _ _) 1).trans hB
              have t5 := hoth 5 (notDst_at (by kernel_rfl))
              simp only [List.getElem?_toArray, List.getElem?_cons_succ, List.getElem?_cons_zero] at t5
              clear hdep hoth
              go_simp
              exact hK _ _ (Below.refl _ _) rfl
            · intro a' w' hB hdep hoth K hK
              have hK := growB hB hK
              rw [if_pos (guard_none rfl)]
              have hbw : Below W6.heap.size W6 w' := (below_drewN (Below.refl _ _) 1).trans hB
              obtain ⟨vx0, gx0, ex0⟩ := hdep ⟨3, .data⟩ (by simp) rfl
              have gx0 := gx0 55 rfl (by simp)
              obtain rfl : vx0 = .pointer (some ⟨w.heap.size + 1, 1, none⟩) := ex0
              have hr5 := blk_below HR6.out hbw (blk_lt HR6.out)
              have x0 : w'.cell? ⟨w.heap.size + 1, 0, none⟩ = some (.int .u8 k) := blk_cell hr5 0
              have x1 : w'.cell? ⟨w.heap.size + 1, 1, none⟩ = some (.slice sa L.length sc) := blk_cell hr5 1
              have lx := blk_lt hr5
              clear hr5
              clear hdep hoth
              go_simp
              exact hK _ _ (Below.refl _ _) rfl
            · intro a' w' hB hdep hoth K hK
              have hbw : Below W6.heap.size W6 w' := (below_drewN (Below.refl _ _) 1).trans hB
              obtain ⟨vO, gO, eO⟩ := hdep ⟨2, .data⟩ (by simp) rfl
              have gO := gO 54 rfl (by simp)
              obtain ⟨vx, gx, ex⟩ := hdep ⟨4, .data⟩ (by simp) rfl
              have gx := gx 56 rfl (by simp)
              obtain rfl : vx = .slice sa L.length sc := ex
              obtain ⟨g, rfl, hg1, hg2⟩ := eO
              have eO : OwnI w' W6.heap.size (.slice (some ⟨g, 0, none⟩) 0 0) [] := newRow_owns hg1 hg2
              refine step_append_row rfl _ _ 22 rfl W6.heap.size 3 i0 _ 8 Tryd.underlying22 HI0.out HI1.out HI2.out HI3.out rfl (by decide) (fun _ => rfl) (.slice (some ⟨g, 0, none⟩) 0 0) [] (by simp [Act.eval, gO]) eO (.slice sa L.length sc) L (by simp [Act.eval, gx]) (encI_one' L) (HS.out.below (HB6.out.trans (hbw.mono HB6.out.size))) (by unfold maxLen; simp; have := HL30.out; omega) (by simp; have := HL30.out; omega) hbw.size ?_
              intro v' w'' hown hbb hgr
              exact hK v' w'' (hB.trans hbb) (KeptT.grown hgr (fun r e => Owns.typed eO r e) (by decide)) hown
            · intro a' w' hB hdep hoth K hK
              have hK := growB hB hK
              rw [if_pos (guard_none rfl)]
              have hbw : Below W6.heap.size W6 w' := (below_drewN (Below.refl _ _) 1).trans hB
              obtain ⟨v0, q0, e0⟩ := hdep ⟨1, .data⟩ (by simp) rfl
              have q0 := q0 53 rfl (by simp)
              obtain rfl : v0 = .int .u8 k := e0
              obtain ⟨v1, q1, e1⟩ := hdep ⟨5, .data⟩ (by simp) rfl
              have q1 := q1 57 rfl (by simp)
              have e1 : OwnI w' W6.heap.size v1 ([] ++ L) := e1
              obtain ⟨va, vn, vc, rfl⟩ := e1.shape
              have E1 := hid e1
              clear hdep hoth e1
              go_simp
              exact hK _ _ (Below.refl _ _) ⟨va, vn, vc, rfl, E1.out⟩
            · intro a' w' hB hdep hoth K hK
              have hK := growB hB hK
              rw [if_pos (guard_none rfl)]
              have hbw : Below W6.heap.size W6 w' := (below_drewN (Below.refl _ _) 1).trans hB
              clear hdep hoth
              go_simp
              exact hK _ _ ((Below.refl _ _).alloc (Nat.le_refl _) _) ⟨w'.heap.size, rfl, hbw.size, heap_new w' _⟩
          case fin7 =>
            intro vs w' hB hs
            have hbw : Below W6.heap.size W6 w' := (below_drewN (Below.refl _ _) 1).trans hB
            obtain ⟨va, vn, vc, e6, ho⟩ := hs 6 (by decide) (by decide)
            obtain ⟨T10, e7, hT, hz⟩ := hs 7 (by decide) (by decide)
            clear hs
            refine cutQ_held (fun _ => True) (fun f => ?_)
            simp only [actOf, dstAt, if_true, List.getElem?_toArray, List.getElem?_cons_succ, List.getElem?_cons_zero, Option.bind_some, Act.put, List.setIfInBounds_toArray, List.set_cons_zero, List.set_cons_succ, List.length_cons, List.length_nil, Nat.reduceAdd]
            rw [e6, e7]
            have z0 := blk_cell hz 0
            have z1 := blk_cell hz 1
            have zf0 := blk_free hz 0
            have zf1 := blk_free hz 1
            have zl := blk_lt hz
            have hmade := RecOwn.made (k := k) hz ho hbw hT
            have HMADE := hid hmade
            simp only [List.getElem?_toArray, List.getElem?_cons_zero, List.getElem?_cons_succ] at z0 z1
            clear hmade ho hz hT
            refine wpAnyH_ready (rs := [8]) (by kernel_rfl) (by simp) ?_
            refine AllReadyH.cons rfl (fun K hK => ?_) AllReadyH.nil
            go_simp
            refine hK.out _ _ trivial (fun _ => ?_)
            clear hK K
            refine wpAnyH_done (by kernel_rfl) ?_ _
            obtain ⟨X7, hX⟩ : ∃ X, X = (w'.setCell ⟨T10, 0, none⟩ (.int .u8 k)).setCell ⟨T10, 1, none⟩ (.slice va vn vc) := ⟨_, rfl⟩
            rw [← hX] at HMADE ⊢
            clear hX z0 z1 zf0 zf1 zl e6 e7 hB hbw
            have hform := Owns.form HMADE.out.own
            rcases hform with ⟨_, h0⟩ | ⟨ga, ca, hsh, _, _⟩
            · exfalso; rw [h0] at hl0; simp at hl0
            simp only [Value.slice.injEq] at hsh
            obtain ⟨rfl, rfl, hvc⟩ := hsh
            have hvc := hvc.symm
            subst hvc
            have HR7 := hid (blk_below HR6.out HMADE.out.bel (blk_lt HR6.out))
            have x1 : X7.cell? ⟨w.heap.size + 1, 1, none⟩ = some (.slice sa L.length sc) := blk_cell HR7.out 1
            have lx := blk_lt HR7.out
            obtain ⟨mk, hmk, hpk⟩ := pick13 at0 L.length hl0 (by have := HL30.out; omega)
            have hne : ((L.length : Int) == 0) = false := by rw [beq_eq_false_iff_ne]; omega
            go_wp2_with fail
            go_quiet (fail)
            clear hpk x1 lx hne
            obtain ⟨V8, hV8⟩ : ∃ V : World, V = X7.drewN nq := ⟨_, rfl⟩
            have hb78 : Below X7.heap.size X7 V8 := by rw [hV8]; exact below_drewN (Below.refl _ _) _
            rw [← hV8]
            have HM0 := hid (HMADE.out.below hb78)
            have HV8 := hid HV6.out
            clear hV8 hb78
            obtain ⟨mm, hmm⟩ : ∃ m, n0 % 1024 = m := ⟨_, rfl⟩
            have hmm0 : 0 ≤ mm := by rw [← hmm]; exact Int.emod_nonneg _ (by decide)
            have hmm1 : mm ≤ 1023 := by have : n0 % 1024 < 1024 := Int.emod_lt_of_pos _ (by decide)
                                        omega
            have hbit := i64_and1023 n0
            rw [hmm] at hbit
            clear hmm
            have hmkL : (mk : Int) < (L.length : Int) := by omega
            obtain ⟨xk, hxk⟩ := get_lt (l := L) (k := mk) hmk
            have c1 : V8.cell? ⟨T10, 1, none⟩ = some (.slice (some ⟨ga, 0, none⟩) L.length ca) := blk_cell HM0.out.box 1
            have lt1 := blk_lt HM0.out.box
            obtain ⟨cur, hcur, hcl, _, _, _, hcs, hct⟩ := Owns.blk HM0.out.own
            have zz : V8.cell? ⟨ga, mk, none⟩ = some (.int .i64 xk) := by have := HM0.out.own.flat_at (j := mk) (u := .int .i64 xk) (by have := flat_get (k := 1) (enc := encI) (fun _ => rfl) L mk xk hxk 0 (by decide); simpa [encI] using this); exact this
            have zf := blk_free hcur mk
            have lg := blk_lt hcur
            have HXK := hid hxk
            clear hcur hcl hcs hct hxk
            go_upto_region 10 with (fail)
            refine wp_named (fun V10 hV => ?_)
            have HM1 := hid (HM0.out.write HXK.out (-1 - mm))
            rw [← hV] at HM1
            clear hV c1 lt1 zz zf lg
            have HV10 := hid (HV8.out.below (show Below W6.heap.size W6 V10 from HM1.out.bel))
            have HR10 := hid (blk_below HR6.out HM1.out.bel (blk_lt HR6.out))
            have HB10 := hid (HB6.out.trans (HM1.out.bel.mono HB6.out.size))
            refine wp_region_cut 8 1 (fun _ => True) (by kernel_rfl) (by kernel_rfl) (by kernel_rfl) ?_
            simp only [List.take_succ_cons, List.take_zero]
            refine wpAnyH_grownD (w0 := V10.drew) (spL _) (relD [5] (KeptT 37) [] KeptE) (aliveD [(5, 2)]) (ancD [(5, 6)]) (spD (n := 8) (m := 8) (l := [fun z _ => z = .pointer (some ⟨w.heap.size + 1, 0, none⟩), fun z _ => z = .int .u8 k, NewRow 3 V10.heap.size, fun z _ => z = .pointer (some ⟨w.heap.size + 1, 1, none⟩), fun z _ => z = .slice sa L.length sc, fun v w => OwnI w V10.heap.size v ([] ++ L), RecSpec V10 k L, NewRec V10]) (apps := [5]) (stab := [0, 1, 3, 4, 7]) (appsE := []) (stabE := []) ⟨stays_eq _, stays_eq _, stays_newRow _ _, stays_eq _, stays_eq _, stays_owns 1 _ encI _ _, stays_recSpec _ _ _, stays_newRec _, trivial⟩ ⟨stw_eq _ _, stw_eq _ _, stw_eq _ _, stw_eq _ _, stw_newRec _, trivial⟩ trivial rfl (by decide) (by decide)) (by kernel_rfl) (by kernel_rfl) (by kernel_rfl) (by kernel_rfl) ?steps10 ?fin10 rfl
            case steps10 =>
              refine ⟨?_, ?_, ?_, ?_, ?_, ?_, ?_, ?_, trivial⟩
              · intro a' w' hB hdep hoth K hK
                have hK := growB hB hK
                rw [if_pos (guard_none rfl)]
                have hbw : Below V10.heap.size V10 w' := (below_drewN (Below.refl _ _) 1).trans hB
                have t5 := hoth 5 (notDst_at (by kernel_rfl))
                simp only [List.getElem?_toArray, List.getElem?_cons_succ, List.getElem?_cons_zero] at t5
                clear hdep hoth
                go_simp
                exact hK _ _ (Below.refl _ _) rfl
              · intro a' w' hB hdep hoth K hK
                have hK := growB hB hK
                rw [if_pos (guard_none rfl)]
                have hbw : Below V10.heap.size V10 w' := (below_drewN (Below.refl _ _) 1).trans hB
                obtain ⟨vx0, gx0, ex0⟩ := hdep ⟨0, .data⟩ (by simp) rfl
                have gx0 := gx0 79 rfl (by simp)
                obtain rfl : vx0 = .pointer (some ⟨w.heap.size + 1, 0, none⟩) := ex0
                have hr5 := blk_below HR10.out hbw (blk_lt HR10.out)
                have x0 : w'.cell? ⟨w.heap.size + 1, 0, none⟩ = some (.int .u8 k) := blk_cell hr5 0
                have x1 : w'.cell? ⟨w.heap.size + 1, 1, none⟩ = some (.slice sa L.length sc) := blk_cell hr5 1
                have lx := blk_lt hr5
                clear hr5
                clear hdep hoth
                go_simp
                exact hK _ _ (Below.refl _ _) rfl
              · intro a' w' hB hdep hoth K hK
                have hK := growB hB hK
                rw [if_pos (guard_none rfl)]
                have hbw : Below V10.heap.size V10 w' := (below_drewN (Below.refl _ _) 1).trans hB
                clear hdep hoth
                go_simp
                exact hK _ _ ((Below.refl _ _).alloc (Nat.le_refl _) _) ⟨_, rfl, hbw.size, heap_new _ _⟩
              · intro a' w' hB hdep hoth K hK
                have hK := growB hB hK
                rw [if_pos (guard_none rfl)]
                have hbw : Below V10.heap.size V10 w' := (below_drewN (Below.refl _ _) 1).trans hB
                have t5 := hoth 5 (notDst_at (by kernel_rfl))
                simp only [List.getElem?_toArray, List.getElem?_cons_succ, List.getElem?_cons_zero] at t5
                clear hdep hoth
                go_simp
                exact hK _ _ (Below.refl _ _) rfl
              · intro a' w' hB hdep hoth K hK
                have hK := growB hB hK
                rw [if_pos (guard_none rfl)]
                have hbw : Below V10.heap.size V10 w' := (below_drewN (Below.refl _ _) 1).trans hB
                obtain ⟨vx0, gx0, ex0⟩ := hdep ⟨3, .data⟩ (by simp) rfl
                have gx0 := gx0 82 rfl (by simp)
                obtain rfl : vx0 = .pointer (some ⟨w.heap.size + 1, 1, none⟩) := ex0
                have hr5 := blk_below HR10.out hbw (blk_lt HR10.out)
                have x0 : w'.cell? ⟨w.heap.size + 1, 0, none⟩ = some (.int .u8 k) := blk_cell hr5 0
                have x1 : w'.cell? ⟨w.heap.size + 1, 1, none⟩ = some (.slice sa L.length sc) := blk_cell hr5 1
                have lx := blk_lt hr5
                clear hr5
                clear hdep hoth
                go_simp
                exact hK _ _ (Below.refl _ _) rfl
              · intro a' w' hB hdep hoth K hK
                have hbw : Below V10.heap.size V10 w' := (below_drewN (Below.refl _ _) 1).trans hB
                obtain ⟨vO, gO, eO⟩ := hdep ⟨2, .data⟩ (by simp) rfl
                have gO := gO 81 rfl (by simp)
                obtain ⟨vx, gx, ex⟩ := hdep ⟨4, .data⟩ (by simp) rfl
                have gx := gx 83 rfl (by simp)
                obtain rfl : vx = .slice sa L.length sc := ex
                obtain ⟨g, rfl, hg1, hg2⟩ := eO
                have eO : OwnI w' V10.heap.size (.slice (some ⟨g, 0, none⟩) 0 0) [] := newRow_owns hg1 hg2
                refine step_append_row rfl _ _ 22 rfl V10.heap.size 3 i0 _ 8 Tryd.underlying22 HI0.out HI1.out HI2.out HI3.out rfl (by decide) (fun _ => rfl) (.slice (some ⟨g, 0, none⟩) 0 0) [] (by simp [Act.eval, gO]) eO (.slice sa L.length sc) L (by simp [Act.eval, gx]) (encI_one' L) (HS.out.below (HB10.out.trans (hbw.mono HB10.out.size))) (by unfold maxLen; simp; have := HL30.out; omega) (by simp; have := HL30.out; omega) hbw.size ?_
                intro v' w'' hown hbb hgr
                exact hK v' w'' (hB.trans hbb) (KeptT.grown hgr (fun r e => Owns.typed eO r e) (by decide)) hown
              · intro a' w' hB hdep hoth K hK
                have hK := growB hB hK
                rw [if_pos (guard_none rfl)]
                have hbw : Below V10.heap.size V10 w' := (below_drewN (Below.refl _ _) 1).trans hB
                obtain ⟨v0, q0, e0⟩ := hdep ⟨1, .data⟩ (by simp) rfl
                have q0 := q0 80 rfl (by simp)
                obtain rfl : v0 = .int .u8 k := e0
                obtain ⟨v1, q1, e1⟩ := hdep ⟨5, .data⟩ (by simp) rfl
                have q1 := q1 84 rfl (by simp)
                have e1 : OwnI w' V10.heap.size v1 ([] ++ L) := e1
                obtain ⟨va, vn, vc, rfl⟩ := e1.shape
                have E1 := hid e1
                clear hdep hoth e1
                go_simp
                exact hK _ _ (Below.refl _ _) ⟨va, vn, vc, rfl, E1.out⟩
              · intro a' w' hB hdep hoth K hK
                have hK := growB hB hK
                rw [if_pos (guard_none rfl)]
                have hbw : Below V10.heap.size V10 w' := (below_drewN (Below.refl _ _) 1).trans hB
                clear hdep hoth
                go_simp
                exact hK _ _ ((Below.refl _ _).alloc (Nat.le_refl _) _) ⟨w'.heap.size, rfl, hbw.size, heap_new w' _⟩
            case fin10 =>
              intro vs w' hB hs
              have hbw : Below V10.heap.size V10 w' := (below_drewN (Below.refl _ _) 1).trans hB
              obtain ⟨va, vn, vc, e6, ho⟩ := hs 6 (by decide) (by decide)
              obtain ⟨T11, e7, hT, hz⟩ := hs 7 (by decide) (by decide)
              clear hs
              refine cutQ_held (fun _ => True) (fun f => ?_)
              simp only [actOf, dstAt, if_true, List.getElem?_toArray, List.getElem?_cons_succ, List.getElem?_cons_zero, Option.bind_some, Act.put, List.setIfInBounds_toArray, List.set_cons_zero, List.set_cons_succ, List.length_cons, List.length_nil, Nat.reduceAdd]
              rw [e6, e7]
              have z0 := blk_cell hz 0
              have z1 := blk_cell hz 1
              have zf0 := blk_free hz 0
              have zf1 := blk_free hz 1
              have zl := blk_lt hz
              have hmade := RecOwn.made (k := k) hz ho hbw hT
              have HMADE := hid hmade
              simp only [List.getElem?_toArray, List.getElem?_cons_zero, List.getElem?_cons_succ] at z0 z1
              clear hmade ho hz hT
              refine wpAnyH_ready (rs := [8]) (by kernel_rfl) (by simp) ?_
              refine AllReadyH.cons rfl (fun K hK => ?_) AllReadyH.nil
              go_simp
              refine hK.out _ _ trivial (fun _ => ?_)
              clear hK K
              refine wpAnyH_done (by kernel_rfl) ?_ _
              obtain ⟨X10, hX⟩ : ∃ X, X = (w'.setCell ⟨T11, 0, none⟩ (.int .u8 k)).setCell ⟨T11, 1, none⟩ (.slice va vn vc) := ⟨_, rfl⟩
              rw [← hX] at HMADE ⊢
              clear hX z0 z1 zf0 zf1 zl e6 e7 hB hbw
              have hform := Owns.form HMADE.out.own
              rcases hform with ⟨_, h0⟩ | ⟨gb, cb, hsh, _, _⟩
              · exfalso; rw [h0] at hl0; simp at hl0
              simp only [Value.slice.injEq] at hsh
              obtain ⟨rfl, rfl, hvc⟩ := hsh
              have hvc := hvc.symm
              subst hvc
              obtain ⟨xk, hxk⟩ := get_lt (l := L) (k := mk) hmk
              have c1 : X10.cell? ⟨T11, 1, none⟩ = some (.slice (some ⟨gb, 0, none⟩) L.length cb) := blk_cell HMADE.out.box 1
              have lt1 := blk_lt HMADE.out.box
              obtain ⟨cur, hcur, hcl, _, _, _, hcs, hct⟩ := Owns.blk HMADE.out.own
              have zz : X10.cell? ⟨gb, mk, none⟩ = some (.int .i64 xk) := by have := HMADE.out.own.flat_at (j := mk) (u := .int .i64 xk) (by have := flat_get (k := 1) (enc := encI) (fun _ => rfl) L mk xk hxk 0 (by decide); simpa [encI] using this); exact this
              have zf := blk_free hcur mk
              have lg := blk_lt hcur
              have HXK := hid hxk
              clear hcur hcl hcs hct hxk
              go_upto_region 12 with (fail)
              refine wp_named (fun V11 hV => ?_)
              have HM3 := hid (HMADE.out.write HXK.out (1099511627777 + mm))
              rw [← hV] at HM3
              clear hV c1 lt1 zz zf lg
              have HV11 := hid (HV10.out.below HM3.out.bel)
              have HR11 := hid (blk_below HR10.out HM3.out.bel (blk_lt HR10.out))
              have HB11 := hid (HB10.out.trans (HM3.out.bel.mono HB10.out.size))
              have HM2 := hid (HM1.out.below HM3.out.bel)
              have HBAD1 := hid (show applyB B k (L.set mk (-1 - mm)) = B from not_bad (y := -1 - mm) (List.mem_of_getElem? (i := mk) (by rw [List.getElem?_set_self hmk])) (by unfold badN; rw [decide_eq_true (by omega)]; rfl))
              have HBAD2 := hid (show applyB B k (L.set mk (1099511627777 + mm)) = B from not_bad (y := 1099511627777 + mm) (List.mem_of_getElem? (i := mk) (by rw [List.getElem?_set_self hmk])) (by unfold badN; rw [decide_eq_true (show 1099511627776 < 1099511627777 + mm by omega), Bool.or_true]))
              refine wp_region_held_drew (S := fun _ => True) (by kernel_rfl) trivial (fun _ => ?_)
              refine wpAnyH_grownG (w0 := V11.drew) (spL [fun z _ => z = (.agg bv), fun z _ => z = .agg #[.int .u8 k, .slice (some ⟨ga, 0, none⟩) L.length ca], fun z w => BrEnd V11 (applyB B k (L.set mk (-1 - mm))) z w, fun z _ => z = (.agg bv), fun z _ => z = .bool true, fun z _ => z = .bool false, fun z _ => z = .bool false, fun z _ => z = (.agg bv), fun z _ => z = .agg #[.int .u8 k, .slice (some ⟨gb, 0, none⟩) L.length cb], fun z w => BrEnd V11 (applyB B k (L.set mk (1099511627777 + mm))) z w, fun z _ => z = (.agg bv), fun z _ => z = .bool true, fun z _ => z = .bool false, fun z _ => z = .bool false]) (spL_stays ⟨stays_eq _, stays_eq _, stays_brEnd _ _, stays_eq _, stays_eq _, stays_eq _, stays_eq _, stays_eq _, stays_eq _, stays_brEnd _ _, stays_eq _, stays_eq _, stays_eq _, stays_eq _, trivial⟩) (by kernel_rfl) (by kernel_rfl) ?steps12 ?fin12 rfl
              case steps12 =>
                refine ⟨?_, ?_, ?_, ?_, ?_, ?_, ?_, ?_, ?_, ?_, ?_, ?_, ?_, ?_, trivial⟩
                · intro a' w' hB hdep hoth K hK
                  rw [if_pos (guard_none rfl)]
                  have hbw : Below V11.heap.size V11 w' := (below_drewN (Below.refl _ _) 1).trans hB
                  have t4 := hoth 4 (notDst_at (by kernel_rfl))
                  simp only [List.getElem?_toArray, List.getElem?_cons_succ, List.getElem?_cons_zero] at t4
                  have hld := (HV11.out.below hbw).load
                  clear hdep hoth
                  go_simp
                  exact hK _ _ (Below.refl _ _) rfl
                · intro a' w' hB hdep hoth K hK
                  rw [if_pos (guard_none rfl)]
                  have hbw : Below V11.heap.size V11 w' := (below_drewN (Below.refl _ _) 1).trans hB
                  have t10 := hoth 10 (notDst_at (by kernel_rfl))
                  simp only [List.getElem?_toArray, List.getElem?_cons_succ, List.getElem?_cons_zero] at t10
                  have hrt := (HM2.out.below hbw).box
                  have q0 : w'.cell? ⟨T10, 0, none⟩ = some (.int .u8 k) := blk_cell hrt 0
                  have q1 : w'.cell? ⟨T10, 1, none⟩ = some (.slice (some ⟨ga, 0, none⟩) L.length ca) := blk_cell hrt 1
                  have lq := blk_lt hrt
                  clear hrt
                  clear hdep hoth
                  go_simp
                  exact hK _ _ (Below.refl _ _) rfl
                · intro a' w' hB hdep hoth K hK
                  rw [if_pos (guard_none rfl)]
                  have hbw : Below V11.heap.size V11 w' := (below_drewN (Below.refl _ _) 1).trans hB
                  obtain ⟨v0, g0, e0⟩ := hdep ⟨0, .data⟩ (by simp) rfl
                  have g0 := g0 93 rfl (by simp)
                  obtain rfl : v0 = (.agg bv) := e0
                  obtain ⟨v1, g1, e1⟩ := hdep ⟨1, .data⟩ (by simp) rfl
                  have g1 := g1 94 rfl (by simp)
                  obtain rfl : v1 = .agg #[.int .u8 k, .slice (some ⟨ga, 0, none⟩) L.length ca] := e1
                  have HA := hid (apply_is (k) (L.set mk (-1 - mm)) 40 (HV11.out.below hbw).is ((HM2.out.below hbw).is) HFI.out (by omega) (by have := HGB.out.2.2; omega) (by have := HL30.out; simp; omega) (HC.out.below (HB11.out.trans (hbw.mono HB11.out.size))) (HL.out.below (HB11.out.trans (hbw.mono HB11.out.size))))
                  clear hdep hoth
                  go_simp
                  refine HA.out.mono ?_
                  rintro e w'' ⟨v, rfl, he, hb⟩
                  exact hK v _ hb (he.base hbw.size)
                · intro a' w' hB hdep hoth K hK
                  rw [if_pos (guard_none rfl)]
                  have hbw : Below V11.heap.size V11 w' := (below_drewN (Below.refl _ _) 1).trans hB
                  have t4 := hoth 4 (notDst_at (by kernel_rfl))
                  simp only [List.getElem?_toArray, List.getElem?_cons_succ, List.getElem?_cons_zero] at t4
                  have hld := (HV11.out.below hbw).load
                  clear hdep hoth
                  go_simp
                  exact hK _ _ (Below.refl _ _) rfl
                · intro a' w' hB hdep hoth K hK
                  rw [if_pos (guard_none rfl)]
                  have hbw : Below V11.heap.size V11 w' := (below_drewN (Below.refl _ _) 1).trans hB
                  obtain ⟨v0, q0, e0⟩ := hdep ⟨2, .data⟩ (by simp) rfl
                  have q0 := q0 95 rfl (by simp)
                  have e0 : BrEnd V11 (applyB B k (L.set mk (-1 - mm))) v0 w' := e0
                  obtain ⟨v1, q1, e1⟩ := hdep ⟨3, .data⟩ (by simp) rfl
                  have q1 := q1 96 rfl (by simp)
                  obtain rfl : v1 = (.agg bv) := e1
                  have HA := hid (rsame_is true (sameB_of HBAD1.out) e0.is (HV11.out.below hbw).is)
                  clear hdep hoth e0
                  go_simp
                  refine HA.out.mono ?_
                  rintro e w'' ⟨rfl, hb⟩
                  exact hK _ _ hb rfl
                · intro a' w' hB hdep hoth K hK
                  rw [if_pos (guard_none rfl)]
                  have hbw : Below V11.heap.size V11 w' := (below_drewN (Below.refl _ _) 1).trans hB
                  obtain ⟨vx0, gx0, ex0⟩ := hdep ⟨4, .data⟩ (by simp) rfl
                  have gx0 := gx0 97 rfl (by simp)
                  obtain rfl : vx0 = .bool true := ex0
                  clear hdep hoth
                  go_simp
                  exact hK _ _ (Below.refl _ _) rfl
                · intro a' w' hB hdep hoth K hK
                  rw [if_pos (guard_none rfl)]
                  have hbw : Below V11.heap.size V11 w' := (below_drewN (Below.refl _ _) 1).trans hB
                  obtain ⟨vx0, gx0, ex0⟩ := hdep ⟨5, .data⟩ (by simp) rfl
                  have gx0 := gx0 98 rfl (by simp)
                  obtain rfl : vx0 = .bool false := ex0
                  clear hdep hoth
                  go_simp
                  exact hK _ _ (Below.refl _ _) rfl
                · intro a' w' hB hdep hoth K hK
                  obtain ⟨vg, gg, eg⟩ := hdep ⟨6, .guard⟩ (by simp) rfl
                  have gg := gg 99 rfl (by simp)
                  obtain rfl : vg = .bool false := eg
                  rw [guard_is rfl rfl gg]
                  rw [if_pos (by decide)]
                  have hbw : Below V11.heap.size V11 w' := (below_drewN (Below.refl _ _) 1).trans hB
                  have t4 := hoth 4 (notDst_at (by kernel_rfl))
                  simp only [List.getElem?_toArray, List.getElem?_cons_succ, List.getElem?_cons_zero] at t4
                  have hld := (HV11.out.below hbw).load
                  clear hdep hoth
                  go_simp
                  exact hK _ _ (Below.refl _ _) rfl
                · intro a' w' hB hdep hoth K hK
                  obtain ⟨vg, gg, eg⟩ := hdep ⟨6, .guard⟩ (by simp) rfl
                  have gg := gg 99 rfl (by simp)
                  obtain rfl : vg = .bool false := eg
                  rw [guard_is rfl rfl gg]
                  rw [if_pos (by decide)]
                  have hbw : Below V11.heap.size V11 w' := (below_drewN (Below.refl _ _) 1).trans hB
                  have t11 := hoth 11 (notDst_at (by kernel_rfl))
                  simp only [List.getElem?_toArray, List.getElem?_cons_succ, List.getElem?_cons_zero] at t11
                  have hrt := (HM3.out.below hbw).box
                  have q0 : w'.cell? ⟨T11, 0, none⟩ = some (.int .u8 k) := blk_cell hrt 0
                  have q1 : w'.cell? ⟨T11, 1, none⟩ = some (.slice (some ⟨gb, 0, none⟩) L.length cb) := blk_cell hrt 1
                  have lq := blk_lt hrt
                  clear hrt
                  clear hdep hoth
                  go_simp
                  exact hK _ _ (Below.refl _ _) rfl
                · intro a' w' hB hdep hoth K hK
                  obtain ⟨vg, gg, eg⟩ := hdep ⟨6, .guard⟩ (by simp) rfl
                  have gg := gg 99 rfl (by simp)
                  obtain rfl : vg = .bool false := eg
                  rw [guard_is rfl rfl gg]
                  rw [if_pos (by decide)]
                  have hbw : Below V11.heap.size V11 w' := (below_drewN (Below.refl _ _) 1).trans hB
                  obtain ⟨v0, g0, e0⟩ := hdep ⟨7, .data⟩ (by simp) rfl
                  have g0 := g0 100 rfl (by simp)
                  obtain rfl : v0 = (.agg bv) := e0
                  obtain ⟨v1, g1, e1⟩ := hdep ⟨8, .data⟩ (by simp) rfl
                  have g1 := g1 101 rfl (by simp)
                  obtain rfl : v1 = .agg #[.int .u8 k, .slice (some ⟨gb, 0, none⟩) L.length cb] := e1
                  have HA := hid (apply_is (k) (L.set mk (1099511627777 + mm)) 40 (HV11.out.below hbw).is ((HM3.out.below hbw).is) HFI.out (by omega) (by have := HGB.out.2.2; omega) (by have := HL30.out; simp; omega) (HC.out.below (HB11.out.trans (hbw.mono HB11.out.size))) (HL.out.below (HB11.out.trans (hbw.mono HB11.out.size))))
                  clear hdep hoth
                  go_simp
                  refine HA.out.mono ?_
                  rintro e w'' ⟨v, rfl, he, hb⟩
                  exact hK v _ hb (he.base hbw.size)
                · intro a' w' hB hdep hoth K hK
                  obtain ⟨vg, gg, eg⟩ := hdep ⟨6, .guard⟩ (by simp) rfl
                  have gg := gg 99 rfl (by simp)
                  obtain rfl : vg = .bool false := eg
                  rw [guard_is rfl rfl gg]
                  rw [if_pos (by decide)]
                  have hbw : Below V11.heap.size V11 w' := (below_drewN (Below.refl _ _) 1).trans hB
                  have t4 := hoth 4 (notDst_at (by kernel_rfl))
                  simp only [List.getElem?_toArray, List.getElem?_cons_succ, List.getElem?_cons_zero] at t4
                  have hld := (HV11.out.below hbw).load
                  clear hdep hoth
                  go_simp
                  exact hK _ _ (Below.refl _ _) rfl
                · intro a' w' hB hdep hoth K hK
                  obtain ⟨vg, gg, eg⟩ := hdep ⟨6, .guard⟩ (by simp) rfl
                  have gg := gg 99 rfl (by simp)
                  obtain rfl : vg = .bool false := eg
                  rw [guard_is rfl rfl gg]
                  rw [if_pos (by decide)]
                  have hbw : Below V11.heap.size V11 w' := (below_drewN (Below.refl _ _) 1).trans hB
                  obtain ⟨v0, q0, e0⟩ := hdep ⟨9, .data⟩ (by simp) rfl
                  have q0 := q0 102 rfl (by simp)
                  have e0 : BrEnd V11 (applyB B k (L.set mk (1099511627777 + mm))) v0 w' := e0
                  obtain ⟨v1, q1, e1⟩ := hdep ⟨10, .data⟩ (by simp) rfl
                  have q1 := q1 103 rfl (by simp)
                  obtain rfl : v1 = (.agg bv) := e1
                  have HA := hid (rsame_is true (sameB_of HBAD2.out) e0.is (HV11.out.below hbw).is)
                  clear hdep hoth e0
                  go_simp
                  refine HA.out.mono ?_
                  rintro e w'' ⟨rfl, hb⟩
                  exact hK _ _ hb rfl
                · intro a' w' hB hdep hoth K hK
                  obtain ⟨vg, gg, eg⟩ := hdep ⟨6, .guard⟩ (by simp) rfl
                  have gg := gg 99 rfl (by simp)
                  obtain rfl : vg = .bool false := eg
                  rw [guard_is rfl rfl gg]
                  rw [if_pos (by decide)]
                  have hbw : Below V11.heap.size V11 w' := (below_drewN (Below.refl _ _) 1).trans hB
                  obtain ⟨vx0, gx0, ex0⟩ := hdep ⟨11, .data⟩ (by simp) rfl
                  have gx0 := gx0 104 rfl (by simp)
                  obtain rfl : vx0 = .bool true := ex0
                  clear hdep hoth
                  go_simp
                  exact hK _ _ (Below.refl _ _) rfl
                · intro a' w' hB hdep hoth K hK
                  rw [if_pos (guard_none rfl)]
                  have hbw : Below V11.heap.size V11 w' := (below_drewN (Below.refl _ _) 1).trans hB
                  obtain ⟨vx0, gx0, ex0⟩ := hdep ⟨6, .data⟩ (by simp) rfl
                  have gx0 := gx0 99 rfl (by simp)
                  obtain rfl : vx0 = .bool false := ex0
                  obtain ⟨vx1, gx1, ex1⟩ := hdep ⟨12, .data⟩ (by simp) rfl
                  have gx1 := gx1 105 rfl (by simp)
                  obtain rfl : vx1 = .bool false := ex1
                  clear hdep hoth
                  go_simp
                  exact hK _ _ (Below.refl _ _) rfl
              case fin12 =>
                intro vs Z hB hs
                have hbw : Below V11.heap.size V11 Z := (below_drewN (Below.refl _ _) 1).trans hB
                have ev : vs 13 = .bool false := hs 13 (by decide)
                clear hs
                simp only [actOf, dstAt, if_true, List.getElem?_toArray, List.getElem?_cons_succ, List.getElem?_cons_zero, Option.bind_some, Act.put, List.setIfInBounds_toArray, List.set_cons_zero, List.set_cons_succ, List.length_cons, List.length_nil, Nat.reduceAdd]
                rw [ev]
                clear ev hB
                have HVZ := hid (HV11.out.below hbw)
                have HRZ := hid (blk_below HR11.out hbw (blk_lt HR11.out))
                have HBZ := hid (HB11.out.trans (hbw.mono HB11.out.size))
                clear hbw
                have HL0 := hid hl0
                clear hmkL hbit hmk hmm0 hmm1 hl0
                by_cases hk2 : k = 2
                · subst hk2
                  go_upto_region 14 with (fail)
                  refine wp_region_held_drew (S := fun _ => True) (by kernel_rfl) trivial (fun _ => ?_)
                  refine wpAnyH_grownG (w0 := Z.drew) (spL [fun z _ => z = .pointer (some ⟨w.heap.size + 1, 0, none⟩), fun z _ => z = .int .u8 2, fun z _ => z = .bool true, fun z _ => z = .bool true, fun z _ => z = undef, fun z _ => z = undef, fun z _ => z = undef, fun z _ => z = undef, fun z _ => z = undef, fun z _ => z = .bool true]) (spL_stays ⟨stays_eq _, stays_eq _, stays_eq _, stays_eq _, stays_eq _, stays_eq _, stays_eq _, stays_eq _, stays_eq _, stays_eq _, trivial⟩) (by kernel_rfl) (by kernel_rfl) ?steps14 ?fin14 rfl
                  case steps14 =>
                    refine ⟨?_, ?_, ?_, ?_, ?_, ?_, ?_, ?_, ?_, ?_, trivial⟩
                    · intro a' w' hB hdep hoth K hK
                      rw [if_pos (guard_none rfl)]
                      have hbw : Below Z.heap.size Z w' := (below_drewN (Below.refl _ _) 1).trans hB
                      have t5 := hoth 5 (notDst_at (by kernel_rfl))
                      simp only [List.getElem?_toArray, List.getElem?_cons_succ, List.getElem?_cons_zero] at t5
                      clear hdep hoth
                      go_simp
                      exact hK _ _ (Below.refl _ _) rfl
                    · intro a' w' hB hdep hoth K hK
                      rw [if_pos (guard_none rfl)]
                      have hbw : Below Z.heap.size Z w' := (below_drewN (Below.refl _ _) 1).trans hB
                      obtain ⟨vx0, gx0, ex0⟩ := hdep ⟨0, .data⟩ (by simp) rfl
                      have gx0 := gx0 107 rfl (by simp)
                      obtain rfl : vx0 = .pointer (some ⟨w.heap.size + 1, 0, none⟩) := ex0
                      have hr5 := blk_below HRZ.out hbw (blk_lt HRZ.out)
                      have x0 : w'.cell? ⟨w.heap.size + 1, 0, none⟩ = some (.int .u8 2) := blk_cell hr5 0
                      have x1 : w'.cell? ⟨w.heap.size + 1, 1, none⟩ = some (.slice sa L.length sc) := blk_cell hr5 1
                      have lx := blk_lt hr5
                      clear hr5
                      clear hdep hoth
                      go_simp
                      exact hK _ _ (Below.refl _ _) rfl
                    · intro a' w' hB hdep hoth K hK
                      rw [if_pos (guard_none rfl)]
                      have hbw : Below Z.heap.size Z w' := (below_drewN (Below.refl _ _) 1).trans hB
                      obtain ⟨vx0, gx0, ex0⟩ := hdep ⟨1, .data⟩ (by simp) rfl
                      have gx0 := gx0 108 rfl (by simp)
                      obtain rfl : vx0 = .int .u8 2 := ex0
                      clear hdep hoth
                      go_simp
                      exact hK _ _ (Below.refl _ _) rfl
                    · intro a' w' hB hdep hoth K hK
                      rw [if_pos (guard_none rfl)]
                      have hbw : Below Z.heap.size Z w' := (below_drewN (Below.refl _ _) 1).trans hB
                      obtain ⟨vx0, gx0, ex0⟩ := hdep ⟨2, .data⟩ (by simp) rfl
                      have gx0 := gx0 109 rfl (by simp)
                      obtain rfl : vx0 = .bool true := ex0
                      clear hdep hoth
                      go_simp
                      exact hK _ _ (Below.refl _ _) rfl
                    · intro a' w' hB hdep hoth K hK
                      obtain ⟨vg, gg, eg⟩ := hdep ⟨3, .guard⟩ (by simp) rfl
                      have gg := gg 110 rfl (by simp)
                      obtain rfl : vg = .bool true := eg
                      rw [guard_is rfl rfl gg]
                      rw [if_neg (by decide)]
                      exact hK _ _ (Below.refl _ _) rfl
                    · intro a' w' hB hdep hoth K hK
                      obtain ⟨vg, gg, eg⟩ := hdep ⟨3, .guard⟩ (by simp) rfl
                      have gg := gg 110 rfl (by simp)
                      obtain rfl : vg = .bool true := eg
                      rw [guard_is rfl rfl gg]
                      rw [if_neg (by decide)]
                      exact hK _ _ (Below.refl _ _) rfl
                    · intro a' w' hB hdep hoth K hK
                      obtain ⟨vg, gg, eg⟩ := hdep ⟨3, .guard⟩ (by simp) rfl
                      have gg := gg 110 rfl (by simp)
                      obtain rfl : vg = .bool true := eg
                      rw [guard_is rfl rfl gg]
                      rw [if_neg (by decide)]
                      exact hK _ _ (Below.refl _ _) rfl
                    · intro a' w' hB hdep hoth K hK
                      obtain ⟨vg, gg, eg⟩ := hdep ⟨3, .guard⟩ (by simp) rfl
                      have gg := gg 110 rfl (by simp)
                      obtain rfl : vg = .bool true := eg
                      rw [guard_is rfl rfl gg]
                      rw [if_neg (by decide)]
                      exact hK _ _ (Below.refl _ _) rfl
                    · intro a' w' hB hdep hoth K hK
                      obtain ⟨vg, gg, eg⟩ := hdep ⟨3, .guard⟩ (by simp) rfl
                      have gg := gg 110 rfl (by simp)
                      obtain rfl : vg = .bool true := eg
                      rw [guard_is rfl rfl gg]
                      rw [if_neg (by decide)]
                      exact hK _ _ (Below.refl _ _) rfl
                    · intro a' w' hB hdep hoth K hK
                      rw [if_pos (guard_none rfl)]
                      have hbw : Below Z.heap.size Z w' := (below_drewN (Below.refl _ _) 1).trans hB
                      obtain ⟨vx0, gx0, ex0⟩ := hdep ⟨3, .data⟩ (by simp) rfl
                      have gx0 := gx0 110 rfl (by simp)
                      obtain rfl : vx0 = .bool true := ex0
                      clear hdep hoth
                      go_simp
                      exact hK _ _ (Below.refl _ _) rfl
                  case fin14 =>
                    intro vs Y hB hs
                    have hbw : Below Z.heap.size Z Y := (below_drewN (Below.refl _ _) 1).trans hB
                    have ev : vs 9 = .bool true := hs 9 (by decide)
                    clear hs
                    simp only [actOf, dstAt, if_true, List.getElem?_toArray, List.getElem?_cons_succ, List.getElem?_cons_zero, Option.bind_some, Act.put, List.setIfInBounds_toArray, List.set_cons_zero, List.set_cons_succ, List.length_cons, List.length_nil, Nat.reduceAdd]
                    rw [ev]
                    clear ev hB
                    have HVY := hid (HVZ.out.below hbw)
                    have HRY := hid (blk_below HRZ.out hbw (blk_lt HRZ.out))
                    have HBY := hid (HBZ.out.trans (hbw.mono HBZ.out.size))
                    clear hbw
                    go_wp2_with fail
                    refine (wakes_any Y (HC.out.below HBY.out) (HL.out.below HBY.out)).mono ?_
                    rintro e Ww ⟨rfl, hb⟩
                    have HBw := hid (HBY.out.trans (hb.mono HBY.out.size))
                    clear hb
                    go_wp2
                    go_ret
                    exact ⟨rfl, HBw.out⟩
                · have HK2 := hid hk2
                  have e2 : (k == 2) = false := by simpa using hk2
                  have x0z : Z.cell? ⟨w.heap.size + 1, 0, none⟩ = some (.int .u8 k) := blk_cell HRZ.out 0
                  clear hk2
                  by_cases hdn : deedN k = some L.length
                  · have HDN := hid hdn
                    clear hdn
                    obtain ⟨sb, hsb⟩ : ∃ sb, sameB (applyB B k L) B = sb := ⟨_, rfl⟩
                    have HSB := hid hsb
                    clear hsb
                    cases sb with
                    | true =>
                      go_upto_region 14 with (fail)
                      refine wp_region_held_drew (S := fun _ => True) (by kernel_rfl) trivial (fun _ => ?_)
                      refine wpAnyH_grownG (w0 := Z.drew) (spL [fun z _ => z = .pointer (some ⟨w.heap.size + 1, 0, none⟩), fun z _ => z = .int .u8 k, fun z _ => z = .bool false, fun z _ => z = .bool false, fun z _ => z = (.agg bv), fun z _ => z = .agg #[.int .u8 k, .slice sa L.length sc], fun z w => BrEnd Z (applyB B k (L)) z w, fun z _ => z = (.agg bv), fun z _ => z = .bool true, fun z _ => z = .bool true]) (spL_stays ⟨stays_eq _, stays_eq _, stays_eq _, stays_eq _, stays_eq _, stays_eq _, stays_brEnd _ _, stays_eq _, stays_eq _, stays_eq _, trivial⟩) (by kernel_rfl) (by kernel_rfl) ?steps14 ?fin14 rfl
                      case steps14 =>
                        refine ⟨?_, ?_, ?_, ?_, ?_, ?_, ?_, ?_, ?_, ?_, trivial⟩
                        · intro a' w' hB hdep hoth K hK
                          rw [if_pos (guard_none rfl)]
                          have hbw : Below Z.heap.size Z w' := (below_drewN (Below.refl _ _) 1).trans hB
                          have t5 := hoth 5 (notDst_at (by kernel_rfl))
                          simp only [List.getElem?_toArray, List.getElem?_cons_succ, List.getElem?_cons_zero] at t5
                          clear hdep hoth
                          go_simp
                          exact hK _ _ (Below.refl _ _) rfl
                        · intro a' w' hB hdep hoth K hK
                          rw [if_pos (guard_none rfl)]
                          have hbw : Below Z.heap.size Z w' := (below_drewN (Below.refl _ _) 1).trans hB
                          obtain ⟨vx0, gx0, ex0⟩ := hdep ⟨0, .data⟩ (by simp) rfl
                          have gx0 := gx0 107 rfl (by simp)
                          obtain rfl : vx0 = .pointer (some ⟨w.heap.size + 1, 0, none⟩) := ex0
                          have hr5 := blk_below HRZ.out hbw (blk_lt HRZ.out)
                          have x0 : w'.cell? ⟨w.heap.size + 1, 0, none⟩ = some (.int .u8 k) := blk_cell hr5 0
                          have x1 : w'.cell? ⟨w.heap.size + 1, 1, none⟩ = some (.slice sa L.length sc) := blk_cell hr5 1
                          have lx := blk_lt hr5
                          clear hr5
                          clear hdep hoth
                          go_simp
                          exact hK _ _ (Below.refl _ _) rfl
                        · intro a' w' hB hdep hoth K hK
                          rw [if_pos (guard_none rfl)]
                          have hbw : Below Z.heap.size Z w' := (below_drewN (Below.refl _ _) 1).trans hB
                          obtain ⟨vx0, gx0, ex0⟩ := hdep ⟨1, .data⟩ (by simp) rfl
                          have gx0 := gx0 108 rfl (by simp)
                          obtain rfl : vx0 = .int .u8 k := ex0
                          clear hdep hoth
                          go_simp
                          exact hK _ _ (Below.refl _ _) rfl
                        · intro a' w' hB hdep hoth K hK
                          rw [if_pos (guard_none rfl)]
                          have hbw : Below Z.heap.size Z w' := (below_drewN (Below.refl _ _) 1).trans hB
                          obtain ⟨vx0, gx0, ex0⟩ := hdep ⟨2, .data⟩ (by simp) rfl
                          have gx0 := gx0 109 rfl (by simp)
                          obtain rfl : vx0 = .bool false := ex0
                          clear hdep hoth
                          go_simp
                          exact hK _ _ (Below.refl _ _) rfl
                        · intro a' w' hB hdep hoth K hK
                          obtain ⟨vg, gg, eg⟩ := hdep ⟨3, .guard⟩ (by simp) rfl
                          have gg := gg 110 rfl (by simp)
                          obtain rfl : vg = .bool false := eg
                          rw [guard_is rfl rfl gg]
                          rw [if_pos (by decide)]
                          have hbw : Below Z.heap.size Z w' := (below_drewN (Below.refl _ _) 1).trans hB
                          have t4 := hoth 4 (notDst_at (by kernel_rfl))
                          simp only [List.getElem?_toArray, List.getElem?_cons_succ, List.getElem?_cons_zero] at t4
                          have hld := (HVZ.out.below hbw).load
                          clear hdep hoth
                          go_simp
                          exact hK _ _ (Below.refl _ _) rfl
                        · intro a' w' hB hdep hoth K hK
                          obtain ⟨vg, gg, eg⟩ := hdep ⟨3, .guard⟩ (by simp) rfl
                          have gg := gg 110 rfl (by simp)
                          obtain rfl : vg = .bool false := eg
                          rw [guard_is rfl rfl gg]
                          rw [if_pos (by decide)]
                          have hbw : Below Z.heap.size Z w' := (below_drewN (Below.refl _ _) 1).trans hB
                          have t5 := hoth 5 (notDst_at (by kernel_rfl))
                          simp only [List.getElem?_toArray, List.getElem?_cons_succ, List.getElem?_cons_zero] at t5
                          have hr5 := blk_below HRZ.out hbw (blk_lt HRZ.out)
                          have x0 : w'.cell? ⟨w.heap.size + 1, 0, none⟩ = some (.int .u8 k) := blk_cell hr5 0
                          have x1 : w'.cell? ⟨w.heap.size + 1, 1, none⟩ = some (.slice sa L.length sc) := blk_cell hr5 1
                          have lx := blk_lt hr5
                          clear hr5
                          clear hdep hoth
                          go_simp
                          exact hK _ _ (Below.refl _ _) rfl
                        · intro a' w' hB hdep hoth K hK
                          obtain ⟨vg, gg, eg⟩ := hdep ⟨3, .guard⟩ (by simp) rfl
                          have gg := gg 110 rfl (by simp)
                          obtain rfl : vg = .bool false := eg
                          rw [guard_is rfl rfl gg]
                          rw [if_pos (by decide)]
                          have hbw : Below Z.heap.size Z w' := (below_drewN (Below.refl _ _) 1).trans hB
                          obtain ⟨v0, g0, e0⟩ := hdep ⟨4, .data⟩ (by simp) rfl
                          have g0 := g0 111 rfl (by simp)
                          obtain rfl : v0 = (.agg bv) := e0
                          obtain ⟨v1, g1, e1⟩ := hdep ⟨5, .data⟩ (by simp) rfl
                          have g1 := g1 112 rfl (by simp)
                          obtain rfl : v1 = .agg #[.int .u8 k, .slice sa L.length sc] := e1
                          have HA := hid (apply_is (k) (L) 40 (HVZ.out.below hbw).is (⟨_, rfl, HS.out.below (HBZ.out.trans (hbw.mono HBZ.out.size))⟩) HFI.out (by omega) (by have := HGB.out.2.2; omega) (by have := HL30.out; simp; omega) (HC.out.below (HBZ.out.trans (hbw.mono HBZ.out.size))) (HL.out.below (HBZ.out.trans (hbw.mono HBZ.out.size))))
                          clear hdep hoth
                          go_simp
                          refine HA.out.mono ?_
                          rintro e w'' ⟨v, rfl, he, hb⟩
                          exact hK v _ hb (he.base hbw.size)
                        · intro a' w' hB hdep hoth K hK
                          obtain ⟨vg, gg, eg⟩ := hdep ⟨3, .guard⟩ (by simp) rfl
                          have gg := gg 110 rfl (by simp)
                          obtain rfl : vg = .bool false := eg
                          rw [guard_is rfl rfl gg]
                          rw [if_pos (by decide)]
                          have hbw : Below Z.heap.size Z w' := (below_drewN (Below.refl _ _) 1).trans hB
                          have t4 := hoth 4 (notDst_at (by kernel_rfl))
                          simp only [List.getElem?_toArray, List.getElem?_cons_succ, List.getElem?_cons_zero] at t4
                          have hld := (HVZ.out.below hbw).load
                          clear hdep hoth
                          go_simp
                          exact hK _ _ (Below.refl _ _) rfl
                        · intro a' w' hB hdep hoth K hK
                          obtain ⟨vg, gg, eg⟩ := hdep ⟨3, .guard⟩ (by simp) rfl
                          have gg := gg 110 rfl (by simp)
                          obtain rfl : vg = .bool false := eg
                          rw [guard_is rfl rfl gg]
                          rw [if_pos (by decide)]
                          have hbw : Below Z.heap.size Z w' := (below_drewN (Below.refl _ _) 1).trans hB
                          obtain ⟨v0, q0, e0⟩ := hdep ⟨6, .data⟩ (by simp) rfl
                          have q0 := q0 113 rfl (by simp)
                          have e0 : BrEnd Z (applyB B k L) v0 w' := e0
                          obtain ⟨v1, q1, e1⟩ := hdep ⟨7, .data⟩ (by simp) rfl
                          have q1 := q1 114 rfl (by simp)
                          obtain rfl : v1 = (.agg bv) := e1
                          have HA := hid (rsame_is true (HSB.out) e0.is (HVZ.out.below hbw).is)
                          clear hdep hoth e0
                          go_simp
                          refine HA.out.mono ?_
                          rintro e w'' ⟨rfl, hb⟩
                          exact hK _ _ hb rfl
                        · intro a' w' hB hdep hoth K hK
                          rw [if_pos (guard_none rfl)]
                          have hbw : Below Z.heap.size Z w' := (below_drewN (Below.refl _ _) 1).trans hB
                          obtain ⟨vx0, gx0, ex0⟩ := hdep ⟨3, .data⟩ (by simp) rfl
                          have gx0 := gx0 110 rfl (by simp)
                          obtain rfl : vx0 = .bool false := ex0
                          obtain ⟨vx1, gx1, ex1⟩ := hdep ⟨8, .data⟩ (by simp) rfl
                          have gx1 := gx1 115 rfl (by simp)
                          obtain rfl : vx1 = .bool true := ex1
                          clear hdep hoth
                          go_simp
                          exact hK _ _ (Below.refl _ _) rfl
                      case fin14 =>
                        intro vs Y hB hs
                        have hbw : Below Z.heap.size Z Y := (below_drewN (Below.refl _ _) 1).trans hB
                        have ev : vs 9 = .bool true := hs 9 (by decide)
                        clear hs
                        simp only [actOf, dstAt, if_true, List.getElem?_toArray, List.getElem?_cons_succ, List.getElem?_cons_zero, Option.bind_some, Act.put, List.setIfInBounds_toArray, List.set_cons_zero, List.set_cons_succ, List.length_cons, List.length_nil, Nat.reduceAdd]
                        rw [ev]
                        clear ev hB
                        have HVY := hid (HVZ.out.below hbw)
                        have HRY := hid (blk_below HRZ.out hbw (blk_lt HRZ.out))
                        have HBY := hid (HBZ.out.trans (hbw.mono HBZ.out.size))
                        clear hbw
                        go_wp2_with fail
                        refine (wakes_any Y (HC.out.below HBY.out) (HL.out.below HBY.out)).mono ?_
                        rintro e Ww ⟨rfl, hb⟩
                        have HBw := hid (HBY.out.trans (hb.mono HBY.out.size))
                        clear hb
                        go_wp2
                        go_ret
                        exact ⟨rfl, HBw.out⟩
                    | false =>
                      go_upto_region 14 with (fail)
                      refine wp_region_held_drew (S := fun _ => True) (by kernel_rfl) trivial (fun _ => ?_)
                      refine wpAnyH_grownG (w0 := Z.drew) (spL [fun z _ => z = .pointer (some ⟨w.heap.size + 1, 0, none⟩), fun z _ => z = .int .u8 k, fun z _ => z = .bool false, fun z _ => z = .bool false, fun z _ => z = (.agg bv), fun z _ => z = .agg #[.int .u8 k, .slice sa L.length sc], fun z w => BrEnd Z (applyB B k (L)) z w, fun z _ => z = (.agg bv), fun z _ => z = .bool false, fun z _ => z = .bool false]) (spL_stays ⟨stays_eq _, stays_eq _, stays_eq _, stays_eq _, stays_eq _, stays_eq _, stays_brEnd _ _, stays_eq _, stays_eq _, stays_eq _, trivial⟩) (by kernel_rfl) (by kernel_rfl) ?steps14 ?fin14 rfl
                      case steps14 =>
                        refine ⟨?_, ?_, ?_, ?_, ?_, ?_, ?_, ?_, ?_, ?_, trivial⟩
                        · intro a' w' hB hdep hoth K hK
                          rw [if_pos (guard_none rfl)]
                          have hbw : Below Z.heap.size Z w' := (below_drewN (Below.refl _ _) 1).trans hB
                          have t5 := hoth 5 (notDst_at (by kernel_rfl))
                          simp only [List.getElem?_toArray, List.getElem?_cons_succ, List.getElem?_cons_zero] at t5
                          clear hdep hoth
                          go_simp
                          exact hK _ _ (Below.refl _ _) rfl
                        · intro a' w' hB hdep hoth K hK
                          rw [if_pos (guard_none rfl)]
                          have hbw : Below Z.heap.size Z w' := (below_drewN (Below.refl _ _) 1).trans hB
                          obtain ⟨vx0, gx0, ex0⟩ := hdep ⟨0, .data⟩ (by simp) rfl
                          have gx0 := gx0 107 rfl (by simp)
                          obtain rfl : vx0 = .pointer (some ⟨w.heap.size + 1, 0, none⟩) := ex0
                          have hr5 := blk_below HRZ.out hbw (blk_lt HRZ.out)
                          have x0 : w'.cell? ⟨w.heap.size + 1, 0, none⟩ = some (.int .u8 k) := blk_cell hr5 0
                          have x1 : w'.cell? ⟨w.heap.size + 1, 1, none⟩ = some (.slice sa L.length sc) := blk_cell hr5 1
                          have lx := blk_lt hr5
                          clear hr5
                          clear hdep hoth
                          go_simp
                          exact hK _ _ (Below.refl _ _) rfl
                        · intro a' w' hB hdep hoth K hK
                          rw [if_pos (guard_none rfl)]
                          have hbw : Below Z.heap.size Z w' := (below_drewN (Below.refl _ _) 1).trans hB
                          obtain ⟨vx0, gx0, ex0⟩ := hdep ⟨1, .data⟩ (by simp) rfl
                          have gx0 := gx0 108 rfl (by simp)
                          obtain rfl : vx0 = .int .u8 k := ex0
                          clear hdep hoth
                          go_simp
                          exact hK _ _ (Below.refl _ _) rfl
                        · intro a' w' hB hdep hoth K hK
                          rw [if_pos (guard_none rfl)]
                          have hbw : Below Z.heap.size Z w' := (below_drewN (Below.refl _ _) 1).trans hB
                          obtain ⟨vx0, gx0, ex0⟩ := hdep ⟨2, .data⟩ (by simp) rfl
                          have gx0 := gx0 109 rfl (by simp)
                          obtain rfl : vx0 = .bool false := ex0
                          clear hdep hoth
                          go_simp
                          exact hK _ _ (Below.refl _ _) rfl
                        · intro a' w' hB hdep hoth K hK
                          obtain ⟨vg, gg, eg⟩ := hdep ⟨3, .guard⟩ (by simp) rfl
                          have gg := gg 110 rfl (by simp)
                          obtain rfl : vg = .bool false := eg
                          rw [guard_is rfl rfl gg]
                          rw [if_pos (by decide)]
                          have hbw : Below Z.heap.size Z w' := (below_drewN (Below.refl _ _) 1).trans hB
                          have t4 := hoth 4 (notDst_at (by kernel_rfl))
                          simp only [List.getElem?_toArray, List.getElem?_cons_succ, List.getElem?_cons_zero] at t4
                          have hld := (HVZ.out.below hbw).load
                          clear hdep hoth
                          go_simp
                          exact hK _ _ (Below.refl _ _) rfl
                        · intro a' w' hB hdep hoth K hK
                          obtain ⟨vg, gg, eg⟩ := hdep ⟨3, .guard⟩ (by simp) rfl
                          have gg := gg 110 rfl (by simp)
                          obtain rfl : vg = .bool false := eg
                          rw [guard_is rfl rfl gg]
                          rw [if_pos (by decide)]
                          have hbw : Below Z.heap.size Z w' := (below_drewN (Below.refl _ _) 1).trans hB
                          have t5 := hoth 5 (notDst_at (by kernel_rfl))
                          simp only [List.getElem?_toArray, List.getElem?_cons_succ, List.getElem?_cons_zero] at t5
                          have hr5 := blk_below HRZ.out hbw (blk_lt HRZ.out)
                          have x0 : w'.cell? ⟨w.heap.size + 1, 0, none⟩ = some (.int .u8 k) := blk_cell hr5 0
                          have x1 : w'.cell? ⟨w.heap.size + 1, 1, none⟩ = some (.slice sa L.length sc) := blk_cell hr5 1
                          have lx := blk_lt hr5
                          clear hr5
                          clear hdep hoth
                          go_simp
                          exact hK _ _ (Below.refl _ _) rfl
                        · intro a' w' hB hdep hoth K hK
                          obtain ⟨vg, gg, eg⟩ := hdep ⟨3, .guard⟩ (by simp) rfl
                          have gg := gg 110 rfl (by simp)
                          obtain rfl : vg = .bool false := eg
                          rw [guard_is rfl rfl gg]
                          rw [if_pos (by decide)]
                          have hbw : Below Z.heap.size Z w' := (below_drewN (Below.refl _ _) 1).trans hB
                          obtain ⟨v0, g0, e0⟩ := hdep ⟨4, .data⟩ (by simp) rfl
                          have g0 := g0 111 rfl (by simp)
                          obtain rfl : v0 = (.agg bv) := e0
                          obtain ⟨v1, g1, e1⟩ := hdep ⟨5, .data⟩ (by simp) rfl
                          have g1 := g1 112 rfl (by simp)
                          obtain rfl : v1 = .agg #[.int .u8 k, .slice sa L.length sc] := e1
                          have HA := hid (apply_is (k) (L) 40 (HVZ.out.below hbw).is (⟨_, rfl, HS.out.below (HBZ.out.trans (hbw.mono HBZ.out.size))⟩) HFI.out (by omega) (by have := HGB.out.2.2; omega) (by have := HL30.out; simp; omega) (HC.out.below (HBZ.out.trans (hbw.mono HBZ.out.size))) (HL.out.below (HBZ.out.trans (hbw.mono HBZ.out.size))))
                          clear hdep hoth
                          go_simp
                          refine HA.out.mono ?_
                          rintro e w'' ⟨v, rfl, he, hb⟩
                          exact hK v _ hb (he.base hbw.size)
                        · intro a' w' hB hdep hoth K hK
                          obtain ⟨vg, gg, eg⟩ := hdep ⟨3, .guard⟩ (by simp) rfl
                          have gg := gg 110 rfl (by simp)
                          obtain rfl : vg = .bool false := eg
                          rw [guard_is rfl rfl gg]
                          rw [if_pos (by decide)]
                          have hbw : Below Z.heap.size Z w' := (below_drewN (Below.refl _ _) 1).trans hB
                          have t4 := hoth 4 (notDst_at (by kernel_rfl))
                          simp only [List.getElem?_toArray, List.getElem?_cons_succ, List.getElem?_cons_zero] at t4
                          have hld := (HVZ.out.below hbw).load
                          clear hdep hoth
                          go_simp
                          exact hK _ _ (Below.refl _ _) rfl
                        · intro a' w' hB hdep hoth K hK
                          obtain ⟨vg, gg, eg⟩ := hdep ⟨3, .guard⟩ (by simp) rfl
                          have gg := gg 110 rfl (by simp)
                          obtain rfl : vg = .bool false := eg
                          rw [guard_is rfl rfl gg]
                          rw [if_pos (by decide)]
                          have hbw : Below Z.heap.size Z w' := (below_drewN (Below.refl _ _) 1).trans hB
                          obtain ⟨v0, q0, e0⟩ := hdep ⟨6, .data⟩ (by simp) rfl
                          have q0 := q0 113 rfl (by simp)
                          have e0 : BrEnd Z (applyB B k L) v0 w' := e0
                          obtain ⟨v1, q1, e1⟩ := hdep ⟨7, .data⟩ (by simp) rfl
                          have q1 := q1 114 rfl (by simp)
                          obtain rfl : v1 = (.agg bv) := e1
                          have HA := hid (rsame_is false (HSB.out) e0.is (HVZ.out.below hbw).is)
                          clear hdep hoth e0
                          go_simp
                          refine HA.out.mono ?_
                          rintro e w'' ⟨rfl, hb⟩
                          exact hK _ _ hb rfl
                        · intro a' w' hB hdep hoth K hK
                          rw [if_pos (guard_none rfl)]
                          have hbw : Below Z.heap.size Z w' := (below_drewN (Below.refl _ _) 1).trans hB
                          obtain ⟨vx0, gx0, ex0⟩ := hdep ⟨3, .data⟩ (by simp) rfl
                          have gx0 := gx0 110 rfl (by simp)
                          obtain rfl : vx0 = .bool false := ex0
                          obtain ⟨vx1, gx1, ex1⟩ := hdep ⟨8, .data⟩ (by simp) rfl
                          have gx1 := gx1 115 rfl (by simp)
                          obtain rfl : vx1 = .bool false := ex1
                          clear hdep hoth
                          go_simp
                          exact hK _ _ (Below.refl _ _) rfl
                      case fin14 =>
                        intro vs Y hB hs
                        have hbw : Below Z.heap.size Z Y := (below_drewN (Below.refl _ _) 1).trans hB
                        have ev : vs 9 = .bool false := hs 9 (by decide)
                        clear hs
                        simp only [actOf, dstAt, if_true, List.getElem?_toArray, List.getElem?_cons_succ, List.getElem?_cons_zero, Option.bind_some, Act.put, List.setIfInBounds_toArray, List.set_cons_zero, List.set_cons_succ, List.length_cons, List.length_nil, Nat.reduceAdd]
                        rw [ev]
                        clear ev hB
                        have HVY := hid (HVZ.out.below hbw)
                        have HRY := hid (blk_below HRZ.out hbw (blk_lt HRZ.out))
                        have HBY := hid (HBZ.out.trans (hbw.mono HBZ.out.size))
                        clear hbw
                        go_wp2_with fail
                        clear e2 x0z
                        refine wp_region_cut 10 1 (fun _ => True) (by kernel_rfl) (by kernel_rfl) (by kernel_rfl) ?_
                        simp only [List.take_succ_cons, List.take_zero]
                        refine wpAnyH_grownD (w0 := Y.drew) (spL _) (relD [7] (KeptT 37) [5] KeptE) (aliveD [(5, 2), (7, 5), (7, 6)]) (ancD [(5, 7), (5, 8), (7, 8)]) (spD (n := 10) (m := 10) (l := [fun z _ => z = .pointer (some ⟨w.heap.size + 1, 0, none⟩), fun z _ => z = .int .u8 k, NewRow 3 Y.heap.size, fun z _ => z = .pointer (some ⟨w.heap.size + 1, 1, none⟩), fun z _ => z = .slice sa L.length sc, fun v w => OwnI w Y.heap.size v ([] ++ L), NewOne 3 (encI 1) Y.heap.size, fun v w => OwnI w Y.heap.size v ([] ++ L ++ [1]), RecSpec Y k (L ++ [1]), NewRec Y]) (apps := [7]) (stab := [0, 1, 3, 4, 9]) (appsE := [5]) (stabE := [0, 1, 3, 4, 6, 9]) ⟨stays_eq _, stays_eq _, stays_newRow _ _, stays_eq _, stays_eq _, stays_owns 1 _ encI _ _, stays_newOne _ _ _, stays_owns 1 _ encI _ _, stays_recSpec _ _ _, stays_newRec _, trivial⟩ ⟨stw_eq _ _, stw_eq _ _, stw_eq _ _, stw_eq _ _, stw_newRec _, trivial⟩ ⟨stw_eq _ _, stw_eq _ _, stw_eq _ _, stw_eq _ _, stwE_newOne _ _ _ (by simp [encI]), stwE_newRec _, trivial⟩ rfl (by decide) (by decide)) (by kernel_rfl) (by kernel_rfl) (by kernel_rfl) (by kernel_rfl) ?steps16 ?fin16 rfl
                        case steps16 =>
                          refine ⟨?_, ?_, ?_, ?_, ?_, ?_, ?_, ?_, ?_, ?_, trivial⟩
                          · intro a' w' hB hdep hoth K hK
                            have hK := growB hB hK
                            rw [if_pos (guard_none rfl)]
                            have hbw : Below Y.heap.size Y w' := (below_drewN (Below.refl _ _) 1).trans hB
                            have t5 := hoth 5 (notDst_at (by kernel_rfl))
                            simp only [List.getElem?_toArray, List.getElem?_cons_succ, List.getElem?_cons_zero] at t5
                            clear hdep hoth
                            go_simp
                            exact hK _ _ (Below.refl _ _) rfl
                          · intro a' w' hB hdep hoth K hK
                            have hK := growB hB hK
                            rw [if_pos (guard_none rfl)]
                            have hbw : Below Y.heap.size Y w' := (below_drewN (Below.refl _ _) 1).trans hB
                            obtain ⟨vx0, gx0, ex0⟩ := hdep ⟨0, .data⟩ (by simp) rfl
                            have gx0 := gx0 118 rfl (by simp)
                            obtain rfl : vx0 = .pointer (some ⟨w.heap.size + 1, 0, none⟩) := ex0
                            have hr5 := blk_below HRY.out hbw (blk_lt HRY.out)
                            have x0 : w'.cell? ⟨w.heap.size + 1, 0, none⟩ = some (.int .u8 k) := blk_cell hr5 0
                            have x1 : w'.cell? ⟨w.heap.size + 1, 1, none⟩ = some (.slice sa L.length sc) := blk_cell hr5 1
                            have lx := blk_lt hr5
                            clear hr5
                            clear hdep hoth
                            go_simp
                            exact hK _ _ (Below.refl _ _) rfl
                          · intro a' w' hB hdep hoth K hK
                            have hK := growB hB hK
                            rw [if_pos (guard_none rfl)]
                            have hbw : Below Y.heap.size Y w' := (below_drewN (Below.refl _ _) 1).trans hB
                            clear hdep hoth
                            go_simp
                            exact hK _ _ ((Below.refl _ _).alloc (Nat.le_refl _) _) ⟨_, rfl, hbw.size, heap_new _ _⟩
                          · intro a' w' hB hdep hoth K hK
                            have hK := growB hB hK
                            rw [if_pos (guard_none rfl)]
                            have hbw : Below Y.heap.size Y w' := (below_drewN (Below.refl _ _) 1).trans hB
                            have t5 := hoth 5 (notDst_at (by kernel_rfl))
                            simp only [List.getElem?_toArray, List.getElem?_cons_succ, List.getElem?_cons_zero] at t5
                            clear hdep hoth
                            go_simp
                            exact hK _ _ (Below.refl _ _) rfl
                          · intro a' w' hB hdep hoth K hK
                            have hK := growB hB hK
                            rw [if_pos (guard_none rfl)]
                            have hbw : Below Y.heap.size Y w' := (below_drewN (Below.refl _ _) 1).trans hB
                            obtain ⟨vx0, gx0, ex0⟩ := hdep ⟨3, .data⟩ (by simp) rfl
                            have gx0 := gx0 121 rfl (by simp)
                            obtain rfl : vx0 = .pointer (some ⟨w.heap.size + 1, 1, none⟩) := ex0
                            have hr5 := blk_below HRY.out hbw (blk_lt HRY.out)
                            have x0 : w'.cell? ⟨w.heap.size + 1, 0, none⟩ = some (.int .u8 k) := blk_cell hr5 0
                            have x1 : w'.cell? ⟨w.heap.size + 1, 1, none⟩ = some (.slice sa L.length sc) := blk_cell hr5 1
                            have lx := blk_lt hr5
                            clear hr5
                            clear hdep hoth
                            go_simp
                            exact hK _ _ (Below.refl _ _) rfl
                          · intro a' w' hB hdep hoth K hK
                            have hbw : Below Y.heap.size Y w' := (below_drewN (Below.refl _ _) 1).trans hB
                            obtain ⟨vO, gO, eO⟩ := hdep ⟨2, .data⟩ (by simp) rfl
                            have gO := gO 120 rfl (by simp)
                            obtain ⟨vx, gx, ex⟩ := hdep ⟨4, .data⟩ (by simp) rfl
                            have gx := gx 122 rfl (by simp)
                            obtain rfl : vx = .slice sa L.length sc := ex
                            obtain ⟨g, rfl, hg1, hg0⟩ := eO
                            have eO : OwnI w' Y.heap.size (.slice (some ⟨g, 0, none⟩) 0 0) [] := newRow_owns hg1 hg0
                            refine step_append_row rfl _ _ 22 rfl Y.heap.size 3 i0 _ 8 Tryd.underlying22 HI0.out HI1.out HI2.out HI3.out rfl (by decide) (fun _ => rfl) (.slice (some ⟨g, 0, none⟩) 0 0) [] (by simp [Act.eval, gO]) eO (.slice sa L.length sc) L (by simp [Act.eval, gx]) (encI_one' L) (HS.out.below (HBY.out.trans (hbw.mono HBY.out.size))) (by unfold maxLen; simp; have := HL30.out; omega) (by simp; have := HL30.out; omega) hbw.size ?_
                            intro v' w'' hown hbb hgr
                            exact hK v' w'' (hB.trans hbb) (keptE_of hgr hg0) hown
                          · intro a' w' hB hdep hoth K hK
                            have hK := growB hB hK
                            rw [if_pos (guard_none rfl)]
                            have hbw : Below Y.heap.size Y w' := (below_drewN (Below.refl _ _) 1).trans hB
                            have hb1 := bs_int1 1
                            clear hdep hoth
                            go_simp
                            exact hK _ _ ((Below.refl _ _).alloc (Nat.le_refl _) _) ⟨_, rfl, hbw.size, heap_new _ _⟩
                          · intro a' w' hB hdep hoth K hK
                            have hbw : Below Y.heap.size Y w' := (below_drewN (Below.refl _ _) 1).trans hB
                            obtain ⟨vO, gO, eO⟩ := hdep ⟨5, .data⟩ (by simp) rfl
                            have gO := gO 123 rfl (by simp)
                            obtain ⟨vx, gx, ex⟩ := hdep ⟨6, .data⟩ (by simp) rfl
                            have gx := gx 124 rfl (by simp)
                            have ex : NewOne 3 (encI 1) Y.heap.size vx w' := ex
                            have eO : OwnI w' Y.heap.size vO ([] ++ L) := eO
                            refine step_append_row rfl _ _ 22 rfl Y.heap.size 3 i0 _ 8 Tryd.underlying22 HI0.out HI1.out HI2.out HI3.out rfl (by decide) (fun _ => rfl) vO ([] ++ L) (by simp [Act.eval, gO]) eO vx [1] (by simp [Act.eval, gx]) (encI_one' _) (newOne_row (fun _ => rfl) ex) (by unfold maxLen; simp; have := HL30.out; omega) (by simp; have := HL30.out; omega) hbw.size ?_
                            intro v' w'' hown hbb hgr
                            exact hK v' w'' (hB.trans hbb) (KeptT.grown hgr (fun r e => Owns.typed eO r e) (by decide)) hown
                          · intro a' w' hB hdep hoth K hK
                            have hK := growB hB hK
                            rw [if_pos (guard_none rfl)]
                            have hbw : Below Y.heap.size Y w' := (below_drewN (Below.refl _ _) 1).trans hB
                            obtain ⟨v0, q0, e0⟩ := hdep ⟨1, .data⟩ (by simp) rfl
                            have q0 := q0 119 rfl (by simp)
                            obtain rfl : v0 = .int .u8 k := e0
                            obtain ⟨v1, q1, e1⟩ := hdep ⟨7, .data⟩ (by simp) rfl
                            have q1 := q1 125 rfl (by simp)
                            have e1 : OwnI w' Y.heap.size v1 (L ++ [1]) := e1
                            obtain ⟨va, vn, vc, rfl⟩ := e1.shape
                            have E1 := hid e1
                            clear hdep hoth e1
                            go_simp
                            exact hK _ _ (Below.refl _ _) ⟨va, vn, vc, rfl, E1.out⟩
                          · intro a' w' hB hdep hoth K hK
                            have hK := growB hB hK
                            rw [if_pos (guard_none rfl)]
                            have hbw : Below Y.heap.size Y w' := (below_drewN (Below.refl _ _) 1).trans hB
                            clear hdep hoth
                            go_simp
                            exact hK _ _ ((Below.refl _ _).alloc (Nat.le_refl _) _) ⟨w'.heap.size, rfl, hbw.size, heap_new w' _⟩
                        case fin16 =>
                          intro vs w' hB hs
                          have hbw : Below Y.heap.size Y w' := (below_drewN (Below.refl _ _) 1).trans hB
                          obtain ⟨va, vn, vc, e6, ho⟩ := hs 8 (by decide) (by decide)
                          obtain ⟨T12, e7, hT, hz⟩ := hs 9 (by decide) (by decide)
                          clear hs
                          refine cutQ_held (fun _ => True) (fun f => ?_)
                          simp only [actOf, dstAt, if_true, List.getElem?_toArray, List.getElem?_cons_succ, List.getElem?_cons_zero, Option.bind_some, Act.put, List.setIfInBounds_toArray, List.set_cons_zero, List.set_cons_succ, List.length_cons, List.length_nil, Nat.reduceAdd]
                          rw [e6, e7]
                          have z0 := blk_cell hz 0
                          have z1 := blk_cell hz 1
                          have zf0 := blk_free hz 0
                          have zf1 := blk_free hz 1
                          have zl := blk_lt hz
                          have hmade := RecOwn.made (k := k) hz ho hbw hT
                          have HMADE := hid hmade
                          simp only [List.getElem?_toArray, List.getElem?_cons_zero, List.getElem?_cons_succ] at z0 z1
                          clear hmade ho hz hT
                          refine wpAnyH_ready (rs := [10]) (by kernel_rfl) (by simp) ?_
                          refine AllReadyH.cons rfl (fun K hK => ?_) AllReadyH.nil
                          go_simp
                          refine hK.out _ _ trivial (fun _ => ?_)
                          clear hK K
                          refine wpAnyH_done (by kernel_rfl) ?_ _
                          obtain ⟨X16, hX⟩ : ∃ X, X = (w'.setCell ⟨T12, 0, none⟩ (.int .u8 k)).setCell ⟨T12, 1, none⟩ (.slice va vn vc) := ⟨_, rfl⟩
                          rw [← hX] at HMADE ⊢
                          clear hX z0 z1 zf0 zf1 zl e6 e7 hB hbw
                          have HV7 := hid (HVY.out.below HMADE.out.bel)
                          have HR7 := hid (blk_below HRY.out HMADE.out.bel (blk_lt HRY.out))
                          have HB7 := hid (HBY.out.trans (HMADE.out.bel.mono HBY.out.size))
                          have HMORE := hid (show applyB B k (L ++ [1]) = B from not_len HK2.out HDN.out (by simp))
                          have DL := hid (show decide ((0 : Int) < (L.length : Int)) = true from decide_eq_true (by have := HL0.out; omega))
                          have HFEW := hid (show applyB B k (L.drop 1) = B from not_len HK2.out HDN.out (by have := HL0.out; simp; omega))
                          go_wp2_with fail
                          refine wp_region_held_drew (S := fun _ => True) (by kernel_rfl) trivial (fun _ => ?_)
                          refine wpAnyH_grownG (w0 := X16.drew) (spL [fun z _ => z = .pointer (some ⟨w.heap.size + 1, 1, none⟩), fun z _ => z = .slice sa L.length sc, fun z _ => z = .int .i64 (L.length : Int), fun z _ => z = .bool true, fun z _ => z = .bool true, fun z _ => z = (.agg bv), fun z _ => z = .pointer (some ⟨w.heap.size + 1, 0, none⟩), fun z _ => z = .int .u8 k, fun z _ => z = .pointer (some ⟨w.heap.size + 1, 1, none⟩), fun z _ => z = .slice sa L.length sc, fun z _ => z = sliced sa 1 L.length sc 1, fun z _ => z = .agg #[.int .u8 k, sliced sa 1 L.length sc 1], fun z w => BrEnd X16 (applyB B k (L.drop 1)) z w, fun z _ => z = (.agg bv), fun z _ => z = .bool true, fun z _ => z = .bool false, fun z _ => z = .bool false]) (spL_stays ⟨stays_eq _, stays_eq _, stays_eq _, stays_eq _, stays_eq _, stays_eq _, stays_eq _, stays_eq _, stays_eq _, stays_eq _, stays_eq _, stays_eq _, stays_brEnd _ _, stays_eq _, stays_eq _, stays_eq _, stays_eq _, trivial⟩) (by kernel_rfl) (by kernel_rfl) ?steps17 ?fin17 rfl
                          case steps17 =>
                            refine ⟨?_, ?_, ?_, ?_, ?_, ?_, ?_, ?_, ?_, ?_, ?_, ?_, ?_, ?_, ?_, ?_, ?_, trivial⟩
                            · intro a' w' hB hdep hoth K hK
                              rw [if_pos (guard_none rfl)]
                              have hbw : Below X16.heap.size X16 w' := (below_drewN (Below.refl _ _) 1).trans hB
                              have t5 := hoth 5 (notDst_at (by kernel_rfl))
                              simp only [List.getElem?_toArray, List.getElem?_cons_succ, List.getElem?_cons_zero] at t5
                              clear hdep hoth
                              go_simp
                              exact hK _ _ (Below.refl _ _) rfl
                            · intro a' w' hB hdep hoth K hK
                              rw [if_pos (guard_none rfl)]
                              have hbw : Below X16.heap.size X16 w' := (below_drewN (Below.refl _ _) 1).trans hB
                              obtain ⟨vx0, gx0, ex0⟩ := hdep ⟨0, .data⟩ (by simp) rfl
                              have gx0 := gx0 127 rfl (by simp)
                              obtain rfl : vx0 = .pointer (some ⟨w.heap.size + 1, 1, none⟩) := ex0
                              have hr5 := blk_below HR7.out hbw (blk_lt HR7.out)
                              have x0 : w'.cell? ⟨w.heap.size + 1, 0, none⟩ = some (.int .u8 k) := blk_cell hr5 0
                              have x1 : w'.cell? ⟨w.heap.size + 1, 1, none⟩ = some (.slice sa L.length sc) := blk_cell hr5 1
                              have lx := blk_lt hr5
                              clear hr5
                              clear hdep hoth
                              go_simp
                              exact hK _ _ (Below.refl _ _) rfl
                            · intro a' w' hB hdep hoth K hK
                              rw [if_pos (guard_none rfl)]
                              have hbw : Below X16.heap.size X16 w' := (below_drewN (Below.refl _ _) 1).trans hB
                              obtain ⟨vx0, gx0, ex0⟩ := hdep ⟨1, .data⟩ (by simp) rfl
                              have gx0 := gx0 128 rfl (by simp)
                              obtain rfl : vx0 = .slice sa L.length sc := ex0
                              clear hdep hoth
                              go_simp
                              exact hK _ _ (Below.refl _ _) rfl
                            · intro a' w' hB hdep hoth K hK
                              rw [if_pos (guard_none rfl)]
                              have hbw : Below X16.heap.size X16 w' := (below_drewN (Below.refl _ _) 1).trans hB
                              obtain ⟨vx0, gx0, ex0⟩ := hdep ⟨2, .data⟩ (by simp) rfl
                              have gx0 := gx0 129 rfl (by simp)
                              obtain rfl : vx0 = .int .i64 (L.length : Int) := ex0
                              have dl := HL0.out
                              clear hdep hoth
                              go_simp
                              exact hK _ _ (Below.refl _ _) rfl
                            · intro a' w' hB hdep hoth K hK
                              rw [if_pos (guard_none rfl)]
                              have hbw : Below X16.heap.size X16 w' := (below_drewN (Below.refl _ _) 1).trans hB
                              obtain ⟨vx0, gx0, ex0⟩ := hdep ⟨3, .data⟩ (by simp) rfl
                              have gx0 := gx0 130 rfl (by simp)
                              obtain rfl : vx0 = .bool true := ex0
                              clear hdep hoth
                              go_simp
                              exact hK _ _ (Below.refl _ _) rfl
                            · intro a' w' hB hdep hoth K hK
                              obtain ⟨vg, gg, eg⟩ := hdep ⟨4, .guard⟩ (by simp) rfl
                              have gg := gg 131 rfl (by simp)
                              obtain rfl : vg = .bool true := eg
                              rw [guard_is rfl rfl gg]
                              rw [if_pos (by decide)]
                              have hbw : Below X16.heap.size X16 w' := (below_drewN (Below.refl _ _) 1).trans hB
                              have t4 := hoth 4 (notDst_at (by kernel_rfl))
                              simp only [List.getElem?_toArray, List.getElem?_cons_succ, List.getElem?_cons_zero] at t4
                              have hld := (HV7.out.below hbw).load
                              clear hdep hoth
                              go_simp
                              exact hK _ _ (Below.refl _ _) rfl
                            · intro a' w' hB hdep hoth K hK
                              obtain ⟨vg, gg, eg⟩ := hdep ⟨4, .guard⟩ (by simp) rfl
                              have gg := gg 131 rfl (by simp)
                              obtain rfl : vg = .bool true := eg
                              rw [guard_is rfl rfl gg]
                              rw [if_pos (by decide)]
                              have hbw : Below X16.heap.size X16 w' := (below_drewN (Below.refl _ _) 1).trans hB
                              have t5 := hoth 5 (notDst_at (by kernel_rfl))
                              simp only [List.getElem?_toArray, List.getElem?_cons_succ, List.getElem?_cons_zero] at t5
                              clear hdep hoth
                              go_simp
                              exact hK _ _ (Below.refl _ _) rfl
                            · intro a' w' hB hdep hoth K hK
                              obtain ⟨vg, gg, eg⟩ := hdep ⟨4, .guard⟩ (by simp) rfl
                              have gg := gg 131 rfl (by simp)
                              obtain rfl : vg = .bool true := eg
                              rw [guard_is rfl rfl gg]
                              rw [if_pos (by decide)]
                              have hbw : Below X16.heap.size X16 w' := (below_drewN (Below.refl _ _) 1).trans hB
                              obtain ⟨vx0, gx0, ex0⟩ := hdep ⟨6, .data⟩ (by simp) rfl
                              have gx0 := gx0 133 rfl (by simp)
                              obtain rfl : vx0 = .pointer (some ⟨w.heap.size + 1, 0, none⟩) := ex0
                              have hr5 := blk_below HR7.out hbw (blk_lt HR7.out)
                              have x0 : w'.cell? ⟨w.heap.size + 1, 0, none⟩ = some (.int .u8 k) := blk_cell hr5 0
                              have x1 : w'.cell? ⟨w.heap.size + 1, 1, none⟩ = some (.slice sa L.length sc) := blk_cell hr5 1
                              have lx := blk_lt hr5
                              clear hr5
                              clear hdep hoth
                              go_simp
                              exact hK _ _ (Below.refl _ _) rfl
                            · intro a' w' hB hdep hoth K hK
                              obtain ⟨vg, gg, eg⟩ := hdep ⟨4, .guard⟩ (by simp) rfl
                              have gg := gg 131 rfl (by simp)
                              obtain rfl : vg = .bool true := eg
                              rw [guard_is rfl rfl gg]
                              rw [if_pos (by decide)]
                              have hbw : Below X16.heap.size X16 w' := (below_drewN (Below.refl _ _) 1).trans hB
                              have t5 := hoth 5 (notDst_at (by kernel_rfl))
                              simp only [List.getElem?_toArray, List.getElem?_cons_succ, List.getElem?_cons_zero] at t5
                              clear hdep hoth
                              go_simp
                              exact hK _ _ (Below.refl _ _) rfl
                            · intro a' w' hB hdep hoth K hK
                              obtain ⟨vg, gg, eg⟩ := hdep ⟨4, .guard⟩ (by simp) rfl
                              have gg := gg 131 rfl (by simp)
                              obtain rfl : vg = .bool true := eg
                              rw [guard_is rfl rfl gg]
                              rw [if_pos (by decide)]
                              have hbw : Below X16.heap.size X16 w' := (below_drewN (Below.refl _ _) 1).trans hB
                              obtain ⟨vx0, gx0, ex0⟩ := hdep ⟨8, .data⟩ (by simp) rfl
                              have gx0 := gx0 135 rfl (by simp)
                              obtain rfl : vx0 = .pointer (some ⟨w.heap.size + 1, 1, none⟩) := ex0
                              have hr5 := blk_below HR7.out hbw (blk_lt HR7.out)
                              have x0 : w'.cell? ⟨w.heap.size + 1, 0, none⟩ = some (.int .u8 k) := blk_cell hr5 0
                              have x1 : w'.cell? ⟨w.heap.size + 1, 1, none⟩ = some (.slice sa L.length sc) := blk_cell hr5 1
                              have lx := blk_lt hr5
                              clear hr5
                              clear hdep hoth
                              go_simp
                              exact hK _ _ (Below.refl _ _) rfl
                            · intro a' w' hB hdep hoth K hK
                              obtain ⟨vg, gg, eg⟩ := hdep ⟨4, .guard⟩ (by simp) rfl
                              have gg := gg 131 rfl (by simp)
                              obtain rfl : vg = .bool true := eg
                              rw [guard_is rfl rfl gg]
                              rw [if_pos (by decide)]
                              have hbw : Below X16.heap.size X16 w' := (below_drewN (Below.refl _ _) 1).trans hB
                              obtain ⟨vx0, gx0, ex0⟩ := hdep ⟨9, .data⟩ (by simp) rfl
                              have gx0 := gx0 136 rfl (by simp)
                              obtain rfl : vx0 = .slice sa L.length sc := ex0
                              have hsl := from_i1 sa L.length sc (by have := HL0.out; omega)
                              clear hdep hoth
                              go_simp
                              exact hK _ _ (Below.refl _ _) rfl
                            · intro a' w' hB hdep hoth K hK
                              obtain ⟨vg, gg, eg⟩ := hdep ⟨4, .guard⟩ (by simp) rfl
                              have gg := gg 131 rfl (by simp)
                              obtain rfl : vg = .bool true := eg
                              rw [guard_is rfl rfl gg]
                              rw [if_pos (by decide)]
                              have hbw : Below X16.heap.size X16 w' := (below_drewN (Below.refl _ _) 1).trans hB
                              obtain ⟨vx0, gx0, ex0⟩ := hdep ⟨7, .data⟩ (by simp) rfl
                              have gx0 := gx0 134 rfl (by simp)
                              obtain rfl : vx0 = .int .u8 k := ex0
                              obtain ⟨vx1, gx1, ex1⟩ := hdep ⟨10, .data⟩ (by simp) rfl
                              have gx1 := gx1 137 rfl (by simp)
                              obtain rfl : vx1 = sliced sa 1 L.length sc 1 := ex1
                              clear hdep hoth
                              go_simp
                              exact hK _ _ (Below.refl _ _) rfl
                            · intro a' w' hB hdep hoth K hK
                              obtain ⟨vg, gg, eg⟩ := hdep ⟨4, .guard⟩ (by simp) rfl
                              have gg := gg 131 rfl (by simp)
                              obtain rfl : vg = .bool true := eg
                              rw [guard_is rfl rfl gg]
                              rw [if_pos (by decide)]
                              have hbw : Below X16.heap.size X16 w' := (below_drewN (Below.refl _ _) 1).trans hB
                              obtain ⟨v0, g0, e0⟩ := hdep ⟨5, .data⟩ (by simp) rfl
                              have g0 := g0 132 rfl (by simp)
                              obtain rfl : v0 = (.agg bv) := e0
                              obtain ⟨v1, g1, e1⟩ := hdep ⟨11, .data⟩ (by simp) rfl
                              have g1 := g1 138 rfl (by simp)
                              obtain rfl : v1 = .agg #[.int .u8 k, sliced sa 1 L.length sc 1] := e1
                              have HA := hid (apply_is (k) (L.drop 1) 40 (HV7.out.below hbw).is (⟨_, rfl, row_from (HS.out.below (HB7.out.trans (hbw.mono HB7.out.size))) (by have := HL0.out; omega)⟩) HFI.out (by omega) (by have := HGB.out.2.2; omega) (by have := HL30.out; simp; omega) (HC.out.below (HB7.out.trans (hbw.mono HB7.out.size))) (HL.out.below (HB7.out.trans (hbw.mono HB7.out.size))))
                              clear hdep hoth
                              go_simp
                              refine HA.out.mono ?_
                              rintro e w'' ⟨v, rfl, he, hb⟩
                              exact hK v _ hb (he.base hbw.size)
                            · intro a' w' hB hdep hoth K hK
                              obtain ⟨vg, gg, eg⟩ := hdep ⟨4, .guard⟩ (by simp) rfl
                              have gg := gg 131 rfl (by simp)
                              obtain rfl : vg = .bool true := eg
                              rw [guard_is rfl rfl gg]
                              rw [if_pos (by decide)]
                              have hbw : Below X16.heap.size X16 w' := (below_drewN (Below.refl _ _) 1).trans hB
                              have t4 := hoth 4 (notDst_at (by kernel_rfl))
                              simp only [List.getElem?_toArray, List.getElem?_cons_succ, List.getElem?_cons_zero] at t4
                              have hld := (HV7.out.below hbw).load
                              clear hdep hoth
                              go_simp
                              exact hK _ _ (Below.refl _ _) rfl
                            · intro a' w' hB hdep hoth K hK
                              obtain ⟨vg, gg, eg⟩ := hdep ⟨4, .guard⟩ (by simp) rfl
                              have gg := gg 131 rfl (by simp)
                              obtain rfl : vg = .bool true := eg
                              rw [guard_is rfl rfl gg]
                              rw [if_pos (by decide)]
                              have hbw : Below X16.heap.size X16 w' := (below_drewN (Below.refl _ _) 1).trans hB
                              obtain ⟨v0, q0, e0⟩ := hdep ⟨12, .data⟩ (by simp) rfl
                              have q0 := q0 139 rfl (by simp)
                              have e0 : BrEnd X16 (applyB B k (L.drop 1)) v0 w' := e0
                              obtain ⟨v1, q1, e1⟩ := hdep ⟨13, .data⟩ (by simp) rfl
                              have q1 := q1 140 rfl (by simp)
                              obtain rfl : v1 = (.agg bv) := e1
                              have HA := hid (rsame_is true (sameB_of HFEW.out) e0.is (HV7.out.below hbw).is)
                              clear hdep hoth e0
                              go_simp
                              refine HA.out.mono ?_
                              rintro e w'' ⟨rfl, hb⟩
                              exact hK _ _ hb rfl
                            · intro a' w' hB hdep hoth K hK
                              obtain ⟨vg, gg, eg⟩ := hdep ⟨4, .guard⟩ (by simp) rfl
                              have gg := gg 131 rfl (by simp)
                              obtain rfl : vg = .bool true := eg
                              rw [guard_is rfl rfl gg]
                              rw [if_pos (by decide)]
                              have hbw : Below X16.heap.size X16 w' := (below_drewN (Below.refl _ _) 1).trans hB
                              obtain ⟨vx0, gx0, ex0⟩ := hdep ⟨14, .data⟩ (by simp) rfl
                              have gx0 := gx0 141 rfl (by simp)
                              obtain rfl : vx0 = .bool true := ex0
                              clear hdep hoth
                              go_simp
                              exact hK _ _ (Below.refl _ _) rfl
                            · intro a' w' hB hdep hoth K hK
                              rw [if_pos (guard_none rfl)]
                              have hbw : Below X16.heap.size X16 w' := (below_drewN (Below.refl _ _) 1).trans hB
                              obtain ⟨vx0, gx0, ex0⟩ := hdep ⟨4, .data⟩ (by simp) rfl
                              have gx0 := gx0 131 rfl (by simp)
                              obtain rfl : vx0 = .bool true := ex0
                              obtain ⟨vx1, gx1, ex1⟩ := hdep ⟨15, .data⟩ (by simp) rfl
                              have gx1 := gx1 142 rfl (by simp)
                              obtain rfl : vx1 = .bool false := ex1
                              clear hdep hoth
                              go_simp
                              exact hK _ _ (Below.refl _ _) rfl
                          case fin17 =>
                            intro vs V hB hs
                            have hbw : Below X16.heap.size X16 V := (below_drewN (Below.refl _ _) 1).trans hB
                            have ev : vs 16 = .bool false := hs 16 (by decide)
                            clear hs
                            simp only [actOf, dstAt, if_true, List.getElem?_toArray, List.getElem?_cons_succ, List.getElem?_cons_zero, Option.bind_some, Act.put, List.setIfInBounds_toArray, List.set_cons_zero, List.set_cons_succ, List.length_cons, List.length_nil, Nat.reduceAdd]
                            rw [ev]
                            clear ev hB
                            have HV8 := hid (HV7.out.below hbw)
                            have HB8 := hid (HB7.out.trans (hbw.mono HB7.out.size))
                            have HM8 := hid (HMADE.out.below hbw)
                            clear hbw
                            go_wp2_with fail
                            refine wp_region_held_drew (S := fun _ => True) (by kernel_rfl) trivial (fun _ => ?_)
                            refine wpAnyH_grownG (w0 := V.drew) (spL [fun z _ => z = (.agg bv), fun z _ => z = .agg #[.int .u8 k, .slice va vn vc], fun z w => BrEnd V (applyB B k (L ++ [1])) z w, fun z _ => z = (.agg bv), fun z _ => z = .bool true, fun z _ => z = .bool true, fun z _ => z = .bool true, fun z _ => z = .bool true, fun z _ => z = .bool true]) (spL_stays ⟨stays_eq _, stays_eq _, stays_brEnd _ _, stays_eq _, stays_eq _, stays_eq _, stays_eq _, stays_eq _, stays_eq _, trivial⟩) (by kernel_rfl) (by kernel_rfl) ?steps19 ?fin19 rfl
                            case steps19 =>
                              refine ⟨?_, ?_, ?_, ?_, ?_, ?_, ?_, ?_, ?_, trivial⟩
                              · intro a' w' hB hdep hoth K hK
                                rw [if_pos (guard_none rfl)]
                                have hbw : Below V.heap.size V w' := (below_drewN (Below.refl _ _) 1).trans hB
                                have t4 := hoth 4 (notDst_at (by kernel_rfl))
                                simp only [List.getElem?_toArray, List.getElem?_cons_succ, List.getElem?_cons_zero] at t4
                                have hld := (HV8.out.below hbw).load
                                clear hdep hoth
                                go_simp
                                exact hK _ _ (Below.refl _ _) rfl
                              · intro a' w' hB hdep hoth K hK
                                rw [if_pos (guard_none rfl)]
                                have hbw : Below V.heap.size V w' := (below_drewN (Below.refl _ _) 1).trans hB
                                have t12 := hoth 12 (notDst_at (by kernel_rfl))
                                simp only [List.getElem?_toArray, List.getElem?_cons_succ, List.getElem?_cons_zero] at t12
                                have hrt := (HM8.out.below hbw).box
                                have q0 : w'.cell? ⟨T12, 0, none⟩ = some (.int .u8 k) := blk_cell hrt 0
                                have q1 : w'.cell? ⟨T12, 1, none⟩ = some (.slice va vn vc) := blk_cell hrt 1
                                have lq := blk_lt hrt
                                clear hrt
                                clear hdep hoth
                                go_simp
                                exact hK _ _ (Below.refl _ _) rfl
                              · intro a' w' hB hdep hoth K hK
                                rw [if_pos (guard_none rfl)]
                                have hbw : Below V.heap.size V w' := (below_drewN (Below.refl _ _) 1).trans hB
                                obtain ⟨v0, g0, e0⟩ := hdep ⟨0, .data⟩ (by simp) rfl
                                have g0 := g0 144 rfl (by simp)
                                obtain rfl : v0 = (.agg bv) := e0
                                obtain ⟨v1, g1, e1⟩ := hdep ⟨1, .data⟩ (by simp) rfl
                                have g1 := g1 145 rfl (by simp)
                                obtain rfl : v1 = .agg #[.int .u8 k, .slice va vn vc] := e1
                                have HA := hid (apply_is (k) (L ++ [1]) 40 (HV8.out.below hbw).is ((HM8.out.below hbw).is) HFI.out (by omega) (by have := HGB.out.2.2; omega) (by have := HL30.out; simp; omega) (HC.out.below (HB8.out.trans (hbw.mono HB8.out.size))) (HL.out.below (HB8.out.trans (hbw.mono HB8.out.size))))
                                clear hdep hoth
                                go_simp
                                refine HA.out.mono ?_
                                rintro e w'' ⟨v, rfl, he, hb⟩
                                exact hK v _ hb (he.base hbw.size)
                              · intro a' w' hB hdep hoth K hK
                                rw [if_pos (guard_none rfl)]
                                have hbw : Below V.heap.size V w' := (below_drewN (Below.refl _ _) 1).trans hB
                                have t4 := hoth 4 (notDst_at (by kernel_rfl))
                                simp only [List.getElem?_toArray, List.getElem?_cons_succ, List.getElem?_cons_zero] at t4
                                have hld := (HV8.out.below hbw).load
                                clear hdep hoth
                                go_simp
                                exact hK _ _ (Below.refl _ _) rfl
                              · intro a' w' hB hdep hoth K hK
                                rw [if_pos (guard_none rfl)]
                                have hbw : Below V.heap.size V w' := (below_drewN (Below.refl _ _) 1).trans hB
                                obtain ⟨v0, q0, e0⟩ := hdep ⟨2, .data⟩ (by simp) rfl
                                have q0 := q0 146 rfl (by simp)
                                have e0 : BrEnd V (applyB B k (L ++ [1])) v0 w' := e0
                                obtain ⟨v1, q1, e1⟩ := hdep ⟨3, .data⟩ (by simp) rfl
                                have q1 := q1 147 rfl (by simp)
                                obtain rfl : v1 = (.agg bv) := e1
                                have HA := hid (rsame_is true (sameB_of HMORE.out) e0.is (HV8.out.below hbw).is)
                                clear hdep hoth e0
                                go_simp
                                refine HA.out.mono ?_
                                rintro e w'' ⟨rfl, hb⟩
                                exact hK _ _ hb rfl
                              · intro a' w' hB hdep hoth K hK
                                rw [if_pos (guard_none rfl)]
                                have hbw : Below V.heap.size V w' := (below_drewN (Below.refl _ _) 1).trans hB
                                obtain ⟨vx0, gx0, ex0⟩ := hdep ⟨4, .data⟩ (by simp) rfl
                                have gx0 := gx0 148 rfl (by simp)
                                obtain rfl : vx0 = .bool true := ex0
                                clear hdep hoth
                                go_simp
                                exact hK _ _ (Below.refl _ _) rfl
                              · intro a' w' hB hdep hoth K hK
                                obtain ⟨vg, gg, eg⟩ := hdep ⟨5, .guard⟩ (by simp) rfl
                                have gg := gg 149 rfl (by simp)
                                obtain rfl : vg = .bool true := eg
                                rw [guard_is rfl rfl gg]
                                rw [if_pos (by decide)]
                                have hbw : Below V.heap.size V w' := (below_drewN (Below.refl _ _) 1).trans hB
                                have HA := hid (wakes_any w' (HC.out.below (HB8.out.trans (hbw.mono HB8.out.size))) (HL.out.below (HB8.out.trans (hbw.mono HB8.out.size))))
                                clear hdep hoth
                                go_simp
                                refine HA.out.mono ?_
                                rintro e w'' ⟨rfl, hb⟩
                                exact hK _ _ hb rfl
                              · intro a' w' hB hdep hoth K hK
                                rw [if_pos (guard_none rfl)]
                                have hbw : Below V.heap.size V w' := (below_drewN (Below.refl _ _) 1).trans hB
                                obtain ⟨vx0, gx0, ex0⟩ := hdep ⟨5, .data⟩ (by simp) rfl
                                have gx0 := gx0 149 rfl (by simp)
                                obtain rfl : vx0 = .bool true := ex0
                                obtain ⟨vx1, gx1, ex1⟩ := hdep ⟨6, .data⟩ (by simp) rfl
                                have gx1 := gx1 150 rfl (by simp)
                                obtain rfl : vx1 = .bool true := ex1
                                clear hdep hoth
                                go_simp
                                exact hK _ _ (Below.refl _ _) rfl
                              · intro a' w' hB hdep hoth K hK
                                rw [if_pos (guard_none rfl)]
                                have hbw : Below V.heap.size V w' := (below_drewN (Below.refl _ _) 1).trans hB
                                obtain ⟨vx0, gx0, ex0⟩ := hdep ⟨7, .data⟩ (by simp) rfl
                                have gx0 := gx0 151 rfl (by simp)
                                obtain rfl : vx0 = .bool true := ex0
                                clear hdep hoth
                                go_simp
                                exact hK _ _ (Below.refl _ _) rfl
                            case fin19 =>
                              intro vs V9 hB hs
                              have hbw : Below V.heap.size V V9 := (below_drewN (Below.refl _ _) 1).trans hB
                              have ev : vs 8 = .bool true := hs 8 (by decide)
                              clear hs
                              simp only [actOf, dstAt, if_true, List.getElem?_toArray, List.getElem?_cons_succ, List.getElem?_cons_zero, Option.bind_some, Act.put, List.setIfInBounds_toArray, List.set_cons_zero, List.set_cons_succ, List.length_cons, List.length_nil, Nat.reduceAdd]
                              rw [ev]
                              clear ev hB
                              have HB9 := hid (HB8.out.trans (hbw.mono HB8.out.size))
                              clear hbw
                              go_wp2
                              go_ret
                              exact ⟨rfl, HB9.out⟩
                  · have HSB := hid (show sameB (applyB B k L) B = true from sameB_of (by
                      cases h : deedN k with
                      | none => exact not_kind HK2.out h L
                      | some m => exact not_len HK2.out h (fun e => hdn (by rw [h, e]))))
                    clear hdn
                    go_upto_region 14 with (fail)
                    refine wp_region_held_drew (S := fun _ => True) (by kernel_rfl) trivial (fun _ => ?_)
                    refine wpAnyH_grownG (w0 := Z.drew) (spL [fun z _ => z = .pointer (some ⟨w.heap.size + 1, 0, none⟩), fun z _ => z = .int .u8 k, fun z _ => z = .bool false, fun z _ => z = .bool false, fun z _ => z = (.agg bv), fun z _ => z = .agg #[.int .u8 k, .slice sa L.length sc], fun z w => BrEnd Z (applyB B k (L)) z w, fun z _ => z = (.agg bv), fun z _ => z = .bool true, fun z _ => z = .bool true]) (spL_stays ⟨stays_eq _, stays_eq _, stays_eq _, stays_eq _, stays_eq _, stays_eq _, stays_brEnd _ _, stays_eq _, stays_eq _, stays_eq _, trivial⟩) (by kernel_rfl) (by kernel_rfl) ?steps14 ?fin14 rfl
                    case steps14 =>
                      refine ⟨?_, ?_, ?_, ?_, ?_, ?_, ?_, ?_, ?_, ?_, trivial⟩
                      · intro a' w' hB hdep hoth K hK
                        rw [if_pos (guard_none rfl)]
                        have hbw : Below Z.heap.size Z w' := (below_drewN (Below.refl _ _) 1).trans hB
                        have t5 := hoth 5 (notDst_at (by kernel_rfl))
                        simp only [List.getElem?_toArray, List.getElem?_cons_succ, List.getElem?_cons_zero] at t5
                        clear hdep hoth
                        go_simp
                        exact hK _ _ (Below.refl _ _) rfl
                      · intro a' w' hB hdep hoth K hK
                        rw [if_pos (guard_none rfl)]
                        have hbw : Below Z.heap.size Z w' := (below_drewN (Below.refl _ _) 1).trans hB
                        obtain ⟨vx0, gx0, ex0⟩ := hdep ⟨0, .data⟩ (by simp) rfl
                        have gx0 := gx0 107 rfl (by simp)
                        obtain rfl : vx0 = .pointer (some ⟨w.heap.size + 1, 0, none⟩) := ex0
                        have hr5 := blk_below HRZ.out hbw (blk_lt HRZ.out)
                        have x0 : w'.cell? ⟨w.heap.size + 1, 0, none⟩ = some (.int .u8 k) := blk_cell hr5 0
                        have x1 : w'.cell? ⟨w.heap.size + 1, 1, none⟩ = some (.slice sa L.length sc) := blk_cell hr5 1
                        have lx := blk_lt hr5
                        clear hr5
                        clear hdep hoth
                        go_simp
                        exact hK _ _ (Below.refl _ _) rfl
                      · intro a' w' hB hdep hoth K hK
                        rw [if_pos (guard_none rfl)]
                        have hbw : Below Z.heap.size Z w' := (below_drewN (Below.refl _ _) 1).trans hB
                        obtain ⟨vx0, gx0, ex0⟩ := hdep ⟨1, .data⟩ (by simp) rfl
                        have gx0 := gx0 108 rfl (by simp)
                        obtain rfl : vx0 = .int .u8 k := ex0
                        clear hdep hoth
                        go_simp
                        exact hK _ _ (Below.refl _ _) rfl
                      · intro a' w' hB hdep hoth K hK
                        rw [if_pos (guard_none rfl)]
                        have hbw : Below Z.heap.size Z w' := (below_drewN (Below.refl _ _) 1).trans hB
                        obtain ⟨vx0, gx0, ex0⟩ := hdep ⟨2, .data⟩ (by simp) rfl
                        have gx0 := gx0 109 rfl (by simp)
                        obtain rfl : vx0 = .bool false := ex0
                        clear hdep hoth
                        go_simp
                        exact hK _ _ (Below.refl _ _) rfl
                      · intro a' w' hB hdep hoth K hK
                        obtain ⟨vg, gg, eg⟩ := hdep ⟨3, .guard⟩ (by simp) rfl
                        have gg := gg 110 rfl (by simp)
                        obtain rfl : vg = .bool false := eg
                        rw [guard_is rfl rfl gg]
                        rw [if_pos (by decide)]
                        have hbw : Below Z.heap.size Z w' := (below_drewN (Below.refl _ _) 1).trans hB
                        have t4 := hoth 4 (notDst_at (by kernel_rfl))
                        simp only [List.getElem?_toArray, List.getElem?_cons_succ, List.getElem?_cons_zero] at t4
                        have hld := (HVZ.out.below hbw).load
                        clear hdep hoth
                        go_simp
                        exact hK _ _ (Below.refl _ _) rfl
                      · intro a' w' hB hdep hoth K hK
                        obtain ⟨vg, gg, eg⟩ := hdep ⟨3, .guard⟩ (by simp) rfl
                        have gg := gg 110 rfl (by simp)
                        obtain rfl : vg = .bool false := eg
                        rw [guard_is rfl rfl gg]
                        rw [if_pos (by decide)]
                        have hbw : Below Z.heap.size Z w' := (below_drewN (Below.refl _ _) 1).trans hB
                        have t5 := hoth 5 (notDst_at (by kernel_rfl))
                        simp only [List.getElem?_toArray, List.getElem?_cons_succ, List.getElem?_cons_zero] at t5
                        have hr5 := blk_below HRZ.out hbw (blk_lt HRZ.out)
                        have x0 : w'.cell? ⟨w.heap.size + 1, 0, none⟩ = some (.int .u8 k) := blk_cell hr5 0
                        have x1 : w'.cell? ⟨w.heap.size + 1, 1, none⟩ = some (.slice sa L.length sc) := blk_cell hr5 1
                        have lx := blk_lt hr5
                        clear hr5
                        clear hdep hoth
                        go_simp
                        exact hK _ _ (Below.refl _ _) rfl
                      · intro a' w' hB hdep hoth K hK
                        obtain ⟨vg, gg, eg⟩ := hdep ⟨3, .guard⟩ (by simp) rfl
                        have gg := gg 110 rfl (by simp)
                        obtain rfl : vg = .bool false := eg
                        rw [guard_is rfl rfl gg]
                        rw [if_pos (by decide)]
                        have hbw : Below Z.heap.size Z w' := (below_drewN (Below.refl _ _) 1).trans hB
                        obtain ⟨v0, g0, e0⟩ := hdep ⟨4, .data⟩ (by simp) rfl
                        have g0 := g0 111 rfl (by simp)
                        obtain rfl : v0 = (.agg bv) := e0
                        obtain ⟨v1, g1, e1⟩ := hdep ⟨5, .data⟩ (by simp) rfl
                        have g1 := g1 112 rfl (by simp)
                        obtain rfl : v1 = .agg #[.int .u8 k, .slice sa L.length sc] := e1
                        have HA := hid (apply_is (k) (L) 40 (HVZ.out.below hbw).is (⟨_, rfl, HS.out.below (HBZ.out.trans (hbw.mono HBZ.out.size))⟩) HFI.out (by omega) (by have := HGB.out.2.2; omega) (by have := HL30.out; simp; omega) (HC.out.below (HBZ.out.trans (hbw.mono HBZ.out.size))) (HL.out.below (HBZ.out.trans (hbw.mono HBZ.out.size))))
                        clear hdep hoth
                        go_simp
                        refine HA.out.mono ?_
                        rintro e w'' ⟨v, rfl, he, hb⟩
                        exact hK v _ hb (he.base hbw.size)
                      · intro a' w' hB hdep hoth K hK
                        obtain ⟨vg, gg, eg⟩ := hdep ⟨3, .guard⟩ (by simp) rfl
                        have gg := gg 110 rfl (by simp)
                        obtain rfl : vg = .bool false := eg
                        rw [guard_is rfl rfl gg]
                        rw [if_pos (by decide)]
                        have hbw : Below Z.heap.size Z w' := (below_drewN (Below.refl _ _) 1).trans hB
                        have t4 := hoth 4 (notDst_at (by kernel_rfl))
                        simp only [List.getElem?_toArray, List.getElem?_cons_succ, List.getElem?_cons_zero] at t4
                        have hld := (HVZ.out.below hbw).load
                        clear hdep hoth
                        go_simp
                        exact hK _ _ (Below.refl _ _) rfl
                      · intro a' w' hB hdep hoth K hK
                        obtain ⟨vg, gg, eg⟩ := hdep ⟨3, .guard⟩ (by simp) rfl
                        have gg := gg 110 rfl (by simp)
                        obtain rfl : vg = .bool false := eg
                        rw [guard_is rfl rfl gg]
                        rw [if_pos (by decide)]
                        have hbw : Below Z.heap.size Z w' := (below_drewN (Below.refl _ _) 1).trans hB
                        obtain ⟨v0, q0, e0⟩ := hdep ⟨6, .data⟩ (by simp) rfl
                        have q0 := q0 113 rfl (by simp)
                        have e0 : BrEnd Z (applyB B k L) v0 w' := e0
                        obtain ⟨v1, q1, e1⟩ := hdep ⟨7, .data⟩ (by simp) rfl
                        have q1 := q1 114 rfl (by simp)
                        obtain rfl : v1 = (.agg bv) := e1
                        have HA := hid (rsame_is true (HSB.out) e0.is (HVZ.out.below hbw).is)
                        clear hdep hoth e0
                        go_simp
                        refine HA.out.mono ?_
                        rintro e w'' ⟨rfl, hb⟩
                        exact hK _ _ hb rfl
                      · intro a' w' hB hdep hoth K hK
                        rw [if_pos (guard_none rfl)]
                        have hbw : Below Z.heap.size Z w' := (below_drewN (Below.refl _ _) 1).trans hB
                        obtain ⟨vx0, gx0, ex0⟩ := hdep ⟨3, .data⟩ (by simp) rfl
                        have gx0 := gx0 110 rfl (by simp)
                        obtain rfl : vx0 = .bool false := ex0
                        obtain ⟨vx1, gx1, ex1⟩ := hdep ⟨8, .data⟩ (by simp) rfl
                        have gx1 := gx1 115 rfl (by simp)
                        obtain rfl : vx1 = .bool true := ex1
                        clear hdep hoth
                        go_simp
                        exact hK _ _ (Below.refl _ _) rfl
                    case fin14 =>
                      intro vs Y hB hs
                      have hbw : Below Z.heap.size Z Y := (below_drewN (Below.refl _ _) 1).trans hB
                      have ev : vs 9 = .bool true := hs 9 (by decide)
                      clear hs
                      simp only [actOf, dstAt, if_true, List.getElem?_toArray, List.getElem?_cons_succ, List.getElem?_cons_zero, Option.bind_some, Act.put, List.setIfInBounds_toArray, List.set_cons_zero, List.set_cons_succ, List.length_cons, List.length_nil, Nat.reduceAdd]
                      rw [ev]
                      clear ev hB
                      have HVY := hid (HVZ.out.below hbw)
                      have HRY := hid (blk_below HRZ.out hbw (blk_lt HRZ.out))
                      have HBY := hid (HBZ.out.trans (hbw.mono HBZ.out.size))
                      clear hbw
                      go_wp2_with fail
                      refine (wakes_any Y (HC.out.below HBY.out) (HL.out.below HBY.out)).mono ?_
                      rintro e Ww ⟨rfl, hb⟩
                      have HBw := hid (HBY.out.trans (hb.mono HBY.out.size))
                      clear hb
                      go_wp2
                      go_ret
                      exact ⟨rfl, HBw.out⟩
        · have d0 : decide ((0 : Int) < (L.length : Int)) = false := decide_eq_false (by omega)
          obtain ⟨Z, hZ⟩ : ∃ Z : World, Z = W6 := ⟨_, rfl⟩
          subst hZ
          have HVZ := hid HV6.out
          have HRZ := hid HR6.out
          have HBZ := hid HB6.out
          have hbn := bs_int0'
          have HL0 := hid hl0
          clear x1 hl0
          have x1z : Z.cell? ⟨w.heap.size + 1, 1, none⟩ = some (.slice sa L.length sc) := blk_cell HR6.out 1
          by_cases hk2 : k = 2
          · subst hk2
            go_upto_region 14 with (fail)
            refine wp_region_held_drew (S := fun _ => True) (by kernel_rfl) trivial (fun _ => ?_)
            refine wpAnyH_grownG (w0 := Z.drew) (spL [fun z _ => z = .pointer (some ⟨w.heap.size + 1, 0, none⟩), fun z _ => z = .int .u8 2, fun z _ => z = .bool true, fun z _ => z = .bool true, fun z _ => z = undef, fun z _ => z = undef, fun z _ => z = undef, fun z _ => z = undef, fun z _ => z = undef, fun z _ => z = .bool true]) (spL_stays ⟨stays_eq _, stays_eq _, stays_eq _, stays_eq _, stays_eq _, stays_eq _, stays_eq _, stays_eq _, stays_eq _, stays_eq _, trivial⟩) (by kernel_rfl) (by kernel_rfl) ?steps14 ?fin14 rfl
            case steps14 =>
              refine ⟨?_, ?_, ?_, ?_, ?_, ?_, ?_, ?_, ?_, ?_, trivial⟩
              · intro a' w' hB hdep hoth K hK
                rw [if_pos (guard_none rfl)]
                have hbw : Below Z.heap.size Z w' := (below_drewN (Below.refl _ _) 1).trans hB
                have t5 := hoth 5 (notDst_at (by kernel_rfl))
                simp only [List.getElem?_toArray, List.getElem?_cons_succ, List.getElem?_cons_zero] at t5
                clear hdep hoth
                go_simp
                exact hK _ _ (Below.refl _ _) rfl
              · intro a' w' hB hdep hoth K hK
                rw [if_pos (guard_none rfl)]
                have hbw : Below Z.heap.size Z w' := (below_drewN (Below.refl _ _) 1).trans hB
                obtain ⟨vx0, gx0, ex0⟩ := hdep ⟨0, .data⟩ (by simp) rfl
                have gx0 := gx0 107 rfl (by simp)
                obtain rfl : vx0 = .pointer (some ⟨w.heap.size + 1, 0, none⟩) := ex0
                have hr5 := blk_below HRZ.out hbw (blk_lt HRZ.out)
                have x0 : w'.cell? ⟨w.heap.size + 1, 0, none⟩ = some (.int .u8 2) := blk_cell hr5 0
                have x1 : w'.cell? ⟨w.heap.size + 1, 1, none⟩ = some (.slice sa L.length sc) := blk_cell hr5 1
                have lx := blk_lt hr5
                clear hr5
                clear hdep hoth
                go_simp
                exact hK _ _ (Below.refl _ _) rfl
              · intro a' w' hB hdep hoth K hK
                rw [if_pos (guard_none rfl)]
                have hbw : Below Z.heap.size Z w' := (below_drewN (Below.refl _ _) 1).trans hB
                obtain ⟨vx0, gx0, ex0⟩ := hdep ⟨1, .data⟩ (by simp) rfl
                have gx0 := gx0 108 rfl (by simp)
                obtain rfl : vx0 = .int .u8 2 := ex0
                clear hdep hoth
                go_simp
                exact hK _ _ (Below.refl _ _) rfl
              · intro a' w' hB hdep hoth K hK
                rw [if_pos (guard_none rfl)]
                have hbw : Below Z.heap.size Z w' := (below_drewN (Below.refl _ _) 1).trans hB
                obtain ⟨vx0, gx0, ex0⟩ := hdep ⟨2, .data⟩ (by simp) rfl
                have gx0 := gx0 109 rfl (by simp)
                obtain rfl : vx0 = .bool true := ex0
                clear hdep hoth
                go_simp
                exact hK _ _ (Below.refl _ _) rfl
              · intro a' w' hB hdep hoth K hK
                obtain ⟨vg, gg, eg⟩ := hdep ⟨3, .guard⟩ (by simp) rfl
                have gg := gg 110 rfl (by simp)
                obtain rfl : vg = .bool true := eg
                rw [guard_is rfl rfl gg]
                rw [if_neg (by decide)]
                exact hK _ _ (Below.refl _ _) rfl
              · intro a' w' hB hdep hoth K hK
                obtain ⟨vg, gg, eg⟩ := hdep ⟨3, .guard⟩ (by simp) rfl
                have gg := gg 110 rfl (by simp)
                obtain rfl : vg = .bool true := eg
                rw [guard_is rfl rfl gg]
                rw [if_neg (by decide)]
                exact hK _ _ (Below.refl _ _) rfl
              · intro a' w' hB hdep hoth K hK
                obtain ⟨vg, gg, eg⟩ := hdep ⟨3, .guard⟩ (by simp) rfl
                have gg := gg 110 rfl (by simp)
                obtain rfl : vg = .bool true := eg
                rw [guard_is rfl rfl gg]
                rw [if_neg (by decide)]
                exact hK _ _ (Below.refl _ _) rfl
              · intro a' w' hB hdep hoth K hK
                obtain ⟨vg, gg, eg⟩ := hdep ⟨3, .guard⟩ (by simp) rfl
                have gg := gg 110 rfl (by simp)
                obtain rfl : vg = .bool true := eg
                rw [guard_is rfl rfl gg]
                rw [if_neg (by decide)]
                exact hK _ _ (Below.refl _ _) rfl
              · intro a' w' hB hdep hoth K hK
                obtain ⟨vg, gg, eg⟩ := hdep ⟨3, .guard⟩ (by simp) rfl
                have gg := gg 110 rfl (by simp)
                obtain rfl : vg = .bool true := eg
                rw [guard_is rfl rfl gg]
                rw [if_neg (by decide)]
                exact hK _ _ (Below.refl _ _) rfl
              · intro a' w' hB hdep hoth K hK
                rw [if_pos (guard_none rfl)]
                have hbw : Below Z.heap.size Z w' := (below_drewN (Below.refl _ _) 1).trans hB
                obtain ⟨vx0, gx0, ex0⟩ := hdep ⟨3, .data⟩ (by simp) rfl
                have gx0 := gx0 110 rfl (by simp)
                obtain rfl : vx0 = .bool true := ex0
                clear hdep hoth
                go_simp
                exact hK _ _ (Below.refl _ _) rfl
            case fin14 =>
              intro vs Y hB hs
              have hbw : Below Z.heap.size Z Y := (below_drewN (Below.refl _ _) 1).trans hB
              have ev : vs 9 = .bool true := hs 9 (by decide)
              clear hs
              simp only [actOf, dstAt, if_true, List.getElem?_toArray, List.getElem?_cons_succ, List.getElem?_cons_zero, Option.bind_some, Act.put, List.setIfInBounds_toArray, List.set_cons_zero, List.set_cons_succ, List.length_cons, List.length_nil, Nat.reduceAdd]
              rw [ev]
              clear ev hB
              have HVY := hid (HVZ.out.below hbw)
              have HRY := hid (blk_below HRZ.out hbw (blk_lt HRZ.out))
              have HBY := hid (HBZ.out.trans (hbw.mono HBZ.out.size))
              clear hbw
              go_wp2_with fail
              refine (wakes_any Y (HC.out.below HBY.out) (HL.out.below HBY.out)).mono ?_
              rintro e Ww ⟨rfl, hb⟩
              have HBw := hid (HBY.out.trans (hb.mono HBY.out.size))
              clear hb
              go_wp2
              go_ret
              exact ⟨rfl, HBw.out⟩
          · have HK2 := hid hk2
            have e2 : (k == 2) = false := by simpa using hk2
            have x0z : Z.cell? ⟨w.heap.size + 1, 0, none⟩ = some (.int .u8 k) := blk_cell HRZ.out 0
            clear hk2
            by_cases hdn : deedN k = some L.length
            · have HDN := hid hdn
              clear hdn
              obtain ⟨sb, hsb⟩ : ∃ sb, sameB (applyB B k L) B = sb := ⟨_, rfl⟩
              have HSB := hid hsb
              clear hsb
              cases sb with
              | true =>
                go_upto_region 14 with (fail)
                refine wp_region_held_drew (S := fun _ => True) (by kernel_rfl) trivial (fun _ => ?_)
                refine wpAnyH_grownG (w0 := Z.drew) (spL [fun z _ => z = .pointer (some ⟨w.heap.size + 1, 0, none⟩), fun z _ => z = .int .u8 k, fun z _ => z = .bool false, fun z _ => z = .bool false, fun z _ => z = (.agg bv), fun z _ => z = .agg #[.int .u8 k, .slice sa L.length sc], fun z w => BrEnd Z (applyB B k (L)) z w, fun z _ => z = (.agg bv), fun z _ => z = .bool true, fun z _ => z = .bool true]) (spL_stays ⟨stays_eq _, stays_eq _, stays_eq _, stays_eq _, stays_eq _, stays_eq _, stays_brEnd _ _, stays_eq _, stays_eq _, stays_eq _, trivial⟩) (by kernel_rfl) (by kernel_rfl) ?steps14 ?fin14 rfl
                case steps14 =>
                  refine ⟨?_, ?_, ?_, ?_, ?_, ?_, ?_, ?_, ?_, ?_, trivial⟩
                  · intro a' w' hB hdep hoth K hK
                    rw [if_pos (guard_none rfl)]
                    have hbw : Below Z.heap.size Z w' := (below_drewN (Below.refl _ _) 1).trans hB
                    have t5 := hoth 5 (notDst_at (by kernel_rfl))
                    simp only [List.getElem?_toArray, List.getElem?_cons_succ, List.getElem?_cons_zero] at t5
                    clear hdep hoth
                    go_simp
                    exact hK _ _ (Below.refl _ _) rfl
                  · intro a' w' hB hdep hoth K hK
                    rw [if_pos (guard_none rfl)]
                    have hbw : Below Z.heap.size Z w' := (below_drewN (Below.refl _ _) 1).trans hB
                    obtain ⟨vx0, gx0, ex0⟩ := hdep ⟨0, .data⟩ (by simp) rfl
                    have gx0 := gx0 107 rfl (by simp)
                    obtain rfl : vx0 = .pointer (some ⟨w.heap.size + 1, 0, none⟩) := ex0
                    have hr5 := blk_below HRZ.out hbw (blk_lt HRZ.out)
                    have x0 : w'.cell? ⟨w.heap.size + 1, 0, none⟩ = some (.int .u8 k) := blk_cell hr5 0
                    have x1 : w'.cell? ⟨w.heap.size + 1, 1, none⟩ = some (.slice sa L.length sc) := blk_cell hr5 1
                    have lx := blk_lt hr5
                    clear hr5
                    clear hdep hoth
                    go_simp
                    exact hK _ _ (Below.refl _ _) rfl
                  · intro a' w' hB hdep hoth K hK
                    rw [if_pos (guard_none rfl)]
                    have hbw : Below Z.heap.size Z w' := (below_drewN (Below.refl _ _) 1).trans hB
                    obtain ⟨vx0, gx0, ex0⟩ := hdep ⟨1, .data⟩ (by simp) rfl
                    have gx0 := gx0 108 rfl (by simp)
                    obtain rfl : vx0 = .int .u8 k := ex0
                    clear hdep hoth
                    go_simp
                    exact hK _ _ (Below.refl _ _) rfl
                  · intro a' w' hB hdep hoth K hK
                    rw [if_pos (guard_none rfl)]
                    have hbw : Below Z.heap.size Z w' := (below_drewN (Below.refl _ _) 1).trans hB
                    obtain ⟨vx0, gx0, ex0⟩ := hdep ⟨2, .data⟩ (by simp) rfl
                    have gx0 := gx0 109 rfl (by simp)
                    obtain rfl : vx0 = .bool false := ex0
                    clear hdep hoth
                    go_simp
                    exact hK _ _ (Below.refl _ _) rfl
                  · intro a' w' hB hdep hoth K hK
                    obtain ⟨vg, gg, eg⟩ := hdep ⟨3, .guard⟩ (by simp) rfl
                    have gg := gg 110 rfl (by simp)
                    obtain rfl : vg = .bool false := eg
                    rw [guard_is rfl rfl gg]
                    rw [if_pos (by decide)]
                    have hbw : Below Z.heap.size Z w' := (below_drewN (Below.refl _ _) 1).trans hB
                    have t4 := hoth 4 (notDst_at (by kernel_rfl))
                    simp only [List.getElem?_toArray, List.getElem?_cons_succ, List.getElem?_cons_zero] at t4
                    have hld := (HVZ.out.below hbw).load
                    clear hdep hoth
                    go_simp
                    exact hK _ _ (Below.refl _ _) rfl
                  · intro a' w' hB hdep hoth K hK
                    obtain ⟨vg, gg, eg⟩ := hdep ⟨3, .guard⟩ (by simp) rfl
                    have gg := gg 110 rfl (by simp)
                    obtain rfl : vg = .bool false := eg
                    rw [guard_is rfl rfl gg]
                    rw [if_pos (by decide)]
                    have hbw : Below Z.heap.size Z w' := (below_drewN (Below.refl _ _) 1).trans hB
                    have t5 := hoth 5 (notDst_at (by kernel_rfl))
                    simp only [List.getElem?_toArray, List.getElem?_cons_succ, List.getElem?_cons_zero] at t5
                    have hr5 := blk_below HRZ.out hbw (blk_lt HRZ.out)
                    have x0 : w'.cell? ⟨w.heap.size + 1, 0, none⟩ = some (.int .u8 k) := blk_cell hr5 0
                    have x1 : w'.cell? ⟨w.heap.size + 1, 1, none⟩ = some (.slice sa L.length sc) := blk_cell hr5 1
                    have lx := blk_lt hr5
                    clear hr5
                    clear hdep hoth
                    go_simp
                    exact hK _ _ (Below.refl _ _) rfl
                  · intro a' w' hB hdep hoth K hK
                    obtain ⟨vg, gg, eg⟩ := hdep ⟨3, .guard⟩ (by simp) rfl
                    have gg := gg 110 rfl (by simp)
                    obtain rfl : vg = .bool false := eg
                    rw [guard_is rfl rfl gg]
                    rw [if_pos (by decide)]
                    have hbw : Below Z.heap.size Z w' := (below_drewN (Below.refl _ _) 1).trans hB
                    obtain ⟨v0, g0, e0⟩ := hdep ⟨4, .data⟩ (by simp) rfl
                    have g0 := g0 111 rfl (by simp)
                    obtain rfl : v0 = (.agg bv) := e0
                    obtain ⟨v1, g1, e1⟩ := hdep ⟨5, .data⟩ (by simp) rfl
                    have g1 := g1 112 rfl (by simp)
                    obtain rfl : v1 = .agg #[.int .u8 k, .slice sa L.length sc] := e1
                    have HA := hid (apply_is (k) (L) 40 (HVZ.out.below hbw).is (⟨_, rfl, HS.out.below (HBZ.out.trans (hbw.mono HBZ.out.size))⟩) HFI.out (by omega) (by have := HGB.out.2.2; omega) (by have := HL30.out; simp; omega) (HC.out.below (HBZ.out.trans (hbw.mono HBZ.out.size))) (HL.out.below (HBZ.out.trans (hbw.mono HBZ.out.size))))
                    clear hdep hoth
                    go_simp
                    refine HA.out.mono ?_
                    rintro e w'' ⟨v, rfl, he, hb⟩
                    exact hK v _ hb (he.base hbw.size)
                  · intro a' w' hB hdep hoth K hK
                    obtain ⟨vg, gg, eg⟩ := hdep ⟨3, .guard⟩ (by simp) rfl
                    have gg := gg 110 rfl (by simp)
                    obtain rfl : vg = .bool false := eg
                    rw [guard_is rfl rfl gg]
                    rw [if_pos (by decide)]
                    have hbw : Below Z.heap.size Z w' := (below_drewN (Below.refl _ _) 1).trans hB
                    have t4 := hoth 4 (notDst_at (by kernel_rfl))
                    simp only [List.getElem?_toArray, List.getElem?_cons_succ, List.getElem?_cons_zero] at t4
                    have hld := (HVZ.out.below hbw).load
                    clear hdep hoth
                    go_simp
                    exact hK _ _ (Below.refl _ _) rfl
                  · intro a' w' hB hdep hoth K hK
                    obtain ⟨vg, gg, eg⟩ := hdep ⟨3, .guard⟩ (by simp) rfl
                    have gg := gg 110 rfl (by simp)
                    obtain rfl : vg = .bool false := eg
                    rw [guard_is rfl rfl gg]
                    rw [if_pos (by decide)]
                    have hbw : Below Z.heap.size Z w' := (below_drewN (Below.refl _ _) 1).trans hB
                    obtain ⟨v0, q0, e0⟩ := hdep ⟨6, .data⟩ (by simp) rfl
                    have q0 := q0 113 rfl (by simp)
                    have e0 : BrEnd Z (applyB B k L) v0 w' := e0
                    obtain ⟨v1, q1, e1⟩ := hdep ⟨7, .data⟩ (by simp) rfl
                    have q1 := q1 114 rfl (by simp)
                    obtain rfl : v1 = (.agg bv) := e1
                    have HA := hid (rsame_is true (HSB.out) e0.is (HVZ.out.below hbw).is)
                    clear hdep hoth e0
                    go_simp
                    refine HA.out.mono ?_
                    rintro e w'' ⟨rfl, hb⟩
                    exact hK _ _ hb rfl
                  · intro a' w' hB hdep hoth K hK
                    rw [if_pos (guard_none rfl)]
                    have hbw : Below Z.heap.size Z w' := (below_drewN (Below.refl _ _) 1).trans hB
                    obtain ⟨vx0, gx0, ex0⟩ := hdep ⟨3, .data⟩ (by simp) rfl
                    have gx0 := gx0 110 rfl (by simp)
                    obtain rfl : vx0 = .bool false := ex0
                    obtain ⟨vx1, gx1, ex1⟩ := hdep ⟨8, .data⟩ (by simp) rfl
                    have gx1 := gx1 115 rfl (by simp)
                    obtain rfl : vx1 = .bool true := ex1
                    clear hdep hoth
                    go_simp
                    exact hK _ _ (Below.refl _ _) rfl
                case fin14 =>
                  intro vs Y hB hs
                  have hbw : Below Z.heap.size Z Y := (below_drewN (Below.refl _ _) 1).trans hB
                  have ev : vs 9 = .bool true := hs 9 (by decide)
                  clear hs
                  simp only [actOf, dstAt, if_true, List.getElem?_toArray, List.getElem?_cons_succ, List.getElem?_cons_zero, Option.bind_some, Act.put, List.setIfInBounds_toArray, List.set_cons_zero, List.set_cons_succ, List.length_cons, List.length_nil, Nat.reduceAdd]
                  rw [ev]
                  clear ev hB
                  have HVY := hid (HVZ.out.below hbw)
                  have HRY := hid (blk_below HRZ.out hbw (blk_lt HRZ.out))
                  have HBY := hid (HBZ.out.trans (hbw.mono HBZ.out.size))
                  clear hbw
                  go_wp2_with fail
                  refine (wakes_any Y (HC.out.below HBY.out) (HL.out.below HBY.out)).mono ?_
                  rintro e Ww ⟨rfl, hb⟩
                  have HBw := hid (HBY.out.trans (hb.mono HBY.out.size))
                  clear hb
                  go_wp2
                  go_ret
                  exact ⟨rfl, HBw.out⟩
              | false =>
                go_upto_region 14 with (fail)
                refine wp_region_held_drew (S := fun _ => True) (by kernel_rfl) trivial (fun _ => ?_)
                refine wpAnyH_grownG (w0 := Z.drew) (spL [fun z _ => z = .pointer (some ⟨w.heap.size + 1, 0, none⟩), fun z _ => z = .int .u8 k, fun z _ => z = .bool false, fun z _ => z = .bool false, fun z _ => z = (.agg bv), fun z _ => z = .agg #[.int .u8 k, .slice sa L.length sc], fun z w => BrEnd Z (applyB B k (L)) z w, fun z _ => z = (.agg bv), fun z _ => z = .bool false, fun z _ => z = .bool false]) (spL_stays ⟨stays_eq _, stays_eq _, stays_eq _, stays_eq _, stays_eq _, stays_eq _, stays_brEnd _ _, stays_eq _, stays_eq _, stays_eq _, trivial⟩) (by kernel_rfl) (by kernel_rfl) ?steps14 ?fin14 rfl
                case steps14 =>
                  refine ⟨?_, ?_, ?_, ?_, ?_, ?_, ?_, ?_, ?_, ?_, trivial⟩
                  · intro a' w' hB hdep hoth K hK
                    rw [if_pos (guard_none rfl)]
                    have hbw : Below Z.heap.size Z w' := (below_drewN (Below.refl _ _) 1).trans hB
                    have t5 := hoth 5 (notDst_at (by kernel_rfl))
                    simp only [List.getElem?_toArray, List.getElem?_cons_succ, List.getElem?_cons_zero] at t5
                    clear hdep hoth
                    go_simp
                    exact hK _ _ (Below.refl _ _) rfl
                  · intro a' w' hB hdep hoth K hK
                    rw [if_pos (guard_none rfl)]
                    have hbw : Below Z.heap.size Z w' := (below_drewN (Below.refl _ _) 1).trans hB
                    obtain ⟨vx0, gx0, ex0⟩ := hdep ⟨0, .data⟩ (by simp) rfl
                    have gx0 := gx0 107 rfl (by simp)
                    obtain rfl : vx0 = .pointer (some ⟨w.heap.size + 1, 0, none⟩) := ex0
                    have hr5 := blk_below HRZ.out hbw (blk_lt HRZ.out)
                    have x0 : w'.cell? ⟨w.heap.size + 1, 0, none⟩ = some (.int .u8 k) := blk_cell hr5 0
                    have x1 : w'.cell? ⟨w.heap.size + 1, 1, none⟩ = some (.slice sa L.length sc) := blk_cell hr5 1
                    have lx := blk_lt hr5
                    clear hr5
                    clear hdep hoth
                    go_simp
                    exact hK _ _ (Below.refl _ _) rfl
                  · intro a' w' hB hdep hoth K hK
                    rw [if_pos (guard_none rfl)]
                    have hbw : Below Z.heap.size Z w' := (below_drewN (Below.refl _ _) 1).trans hB
                    obtain ⟨vx0, gx0, ex0⟩ := hdep ⟨1, .data⟩ (by simp) rfl
                    have gx0 := gx0 108 rfl (by simp)
                    obtain rfl : vx0 = .int .u8 k := ex0
                    clear hdep hoth
                    go_simp
                    exact hK _ _ (Below.refl _ _) rfl
                  · intro a' w' hB hdep hoth K hK
                    rw [if_pos (guard_none rfl)]
                    have hbw : Below Z.heap.size Z w' := (below_drewN (Below.refl _ _) 1).trans hB
                    obtain ⟨vx0, gx0, ex0⟩ := hdep ⟨2, .data⟩ (by simp) rfl
                    have gx0 := gx0 109 rfl (by simp)
                    obtain rfl : vx0 = .bool false := ex0
                    clear hdep hoth
                    go_simp
                    exact hK _ _ (Below.refl _ _) rfl
                  · intro a' w' hB hdep hoth K hK
                    obtain ⟨vg, gg, eg⟩ := hdep ⟨3, .guard⟩ (by simp) rfl
                    have gg := gg 110 rfl (by simp)
                    obtain rfl : vg = .bool false := eg
                    rw [guard_is rfl rfl gg]
                    rw [if_pos (by decide)]
                    have hbw : Below Z.heap.size Z w' := (below_drewN (Below.refl _ _) 1).trans hB
                    have t4 := hoth 4 (notDst_at (by kernel_rfl))
                    simp only [List.getElem?_toArray, List.getElem?_cons_succ, List.getElem?_cons_zero] at t4
                    have hld := (HVZ.out.below hbw).load
                    clear hdep hoth
                    go_simp
                    exact hK _ _ (Below.refl _ _) rfl
                  · intro a' w' hB hdep hoth K hK
                    obtain ⟨vg, gg, eg⟩ := hdep ⟨3, .guard⟩ (by simp) rfl
                    have gg := gg 110 rfl (by simp)
                    obtain rfl : vg = .bool false := eg
                    rw [guard_is rfl rfl gg]
                    rw [if_pos (by decide)]
                    have hbw : Below Z.heap.size Z w' := (below_drewN (Below.refl _ _) 1).trans hB
                    have t5 := hoth 5 (notDst_at (by kernel_rfl))
                    simp only [List.getElem?_toArray, List.getElem?_cons_succ, List.getElem?_cons_zero] at t5
                    have hr5 := blk_below HRZ.out hbw (blk_lt HRZ.out)
                    have x0 : w'.cell? ⟨w.heap.size + 1, 0, none⟩ = some (.int .u8 k) := blk_cell hr5 0
                    have x1 : w'.cell? ⟨w.heap.size + 1, 1, none⟩ = some (.slice sa L.length sc) := blk_cell hr5 1
                    have lx := blk_lt hr5
                    clear hr5
                    clear hdep hoth
                    go_simp
                    exact hK _ _ (Below.refl _ _) rfl
                  · intro a' w' hB hdep hoth K hK
                    obtain ⟨vg, gg, eg⟩ := hdep ⟨3, .guard⟩ (by simp) rfl
                    have gg := gg 110 rfl (by simp)
                    obtain rfl : vg = .bool false := eg
                    rw [guard_is rfl rfl gg]
                    rw [if_pos (by decide)]
                    have hbw : Below Z.heap.size Z w' := (below_drewN (Below.refl _ _) 1).trans hB
                    obtain ⟨v0, g0, e0⟩ := hdep ⟨4, .data⟩ (by simp) rfl
                    have g0 := g0 111 rfl (by simp)
                    obtain rfl : v0 = (.agg bv) := e0
                    obtain ⟨v1, g1, e1⟩ := hdep ⟨5, .data⟩ (by simp) rfl
                    have g1 := g1 112 rfl (by simp)
                    obtain rfl : v1 = .agg #[.int .u8 k, .slice sa L.length sc] := e1
                    have HA := hid (apply_is (k) (L) 40 (HVZ.out.below hbw).is (⟨_, rfl, HS.out.below (HBZ.out.trans (hbw.mono HBZ.out.size))⟩) HFI.out (by omega) (by have := HGB.out.2.2; omega) (by have := HL30.out; simp; omega) (HC.out.below (HBZ.out.trans (hbw.mono HBZ.out.size))) (HL.out.below (HBZ.out.trans (hbw.mono HBZ.out.size))))
                    clear hdep hoth
                    go_simp
                    refine HA.out.mono ?_
                    rintro e w'' ⟨v, rfl, he, hb⟩
                    exact hK v _ hb (he.base hbw.size)
                  · intro a' w' hB hdep hoth K hK
                    obtain ⟨vg, gg, eg⟩ := hdep ⟨3, .guard⟩ (by simp) rfl
                    have gg := gg 110 rfl (by simp)
                    obtain rfl : vg = .bool false := eg
                    rw [guard_is rfl rfl gg]
                    rw [if_pos (by decide)]
                    have hbw : Below Z.heap.size Z w' := (below_drewN (Below.refl _ _) 1).trans hB
                    have t4 := hoth 4 (notDst_at (by kernel_rfl))
                    simp only [List.getElem?_toArray, List.getElem?_cons_succ, List.getElem?_cons_zero] at t4
                    have hld := (HVZ.out.below hbw).load
                    clear hdep hoth
                    go_simp
                    exact hK _ _ (Below.refl _ _) rfl
                  · intro a' w' hB hdep hoth K hK
                    obtain ⟨vg, gg, eg⟩ := hdep ⟨3, .guard⟩ (by simp) rfl
                    have gg := gg 110 rfl (by simp)
                    obtain rfl : vg = .bool false := eg
                    rw [guard_is rfl rfl gg]
                    rw [if_pos (by decide)]
                    have hbw : Below Z.heap.size Z w' := (below_drewN (Below.refl _ _) 1).trans hB
                    obtain ⟨v0, q0, e0⟩ := hdep ⟨6, .data⟩ (by simp) rfl
                    have q0 := q0 113 rfl (by simp)
                    have e0 : BrEnd Z (applyB B k L) v0 w' := e0
                    obtain ⟨v1, q1, e1⟩ := hdep ⟨7, .data⟩ (by simp) rfl
                    have q1 := q1 114 rfl (by simp)
                    obtain rfl : v1 = (.agg bv) := e1
                    have HA := hid (rsame_is false (HSB.out) e0.is (HVZ.out.below hbw).is)
                    clear hdep hoth e0
                    go_simp
                    refine HA.out.mono ?_
                    rintro e w'' ⟨rfl, hb⟩
                    exact hK _ _ hb rfl
                  · intro a' w' hB hdep hoth K hK
                    rw [if_pos (guard_none rfl)]
                    have hbw : Below Z.heap.size Z w' := (below_drewN (Below.refl _ _) 1).trans hB
                    obtain ⟨vx0, gx0, ex0⟩ := hdep ⟨3, .data⟩ (by simp) rfl
                    have gx0 := gx0 110 rfl (by simp)
                    obtain rfl : vx0 = .bool false := ex0
                    obtain ⟨vx1, gx1, ex1⟩ := hdep ⟨8, .data⟩ (by simp) rfl
                    have gx1 := gx1 115 rfl (by simp)
                    obtain rfl : vx1 = .bool false := ex1
                    clear hdep hoth
                    go_simp
                    exact hK _ _ (Below.refl _ _) rfl
                case fin14 =>
                  intro vs Y hB hs
                  have hbw : Below Z.heap.size Z Y := (below_drewN (Below.refl _ _) 1).trans hB
                  have ev : vs 9 = .bool false := hs 9 (by decide)
                  clear hs
                  simp only [actOf, dstAt, if_true, List.getElem?_toArray, List.getElem?_cons_succ, List.getElem?_cons_zero, Option.bind_some, Act.put, List.setIfInBounds_toArray, List.set_cons_zero, List.set_cons_succ, List.length_cons, List.length_nil, Nat.reduceAdd]
                  rw [ev]
                  clear ev hB
                  have HVY := hid (HVZ.out.below hbw)
                  have HRY := hid (blk_below HRZ.out hbw (blk_lt HRZ.out))
                  have HBY := hid (HBZ.out.trans (hbw.mono HBZ.out.size))
                  clear hbw
                  go_wp2_with fail
                  clear e2 x0z
                  refine wp_region_cut 10 1 (fun _ => True) (by kernel_rfl) (by kernel_rfl) (by kernel_rfl) ?_
                  simp only [List.take_succ_cons, List.take_zero]
                  refine wpAnyH_grownD (w0 := Y.drew) (spL _) (relD [7] (KeptT 37) [5] KeptE) (aliveD [(5, 2), (7, 5), (7, 6)]) (ancD [(5, 7), (5, 8), (7, 8)]) (spD (n := 10) (m := 10) (l := [fun z _ => z = .pointer (some ⟨w.heap.size + 1, 0, none⟩), fun z _ => z = .int .u8 k, NewRow 3 Y.heap.size, fun z _ => z = .pointer (some ⟨w.heap.size + 1, 1, none⟩), fun z _ => z = .slice sa L.length sc, fun v w => OwnI w Y.heap.size v ([] ++ L), NewOne 3 (encI 1) Y.heap.size, fun v w => OwnI w Y.heap.size v ([] ++ L ++ [1]), RecSpec Y k (L ++ [1]), NewRec Y]) (apps := [7]) (stab := [0, 1, 3, 4, 9]) (appsE := [5]) (stabE := [0, 1, 3, 4, 6, 9]) ⟨stays_eq _, stays_eq _, stays_newRow _ _, stays_eq _, stays_eq _, stays_owns 1 _ encI _ _, stays_newOne _ _ _, stays_owns 1 _ encI _ _, stays_recSpec _ _ _, stays_newRec _, trivial⟩ ⟨stw_eq _ _, stw_eq _ _, stw_eq _ _, stw_eq _ _, stw_newRec _, trivial⟩ ⟨stw_eq _ _, stw_eq _ _, stw_eq _ _, stw_eq _ _, stwE_newOne _ _ _ (by simp [encI]), stwE_newRec _, trivial⟩ rfl (by decide) (by decide)) (by kernel_rfl) (by kernel_rfl) (by kernel_rfl) (by kernel_rfl) ?steps16 ?fin16 rfl
                  case steps16 =>
                    refine ⟨?_, ?_, ?_, ?_, ?_, ?_, ?_, ?_, ?_, ?_, trivial⟩
                    · intro a' w' hB hdep hoth K hK
                      have hK := growB hB hK
                      rw [if_pos (guard_none rfl)]
                      have hbw : Below Y.heap.size Y w' := (below_drewN (Below.refl _ _) 1).trans hB
                      have t5 := hoth 5 (notDst_at (by kernel_rfl))
                      simp only [List.getElem?_toArray, List.getElem?_cons_succ, List.getElem?_cons_zero] at t5
                      clear hdep hoth
                      go_simp
                      exact hK _ _ (Below.refl _ _) rfl
                    · intro a' w' hB hdep hoth K hK
                      have hK := growB hB hK
                      rw [if_pos (guard_none rfl)]
                      have hbw : Below Y.heap.size Y w' := (below_drewN (Below.refl _ _) 1).trans hB
                      obtain ⟨vx0, gx0, ex0⟩ := hdep ⟨0, .data⟩ (by simp) rfl
                      have gx0 := gx0 118 rfl (by simp)
                      obtain rfl : vx0 = .pointer (some ⟨w.heap.size + 1, 0, none⟩) := ex0
                      have hr5 := blk_below HRY.out hbw (blk_lt HRY.out)
                      have x0 : w'.cell? ⟨w.heap.size + 1, 0, none⟩ = some (.int .u8 k) := blk_cell hr5 0
                      have x1 : w'.cell? ⟨w.heap.size + 1, 1, none⟩ = some (.slice sa L.length sc) := blk_cell hr5 1
                      have lx := blk_lt hr5
                      clear hr5
                      clear hdep hoth
                      go_simp
                      exact hK _ _ (Below.refl _ _) rfl
                    · intro a' w' hB hdep hoth K hK
                      have hK := growB hB hK
                      rw [if_pos (guard_none rfl)]
                      have hbw : Below Y.heap.size Y w' := (below_drewN (Below.refl _ _) 1).trans hB
                      clear hdep hoth
                      go_simp
                      exact hK _ _ ((Below.refl _ _).alloc (Nat.le_refl _) _) ⟨_, rfl, hbw.size, heap_new _ _⟩
                    · intro a' w' hB hdep hoth K hK
                      have hK := growB hB hK
                      rw [if_pos (guard_none rfl)]
                      have hbw : Below Y.heap.size Y w' := (below_drewN (Below.refl _ _) 1).trans hB
                      have t5 := hoth 5 (notDst_at (by kernel_rfl))
                      simp only [List.getElem?_toArray, List.getElem?_cons_succ, List.getElem?_cons_zero] at t5
                      clear hdep hoth
                      go_simp
                      exact hK _ _ (Below.refl _ _) rfl
                    · intro a' w' hB hdep hoth K hK
                      have hK := growB hB hK
                      rw [if_pos (guard_none rfl)]
                      have hbw : Below Y.heap.size Y w' := (below_drewN (Below.refl _ _) 1).trans hB
                      obtain ⟨vx0, gx0, ex0⟩ := hdep ⟨3, .data⟩ (by simp) rfl
                      have gx0 := gx0 121 rfl (by simp)
                      obtain rfl : vx0 = .pointer (some ⟨w.heap.size + 1, 1, none⟩) := ex0
                      have hr5 := blk_below HRY.out hbw (blk_lt HRY.out)
                      have x0 : w'.cell? ⟨w.heap.size + 1, 0, none⟩ = some (.int .u8 k) := blk_cell hr5 0
                      have x1 : w'.cell? ⟨w.heap.size + 1, 1, none⟩ = some (.slice sa L.length sc) := blk_cell hr5 1
                      have lx := blk_lt hr5
                      clear hr5
                      clear hdep hoth
                      go_simp
                      exact hK _ _ (Below.refl _ _) rfl
                    · intro a' w' hB hdep hoth K hK
                      have hbw : Below Y.heap.size Y w' := (below_drewN (Below.refl _ _) 1).trans hB
                      obtain ⟨vO, gO, eO⟩ := hdep ⟨2, .data⟩ (by simp) rfl
                      have gO := gO 120 rfl (by simp)
                      obtain ⟨vx, gx, ex⟩ := hdep ⟨4, .data⟩ (by simp) rfl
                      have gx := gx 122 rfl (by simp)
                      obtain rfl : vx = .slice sa L.length sc := ex
                      obtain ⟨g, rfl, hg1, hg0⟩ := eO
                      have eO : OwnI w' Y.heap.size (.slice (some ⟨g, 0, none⟩) 0 0) [] := newRow_owns hg1 hg0
                      refine step_append_row rfl _ _ 22 rfl Y.heap.size 3 i0 _ 8 Tryd.underlying22 HI0.out HI1.out HI2.out HI3.out rfl (by decide) (fun _ => rfl) (.slice (some ⟨g, 0, none⟩) 0 0) [] (by simp [Act.eval, gO]) eO (.slice sa L.length sc) L (by simp [Act.eval, gx]) (encI_one' L) (HS.out.below (HBY.out.trans (hbw.mono HBY.out.size))) (by unfold maxLen; simp; have := HL30.out; omega) (by simp; have := HL30.out; omega) hbw.size ?_
                      intro v' w'' hown hbb hgr
                      exact hK v' w'' (hB.trans hbb) (keptE_of hgr hg0) hown
                    · intro a' w' hB hdep hoth K hK
                      have hK := growB hB hK
                      rw [if_pos (guard_none rfl)]
                      have hbw : Below Y.heap.size Y w' := (below_drewN (Below.refl _ _) 1).trans hB
                      have hb1 := bs_int1 1
                      clear hdep hoth
                      go_simp
                      exact hK _ _ ((Below.refl _ _).alloc (Nat.le_refl _) _) ⟨_, rfl, hbw.size, heap_new _ _⟩
                    · intro a' w' hB hdep hoth K hK
                      have hbw : Below Y.heap.size Y w' := (below_drewN (Below.refl _ _) 1).trans hB
                      obtain ⟨vO, gO, eO⟩ := hdep ⟨5, .data⟩ (by simp) rfl
                      have gO := gO 123 rfl (by simp)
                      obtain ⟨vx, gx, ex⟩ := hdep ⟨6, .data⟩ (by simp) rfl
                      have gx := gx 124 rfl (by simp)
                      have ex : NewOne 3 (encI 1) Y.heap.size vx w' := ex
                      have eO : OwnI w' Y.heap.size vO ([] ++ L) := eO
                      refine step_append_row rfl _ _ 22 rfl Y.heap.size 3 i0 _ 8 Tryd.underlying22 HI0.out HI1.out HI2.out HI3.out rfl (by decide) (fun _ => rfl) vO ([] ++ L) (by simp [Act.eval, gO]) eO vx [1] (by simp [Act.eval, gx]) (encI_one' _) (newOne_row (fun _ => rfl) ex) (by unfold maxLen; simp; have := HL30.out; omega) (by simp; have := HL30.out; omega) hbw.size ?_
                      intro v' w'' hown hbb hgr
                      exact hK v' w'' (hB.trans hbb) (KeptT.grown hgr (fun r e => Owns.typed eO r e) (by decide)) hown
                    · intro a' w' hB hdep hoth K hK
                      have hK := growB hB hK
                      rw [if_pos (guard_none rfl)]
                      have hbw : Below Y.heap.size Y w' := (below_drewN (Below.refl _ _) 1).trans hB
                      obtain ⟨v0, q0, e0⟩ := hdep ⟨1, .data⟩ (by simp) rfl
                      have q0 := q0 119 rfl (by simp)
                      obtain rfl : v0 = .int .u8 k := e0
                      obtain ⟨v1, q1, e1⟩ := hdep ⟨7, .data⟩ (by simp) rfl
                      have q1 := q1 125 rfl (by simp)
                      have e1 : OwnI w' Y.heap.size v1 (L ++ [1]) := e1
                      obtain ⟨va, vn, vc, rfl⟩ := e1.shape
                      have E1 := hid e1
                      clear hdep hoth e1
                      go_simp
                      exact hK _ _ (Below.refl _ _) ⟨va, vn, vc, rfl, E1.out⟩
                    · intro a' w' hB hdep hoth K hK
                      have hK := growB hB hK
                      rw [if_pos (guard_none rfl)]
                      have hbw : Below Y.heap.size Y w' := (below_drewN (Below.refl _ _) 1).trans hB
                      clear hdep hoth
                      go_simp
                      exact hK _ _ ((Below.refl _ _).alloc (Nat.le_refl _) _) ⟨w'.heap.size, rfl, hbw.size, heap_new w' _⟩
                  case fin16 =>
                    intro vs w' hB hs
                    have hbw : Below Y.heap.size Y w' := (below_drewN (Below.refl _ _) 1).trans hB
                    obtain ⟨va, vn, vc, e6, ho⟩ := hs 8 (by decide) (by decide)
                    obtain ⟨T12, e7, hT, hz⟩ := hs 9 (by decide) (by decide)
                    clear hs
                    refine cutQ_held (fun _ => True) (fun f => ?_)
                    simp only [actOf, dstAt, if_true, List.getElem?_toArray, List.getElem?_cons_succ, List.getElem?_cons_zero, Option.bind_some, Act.put, List.setIfInBounds_toArray, List.set_cons_zero, List.set_cons_succ, List.length_cons, List.length_nil, Nat.reduceAdd]
                    rw [e6, e7]
                    have z0 := blk_cell hz 0
                    have z1 := blk_cell hz 1
                    have zf0 := blk_free hz 0
                    have zf1 := blk_free hz 1
                    have zl := blk_lt hz
                    have hmade := RecOwn.made (k := k) hz ho hbw hT
                    have HMADE := hid hmade
                    simp only [List.getElem?_toArray, List.getElem?_cons_zero, List.getElem?_cons_succ] at z0 z1
                    clear hmade ho hz hT
                    refine wpAnyH_ready (rs := [10]) (by kernel_rfl) (by simp) ?_
                    refine AllReadyH.cons rfl (fun K hK => ?_) AllReadyH.nil
                    go_simp
                    refine hK.out _ _ trivial (fun _ => ?_)
                    clear hK K
                    refine wpAnyH_done (by kernel_rfl) ?_ _
                    obtain ⟨X16, hX⟩ : ∃ X, X = (w'.setCell ⟨T12, 0, none⟩ (.int .u8 k)).setCell ⟨T12, 1, none⟩ (.slice va vn vc) := ⟨_, rfl⟩
                    rw [← hX] at HMADE ⊢
                    clear hX z0 z1 zf0 zf1 zl e6 e7 hB hbw
                    have HV7 := hid (HVY.out.below HMADE.out.bel)
                    have HR7 := hid (blk_below HRY.out HMADE.out.bel (blk_lt HRY.out))
                    have HB7 := hid (HBY.out.trans (HMADE.out.bel.mono HBY.out.size))
                    have HMORE := hid (show applyB B k (L ++ [1]) = B from not_len HK2.out HDN.out (by simp))
                    have DL := hid (show decide ((0 : Int) < (L.length : Int)) = false from decide_eq_false (by have := HL0.out; omega))
                    go_wp2_with fail
                    refine wp_region_held_drew (S := fun _ => True) (by kernel_rfl) trivial (fun _ => ?_)
                    refine wpAnyH_grownG (w0 := X16.drew) (spL [fun z _ => z = .pointer (some ⟨w.heap.size + 1, 1, none⟩), fun z _ => z = .slice sa L.length sc, fun z _ => z = .int .i64 (L.length : Int), fun z _ => z = .bool false, fun z _ => z = .bool false, fun z _ => z = undef, fun z _ => z = undef, fun z _ => z = undef, fun z _ => z = undef, fun z _ => z = undef, fun z _ => z = undef, fun z _ => z = undef, fun z _ => z = undef, fun z _ => z = undef, fun z _ => z = undef, fun z _ => z = undef, fun z _ => z = .bool false]) (spL_stays ⟨stays_eq _, stays_eq _, stays_eq _, stays_eq _, stays_eq _, stays_eq _, stays_eq _, stays_eq _, stays_eq _, stays_eq _, stays_eq _, stays_eq _, stays_eq _, stays_eq _, stays_eq _, stays_eq _, stays_eq _, trivial⟩) (by kernel_rfl) (by kernel_rfl) ?steps17 ?fin17 rfl
                    case steps17 =>
                      refine ⟨?_, ?_, ?_, ?_, ?_, ?_, ?_, ?_, ?_, ?_, ?_, ?_, ?_, ?_, ?_, ?_, ?_, trivial⟩
                      · intro a' w' hB hdep hoth K hK
                        rw [if_pos (guard_none rfl)]
                        have hbw : Below X16.heap.size X16 w' := (below_drewN (Below.refl _ _) 1).trans hB
                        have t5 := hoth 5 (notDst_at (by kernel_rfl))
                        simp only [List.getElem?_toArray, List.getElem?_cons_succ, List.getElem?_cons_zero] at t5
                        clear hdep hoth
                        go_simp
                        exact hK _ _ (Below.refl _ _) rfl
                      · intro a' w' hB hdep hoth K hK
                        rw [if_pos (guard_none rfl)]
                        have hbw : Below X16.heap.size X16 w' := (below_drewN (Below.refl _ _) 1).trans hB
                        obtain ⟨vx0, gx0, ex0⟩ := hdep ⟨0, .data⟩ (by simp) rfl
                        have gx0 := gx0 127 rfl (by simp)
                        obtain rfl : vx0 = .pointer (some ⟨w.heap.size + 1, 1, none⟩) := ex0
                        have hr5 := blk_below HR7.out hbw (blk_lt HR7.out)
                        have x0 : w'.cell? ⟨w.heap.size + 1, 0, none⟩ = some (.int .u8 k) := blk_cell hr5 0
                        have x1 : w'.cell? ⟨w.heap.size + 1, 1, none⟩ = some (.slice sa L.length sc) := blk_cell hr5 1
                        have lx := blk_lt hr5
                        clear hr5
                        clear hdep hoth
                        go_simp
                        exact hK _ _ (Below.refl _ _) rfl
                      · intro a' w' hB hdep hoth K hK
                        rw [if_pos (guard_none rfl)]
                        have hbw : Below X16.heap.size X16 w' := (below_drewN (Below.refl _ _) 1).trans hB
                        obtain ⟨vx0, gx0, ex0⟩ := hdep ⟨1, .data⟩ (by simp) rfl
                        have gx0 := gx0 128 rfl (by simp)
                        obtain rfl : vx0 = .slice sa L.length sc := ex0
                        clear hdep hoth
                        go_simp
                        exact hK _ _ (Below.refl _ _) rfl
                      · intro a' w' hB hdep hoth K hK
                        rw [if_pos (guard_none rfl)]
                        have hbw : Below X16.heap.size X16 w' := (below_drewN (Below.refl _ _) 1).trans hB
                        obtain ⟨vx0, gx0, ex0⟩ := hdep ⟨2, .data⟩ (by simp) rfl
                        have gx0 := gx0 129 rfl (by simp)
                        obtain rfl : vx0 = .int .i64 (L.length : Int) := ex0
                        have dl := HL0.out
                        clear hdep hoth
                        go_simp
                        exact hK _ _ (Below.refl _ _) rfl
                      · intro a' w' hB hdep hoth K hK
                        rw [if_pos (guard_none rfl)]
                        have hbw : Below X16.heap.size X16 w' := (below_drewN (Below.refl _ _) 1).trans hB
                        obtain ⟨vx0, gx0, ex0⟩ := hdep ⟨3, .data⟩ (by simp) rfl
                        have gx0 := gx0 130 rfl (by simp)
                        obtain rfl : vx0 = .bool false := ex0
                        clear hdep hoth
                        go_simp
                        exact hK _ _ (Below.refl _ _) rfl
                      · intro a' w' hB hdep hoth K hK
                        obtain ⟨vg, gg, eg⟩ := hdep ⟨4, .guard⟩ (by simp) rfl
                        have gg := gg 131 rfl (by simp)
                        obtain rfl : vg = .bool false := eg
                        rw [guard_is rfl rfl gg]
                        rw [if_neg (by decide)]
                        exact hK _ _ (Below.refl _ _) rfl
                      · intro a' w' hB hdep hoth K hK
                        obtain ⟨vg, gg, eg⟩ := hdep ⟨4, .guard⟩ (by simp) rfl
                        have gg := gg 131 rfl (by simp)
                        obtain rfl : vg = .bool false := eg
                        rw [guard_is rfl rfl gg]
                        rw [if_neg (by decide)]
                        exact hK _ _ (Below.refl _ _) rfl
                      · intro a' w' hB hdep hoth K hK
                        obtain ⟨vg, gg, eg⟩ := hdep ⟨4, .guard⟩ (by simp) rfl
                        have gg := gg 131 rfl (by simp)
                        obtain rfl : vg = .bool false := eg
                        rw [guard_is rfl rfl gg]
                        rw [if_neg (by decide)]
                        exact hK _ _ (Below.refl _ _) rfl
                      · intro a' w' hB hdep hoth K hK
                        obtain ⟨vg, gg, eg⟩ := hdep ⟨4, .guard⟩ (by simp) rfl
                        have gg := gg 131 rfl (by simp)
                        obtain rfl : vg = .bool false := eg
                        rw [guard_is rfl rfl gg]
                        rw [if_neg (by decide)]
                        exact hK _ _ (Below.refl _ _) rfl
                      · intro a' w' hB hdep hoth K hK
                        obtain ⟨vg, gg, eg⟩ := hdep ⟨4, .guard⟩ (by simp) rfl
                        have gg := gg 131 rfl (by simp)
                        obtain rfl : vg = .bool false := eg
                        rw [guard_is rfl rfl gg]
                        rw [if_neg (by decide)]
                        exact hK _ _ (Below.refl _ _) rfl
                      · intro a' w' hB hdep hoth K hK
                        obtain ⟨vg, gg, eg⟩ := hdep ⟨4, .guard⟩ (by simp) rfl
                        have gg := gg 131 rfl (by simp)
                        obtain rfl : vg = .bool false := eg
                        rw [guard_is rfl rfl gg]
                        rw [if_neg (by decide)]
                        exact hK _ _ (Below.refl _ _) rfl
                      · intro a' w' hB hdep hoth K hK
                        obtain ⟨vg, gg, eg⟩ := hdep ⟨4, .guard⟩ (by simp) rfl
                        have gg := gg 131 rfl (by simp)
                        obtain rfl : vg = .bool false := eg
                        rw [guard_is rfl rfl gg]
                        rw [if_neg (by decide)]
                        exact hK _ _ (Below.refl _ _) rfl
                      · intro a' w' hB hdep hoth K hK
                        obtain ⟨vg, gg, eg⟩ := hdep ⟨4, .guard⟩ (by simp) rfl
                        have gg := gg 131 rfl (by simp)
                        obtain rfl : vg = .bool false := eg
                        rw [guard_is rfl rfl gg]
                        rw [if_neg (by decide)]
                        exact hK _ _ (Below.refl _ _) rfl
                      · intro a' w' hB hdep hoth K hK
                        obtain ⟨vg, gg, eg⟩ := hdep ⟨4, .guard⟩ (by simp) rfl
                        have gg := gg 131 rfl (by simp)
                        obtain rfl : vg = .bool false := eg
                        rw [guard_is rfl rfl gg]
                        rw [if_neg (by decide)]
                        exact hK _ _ (Below.refl _ _) rfl
                      · intro a' w' hB hdep hoth K hK
                        obtain ⟨vg, gg, eg⟩ := hdep ⟨4, .guard⟩ (by simp) rfl
                        have gg := gg 131 rfl (by simp)
                        obtain rfl : vg = .bool false := eg
                        rw [guard_is rfl rfl gg]
                        rw [if_neg (by decide)]
                        exact hK _ _ (Below.refl _ _) rfl
                      · intro a' w' hB hdep hoth K hK
                        obtain ⟨vg, gg, eg⟩ := hdep ⟨4, .guard⟩ (by simp) rfl
                        have gg := gg 131 rfl (by simp)
                        obtain rfl : vg = .bool false := eg
                        rw [guard_is rfl rfl gg]
                        rw [if_neg (by decide)]
                        exact hK _ _ (Below.refl _ _) rfl
                      · intro a' w' hB hdep hoth K hK
                        rw [if_pos (guard_none rfl)]
                        have hbw : Below X16.heap.size X16 w' := (below_drewN (Below.refl _ _) 1).trans hB
                        obtain ⟨vx0, gx0, ex0⟩ := hdep ⟨4, .data⟩ (by simp) rfl
                        have gx0 := gx0 131 rfl (by simp)
                        obtain rfl : vx0 = .bool false := ex0
                        clear hdep hoth
                        go_simp
                        exact hK _ _ (Below.refl _ _) rfl
                    case fin17 =>
                      intro vs V hB hs
                      have hbw : Below X16.heap.size X16 V := (below_drewN (Below.refl _ _) 1).trans hB
                      have ev : vs 16 = .bool false := hs 16 (by decide)
                      clear hs
                      simp only [actOf, dstAt, if_true, List.getElem?_toArray, List.getElem?_cons_succ, List.getElem?_cons_zero, Option.bind_some, Act.put, List.setIfInBounds_toArray, List.set_cons_zero, List.set_cons_succ, List.length_cons, List.length_nil, Nat.reduceAdd]
                      rw [ev]
                      clear ev hB
                      have HV8 := hid (HV7.out.below hbw)
                      have HB8 := hid (HB7.out.trans (hbw.mono HB7.out.size))
                      have HM8 := hid (HMADE.out.below hbw)
                      clear hbw
                      go_wp2_with fail
                      refine wp_region_held_drew (S := fun _ => True) (by kernel_rfl) trivial (fun _ => ?_)
                      refine wpAnyH_grownG (w0 := V.drew) (spL [fun z _ => z = (.agg bv), fun z _ => z = .agg #[.int .u8 k, .slice va vn vc], fun z w => BrEnd V (applyB B k (L ++ [1])) z w, fun z _ => z = (.agg bv), fun z _ => z = .bool true, fun z _ => z = .bool true, fun z _ => z = .bool true, fun z _ => z = .bool true, fun z _ => z = .bool true]) (spL_stays ⟨stays_eq _, stays_eq _, stays_brEnd _ _, stays_eq _, stays_eq _, stays_eq _, stays_eq _, stays_eq _, stays_eq _, trivial⟩) (by kernel_rfl) (by kernel_rfl) ?steps19 ?fin19 rfl
                      case steps19 =>
                        refine ⟨?_, ?_, ?_, ?_, ?_, ?_, ?_, ?_, ?_, trivial⟩
                        · intro a' w' hB hdep hoth K hK
                          rw [if_pos (guard_none rfl)]
                          have hbw : Below V.heap.size V w' := (below_drewN (Below.refl _ _) 1).trans hB
                          have t4 := hoth 4 (notDst_at (by kernel_rfl))
                          simp only [List.getElem?_toArray, List.getElem?_cons_succ, List.getElem?_cons_zero] at t4
                          have hld := (HV8.out.below hbw).load
                          clear hdep hoth
                          go_simp
                          exact hK _ _ (Below.refl _ _) rfl
                        · intro a' w' hB hdep hoth K hK
                          rw [if_pos (guard_none rfl)]
                          have hbw : Below V.heap.size V w' := (below_drewN (Below.refl _ _) 1).trans hB
                          have t12 := hoth 12 (notDst_at (by kernel_rfl))
                          simp only [List.getElem?_toArray, List.getElem?_cons_succ, List.getElem?_cons_zero] at t12
                          have hrt := (HM8.out.below hbw).box
                          have q0 : w'.cell? ⟨T12, 0, none⟩ = some (.int .u8 k) := blk_cell hrt 0
                          have q1 : w'.cell? ⟨T12, 1, none⟩ = some (.slice va vn vc) := blk_cell hrt 1
                          have lq := blk_lt hrt
                          clear hrt
                          clear hdep hoth
                          go_simp
                          exact hK _ _ (Below.refl _ _) rfl
                        · intro a' w' hB hdep hoth K hK
                          rw [if_pos (guard_none rfl)]
                          have hbw : Below V.heap.size V w' := (below_drewN (Below.refl _ _) 1).trans hB
                          obtain ⟨v0, g0, e0⟩ := hdep ⟨0, .data⟩ (by simp) rfl
                          have g0 := g0 144 rfl (by simp)
                          obtain rfl : v0 = (.agg bv) := e0
                          obtain ⟨v1, g1, e1⟩ := hdep ⟨1, .data⟩ (by simp) rfl
                          have g1 := g1 145 rfl (by simp)
                          obtain rfl : v1 = .agg #[.int .u8 k, .slice va vn vc] := e1
                          have HA := hid (apply_is (k) (L ++ [1]) 40 (HV8.out.below hbw).is ((HM8.out.below hbw).is) HFI.out (by omega) (by have := HGB.out.2.2; omega) (by have := HL30.out; simp; omega) (HC.out.below (HB8.out.trans (hbw.mono HB8.out.size))) (HL.out.below (HB8.out.trans (hbw.mono HB8.out.size))))
                          clear hdep hoth
                          go_simp
                          refine HA.out.mono ?_
                          rintro e w'' ⟨v, rfl, he, hb⟩
                          exact hK v _ hb (he.base hbw.size)
                        · intro a' w' hB hdep hoth K hK
                          rw [if_pos (guard_none rfl)]
                          have hbw : Below V.heap.size V w' := (below_drewN (Below.refl _ _) 1).trans hB
                          have t4 := hoth 4 (notDst_at (by kernel_rfl))
                          simp only [List.getElem?_toArray, List.getElem?_cons_succ, List.getElem?_cons_zero] at t4
                          have hld := (HV8.out.below hbw).load
                          clear hdep hoth
                          go_simp
                          exact hK _ _ (Below.refl _ _) rfl
                        · intro a' w' hB hdep hoth K hK
                          rw [if_pos (guard_none rfl)]
                          have hbw : Below V.heap.size V w' := (below_drewN (Below.refl _ _) 1).trans hB
                          obtain ⟨v0, q0, e0⟩ := hdep ⟨2, .data⟩ (by simp) rfl
                          have q0 := q0 146 rfl (by simp)
                          have e0 : BrEnd V (applyB B k (L ++ [1])) v0 w' := e0
                          obtain ⟨v1, q1, e1⟩ := hdep ⟨3, .data⟩ (by simp) rfl
                          have q1 := q1 147 rfl (by simp)
                          obtain rfl : v1 = (.agg bv) := e1
                          have HA := hid (rsame_is true (sameB_of HMORE.out) e0.is (HV8.out.below hbw).is)
                          clear hdep hoth e0
                          go_simp
                          refine HA.out.mono ?_
                          rintro e w'' ⟨rfl, hb⟩
                          exact hK _ _ hb rfl
                        · intro a' w' hB hdep hoth K hK
                          rw [if_pos (guard_none rfl)]
                          have hbw : Below V.heap.size V w' := (below_drewN (Below.refl _ _) 1).trans hB
                          obtain ⟨vx0, gx0, ex0⟩ := hdep ⟨4, .data⟩ (by simp) rfl
                          have gx0 := gx0 148 rfl (by simp)
                          obtain rfl : vx0 = .bool true := ex0
                          clear hdep hoth
                          go_simp
                          exact hK _ _ (Below.refl _ _) rfl
                        · intro a' w' hB hdep hoth K hK
                          obtain ⟨vg, gg, eg⟩ := hdep ⟨5, .guard⟩ (by simp) rfl
                          have gg := gg 149 rfl (by simp)
                          obtain rfl : vg = .bool true := eg
                          rw [guard_is rfl rfl gg]
                          rw [if_pos (by decide)]
                          have hbw : Below V.heap.size V w' := (below_drewN (Below.refl _ _) 1).trans hB
                          have HA := hid (wakes_any w' (HC.out.below (HB8.out.trans (hbw.mono HB8.out.size))) (HL.out.below (HB8.out.trans (hbw.mono HB8.out.size))))
                          clear hdep hoth
                          go_simp
                          refine HA.out.mono ?_
                          rintro e w'' ⟨rfl, hb⟩
                          exact hK _ _ hb rfl
                        · intro a' w' hB hdep hoth K hK
                          rw [if_pos (guard_none rfl)]
                          have hbw : Below V.heap.size V w' := (below_drewN (Below.refl _ _) 1).trans hB
                          obtain ⟨vx0, gx0, ex0⟩ := hdep ⟨5, .data⟩ (by simp) rfl
                          have gx0 := gx0 149 rfl (by simp)
                          obtain rfl : vx0 = .bool true := ex0
                          obtain ⟨vx1, gx1, ex1⟩ := hdep ⟨6, .data⟩ (by simp) rfl
                          have gx1 := gx1 150 rfl (by simp)
                          obtain rfl : vx1 = .bool true := ex1
                          clear hdep hoth
                          go_simp
                          exact hK _ _ (Below.refl _ _) rfl
                        · intro a' w' hB hdep hoth K hK
                          rw [if_pos (guard_none rfl)]
                          have hbw : Below V.heap.size V w' := (below_drewN (Below.refl _ _) 1).trans hB
                          obtain ⟨vx0, gx0, ex0⟩ := hdep ⟨7, .data⟩ (by simp) rfl
                          have gx0 := gx0 151 rfl (by simp)
                          obtain rfl : vx0 = .bool true := ex0
                          clear hdep hoth
                          go_simp
                          exact hK _ _ (Below.refl _ _) rfl
                      case fin19 =>
                        intro vs V9 hB hs
                        have hbw : Below V.heap.size V V9 := (below_drewN (Below.refl _ _) 1).trans hB
                        have ev : vs 8 = .bool true := hs 8 (by decide)
                        clear hs
                        simp only [actOf, dstAt, if_true, List.getElem?_toArray, List.getElem?_cons_succ, List.getElem?_cons_zero, Option.bind_some, Act.put, List.setIfInBounds_toArray, List.set_cons_zero, List.set_cons_succ, List.length_cons, List.length_nil, Nat.reduceAdd]
                        rw [ev]
                        clear ev hB
                        have HB9 := hid (HB8.out.trans (hbw.mono HB8.out.size))
                        clear hbw
                        go_wp2
                        go_ret
                        exact ⟨rfl, HB9.out⟩
            · have HSB := hid (show sameB (applyB B k L) B = true from sameB_of (by
                cases h : deedN k with
                | none => exact not_kind HK2.out h L
                | some m => exact not_len HK2.out h (fun e => hdn (by rw [h, e]))))
              clear hdn
              go_upto_region 14 with (fail)
              refine wp_region_held_drew (S := fun _ => True) (by kernel_rfl) trivial (fun _ => ?_)
              refine wpAnyH_grownG (w0 := Z.drew) (spL [fun z _ => z = .pointer (some ⟨w.heap.size + 1, 0, none⟩), fun z _ => z = .int .u8 k, fun z _ => z = .bool false, fun z _ => z = .bool false, fun z _ => z = (.agg bv), fun z _ => z = .agg #[.int .u8 k, .slice sa L.length sc], fun z w => BrEnd Z (applyB B k (L)) z w, fun z _ => z = (.agg bv), fun z _ => z = .bool true, fun z _ => z = .bool true]) (spL_stays ⟨stays_eq _, stays_eq _, stays_eq _, stays_eq _, stays_eq _, stays_eq _, stays_brEnd _ _, stays_eq _, stays_eq _, stays_eq _, trivial⟩) (by kernel_rfl) (by kernel_rfl) ?steps14 ?fin14 rfl
              case steps14 =>
                refine ⟨?_, ?_, ?_, ?_, ?_, ?_, ?_, ?_, ?_, ?_, trivial⟩
                · intro a' w' hB hdep hoth K hK
                  rw [if_pos (guard_none rfl)]
                  have hbw : Below Z.heap.size Z w' := (below_drewN (Below.refl _ _) 1).trans hB
                  have t5 := hoth 5 (notDst_at (by kernel_rfl))
                  simp only [List.getElem?_toArray, List.getElem?_cons_succ, List.getElem?_cons_zero] at t5
                  clear hdep hoth
                  go_simp
                  exact hK _ _ (Below.refl _ _) rfl
                · intro a' w' hB hdep hoth K hK
                  rw [if_pos (guard_none rfl)]
                  have hbw : Below Z.heap.size Z w' := (below_drewN (Below.refl _ _) 1).trans hB
                  obtain ⟨vx0, gx0, ex0⟩ := hdep ⟨0, .data⟩ (by simp) rfl
                  have gx0 := gx0 107 rfl (by simp)
                  obtain rfl : vx0 = .pointer (some ⟨w.heap.size + 1, 0, none⟩) := ex0
                  have hr5 := blk_below HRZ.out hbw (blk_lt HRZ.out)
                  have x0 : w'.cell? ⟨w.heap.size + 1, 0, none⟩ = some (.int .u8 k) := blk_cell hr5 0
                  have x1 : w'.cell? ⟨w.heap.size + 1, 1, none⟩ = some (.slice sa L.length sc) := blk_cell hr5 1
                  have lx := blk_lt hr5
                  clear hr5
                  clear hdep hoth
                  go_simp
                  exact hK _ _ (Below.refl _ _) rfl
                · intro a' w' hB hdep hoth K hK
                  rw [if_pos (guard_none rfl)]
                  have hbw : Below Z.heap.size Z w' := (below_drewN (Below.refl _ _) 1).trans hB
                  obtain ⟨vx0, gx0, ex0⟩ := hdep ⟨1, .data⟩ (by simp) rfl
                  have gx0 := gx0 108 rfl (by simp)
                  obtain rfl : vx0 = .int .u8 k := ex0
                  clear hdep hoth
                  go_simp
                  exact hK _ _ (Below.refl _ _) rfl
                · intro a' w' hB hdep hoth K hK
                  rw [if_pos (guard_none rfl)]
                  have hbw : Below Z.heap.size Z w' := (below_drewN (Below.refl _ _) 1).trans hB
                  obtain ⟨vx0, gx0, ex0⟩ := hdep ⟨2, .data⟩ (by simp) rfl
                  have gx0 := gx0 109 rfl (by simp)
                  obtain rfl : vx0 = .bool false := ex0
                  clear hdep hoth
                  go_simp
                  exact hK _ _ (Below.refl _ _) rfl
                · intro a' w' hB hdep hoth K hK
                  obtain ⟨vg, gg, eg⟩ := hdep ⟨3, .guard⟩ (by simp) rfl
                  have gg := gg 110 rfl (by simp)
                  obtain rfl : vg = .bool false := eg
                  rw [guard_is rfl rfl gg]
                  rw [if_pos (by decide)]
                  have hbw : Below Z.heap.size Z w' := (below_drewN (Below.refl _ _) 1).trans hB
                  have t4 := hoth 4 (notDst_at (by kernel_rfl))
                  simp only [List.getElem?_toArray, List.getElem?_cons_succ, List.getElem?_cons_zero] at t4
                  have hld := (HVZ.out.below hbw).load
                  clear hdep hoth
                  go_simp
                  exact hK _ _ (Below.refl _ _) rfl
                · intro a' w' hB hdep hoth K hK
                  obtain ⟨vg, gg, eg⟩ := hdep ⟨3, .guard⟩ (by simp) rfl
                  have gg := gg 110 rfl (by simp)
                  obtain rfl : vg = .bool false := eg
                  rw [guard_is rfl rfl gg]
                  rw [if_pos (by decide)]
                  have hbw : Below Z.heap.size Z w' := (below_drewN (Below.refl _ _) 1).trans hB
                  have t5 := hoth 5 (notDst_at (by kernel_rfl))
                  simp only [List.getElem?_toArray, List.getElem?_cons_succ, List.getElem?_cons_zero] at t5
                  have hr5 := blk_below HRZ.out hbw (blk_lt HRZ.out)
                  have x0 : w'.cell? ⟨w.heap.size + 1, 0, none⟩ = some (.int .u8 k) := blk_cell hr5 0
                  have x1 : w'.cell? ⟨w.heap.size + 1, 1, none⟩ = some (.slice sa L.length sc) := blk_cell hr5 1
                  have lx := blk_lt hr5
                  clear hr5
                  clear hdep hoth
                  go_simp
                  exact hK _ _ (Below.refl _ _) rfl
                · intro a' w' hB hdep hoth K hK
                  obtain ⟨vg, gg, eg⟩ := hdep ⟨3, .guard⟩ (by simp) rfl
                  have gg := gg 110 rfl (by simp)
                  obtain rfl : vg = .bool false := eg
                  rw [guard_is rfl rfl gg]
                  rw [if_pos (by decide)]
                  have hbw : Below Z.heap.size Z w' := (below_drewN (Below.refl _ _) 1).trans hB
                  obtain ⟨v0, g0, e0⟩ := hdep ⟨4, .data⟩ (by simp) rfl
                  have g0 := g0 111 rfl (by simp)
                  obtain rfl : v0 = (.agg bv) := e0
                  obtain ⟨v1, g1, e1⟩ := hdep ⟨5, .data⟩ (by simp) rfl
                  have g1 := g1 112 rfl (by simp)
                  obtain rfl : v1 = .agg #[.int .u8 k, .slice sa L.length sc] := e1
                  have HA := hid (apply_is (k) (L) 40 (HVZ.out.below hbw).is (⟨_, rfl, HS.out.below (HBZ.out.trans (hbw.mono HBZ.out.size))⟩) HFI.out (by omega) (by have := HGB.out.2.2; omega) (by have := HL30.out; simp; omega) (HC.out.below (HBZ.out.trans (hbw.mono HBZ.out.size))) (HL.out.below (HBZ.out.trans (hbw.mono HBZ.out.size))))
                  clear hdep hoth
                  go_simp
                  refine HA.out.mono ?_
                  rintro e w'' ⟨v, rfl, he, hb⟩
                  exact hK v _ hb (he.base hbw.size)
                · intro a' w' hB hdep hoth K hK
                  obtain ⟨vg, gg, eg⟩ := hdep ⟨3, .guard⟩ (by simp) rfl
                  have gg := gg 110 rfl (by simp)
                  obtain rfl : vg = .bool false := eg
                  rw [guard_is rfl rfl gg]
                  rw [if_pos (by decide)]
                  have hbw : Below Z.heap.size Z w' := (below_drewN (Below.refl _ _) 1).trans hB
                  have t4 := hoth 4 (notDst_at (by kernel_rfl))
                  simp only [List.getElem?_toArray, List.getElem?_cons_succ, List.getElem?_cons_zero] at t4
                  have hld := (HVZ.out.below hbw).load
                  clear hdep hoth
                  go_simp
                  exact hK _ _ (Below.refl _ _) rfl
                · intro a' w' hB hdep hoth K hK
                  obtain ⟨vg, gg, eg⟩ := hdep ⟨3, .guard⟩ (by simp) rfl
                  have gg := gg 110 rfl (by simp)
                  obtain rfl : vg = .bool false := eg
                  rw [guard_is rfl rfl gg]
                  rw [if_pos (by decide)]
                  have hbw : Below Z.heap.size Z w' := (below_drewN (Below.refl _ _) 1).trans hB
                  obtain ⟨v0, q0, e0⟩ := hdep ⟨6, .data⟩ (by simp) rfl
                  have q0 := q0 113 rfl (by simp)
                  have e0 : BrEnd Z (applyB B k L) v0 w' := e0
                  obtain ⟨v1, q1, e1⟩ := hdep ⟨7, .data⟩ (by simp) rfl
                  have q1 := q1 114 rfl (by simp)
                  obtain rfl : v1 = (.agg bv) := e1
                  have HA := hid (rsame_is true (HSB.out) e0.is (HVZ.out.below hbw).is)
                  clear hdep hoth e0
                  go_simp
                  refine HA.out.mono ?_
                  rintro e w'' ⟨rfl, hb⟩
                  exact hK _ _ hb rfl
                · intro a' w' hB hdep hoth K hK
                  rw [if_pos (guard_none rfl)]
                  have hbw : Below Z.heap.size Z w' := (below_drewN (Below.refl _ _) 1).trans hB
                  obtain ⟨vx0, gx0, ex0⟩ := hdep ⟨3, .data⟩ (by simp) rfl
                  have gx0 := gx0 110 rfl (by simp)
                  obtain rfl : vx0 = .bool false := ex0
                  obtain ⟨vx1, gx1, ex1⟩ := hdep ⟨8, .data⟩ (by simp) rfl
                  have gx1 := gx1 115 rfl (by simp)
                  obtain rfl : vx1 = .bool true := ex1
                  clear hdep hoth
                  go_simp
                  exact hK _ _ (Below.refl _ _) rfl
              case fin14 =>
                intro vs Y hB hs
                have hbw : Below Z.heap.size Z Y := (below_drewN (Below.refl _ _) 1).trans hB
                have ev : vs 9 = .bool true := hs 9 (by decide)
                clear hs
                simp only [actOf, dstAt, if_true, List.getElem?_toArray, List.getElem?_cons_succ, List.getElem?_cons_zero, Option.bind_some, Act.put, List.setIfInBounds_toArray, List.set_cons_zero, List.set_cons_succ, List.length_cons, List.length_nil, Nat.reduceAdd]
                rw [ev]
                clear ev hB
                have HVY := hid (HVZ.out.below hbw)
                have HRY := hid (blk_below HRZ.out hbw (blk_lt HRZ.out))
                have HBY := hid (HBZ.out.trans (hbw.mono HBZ.out.size))
                clear hbw
                go_wp2_with fail
                refine (wakes_any Y (HC.out.below HBY.out) (HL.out.below HBY.out)).mono ?_
                rintro e Ww ⟨rfl, hb⟩
                have HBw := hid (HBY.out.trans (hb.mono HBY.out.size))
                clear hb
                go_wp2
                go_ret
                exact ⟨rfl, HBw.out⟩
end Go.Proofs.YthnigndpibgibaaDoor
