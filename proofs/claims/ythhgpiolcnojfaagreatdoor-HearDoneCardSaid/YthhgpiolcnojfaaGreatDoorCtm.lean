import Derived.Test.YthhgpiolcnojfaaGreatDoorHpl
import Derived.Test.YthhgpiolcnojfaaGreatDoorRng
import Derived.Test.YthhgpiolcnojfaaGreatDoorBsi
import Derived.Test.YthhgpiolcnojfaaGreatDoorGrr
import Derived.BigQuiet
import Derived.Deep.RegionHeld3
/- hear.counts: what an answer says, if it counts. Printed by gn_ct.py. -/
namespace Go.Proofs.YthhgpiolcnojfaaGreatDoor
open Go.RowKit Go.Shelf
attribute [-go_sem] loadVar storeVar Instr.buildSlice
attribute [local go_sem] load_other store_other

/-- What counts goes by, in boxes. -/
structure CtM (B : BrainV) (x : CallV) (c k d i now : Int) (sv : Value) (m : Bool) (bv : Array Value) (pb pc pt pn : Nat) (w : World) : Prop where
 brain : VarIs w pb B (.agg bv)
 call : w.heap[pc]? = some (.cells #[.int .i64 x.id, .int .u8 x.kind, .int .i64 x.key, .int .i64 x.sent] 40)
 tell : w.heap[pt]? = some (.cells #[.int .i64 c, .int .u8 k, .int .u8 d, .int .i64 i, sv, .bool m] 36)
 now : w.heap[pn]? = some (.cells #[.int .i64 now] 3)
 ask : Asked w
 ch : Changes w
 lm : Limits w
theorem CtM.below {B : BrainV} {x : CallV} {c k d i now : Int} {sv : Value} {m : Bool} {bv : Array Value} {pb pc pt pn : Nat} {w w' : World} (h : CtM B x c k d i now sv m bv pb pc pt pn w) (hb : Below w.heap.size w w') : CtM B x c k d i now sv m bv pb pc pt pn w' :=
 ⟨h.brain.below hb, blk_below h.call hb (blk_lt h.call), blk_below h.tell hb (blk_lt h.tell), blk_below h.now hb (blk_lt h.now), h.ask.below hb, h.ch.below hb, h.lm.below hb⟩
set_option maxHeartbeats 1000000 in
theorem counts_any (B : BrainV) (x : CallV) (c k d i now : Int) (sa : Option Addr) (sn sc : Nat) (m : Bool) (bv : Array Value) (w : World) (h : BrIs w B (.agg bv)) (hA : Asked w) (hC : Changes w) (hL : Limits w) :
  Calls Tryz.prog 38 #[.agg bv, encS x, tellT c k d i (.slice sa sn sc) m, .int .i64 now] w fun e w' => ∃ pb pc pt pn : Nat, e = .returned (.func (.func 68) #[] #[.pointer (some ⟨pc, 0, none⟩), .pointer (some ⟨pt, 0, none⟩), .pointer (some ⟨pn, 0, none⟩), .pointer (some ⟨pb, 0, none⟩)]) ∧
   CtM B x c k d i now (.slice sa sn sc) m bv pb pc pt pn w' ∧ Below w.heap.size w w' := by
 have hmf := mkfunc
 obtain ⟨W1, hW1⟩ : ∃ W1, W1 = (((w.alloc (.cells bv 30)).alloc (.cells #[.int .i64 x.id, .int .u8 x.kind, .int .i64 x.key, .int .i64 x.sent] 40)).alloc (.cells #[.int .i64 c, .int .u8 k, .int .u8 d, .int .i64 i, .slice sa sn sc, .bool m] 36)).alloc (.cells #[.int .i64 now] 3) := ⟨_, rfl⟩
 have hb1 : Below w.heap.size w W1 := by rw [hW1]; exact ((((Below.refl _ _).alloc (Nat.le_refl _) _).alloc (by simp) _).alloc (by simp; omega) _).alloc (by simp; omega) _
 have n0 : BB W1 w.heap.size bv := by rw [hW1]; exact blk_alloc (blk_alloc (blk_alloc (heap_new _ _) _) _) _
 have n1 : W1.heap[w.heap.size + 1]? = some (.cells #[.int .i64 x.id, .int .u8 x.kind, .int .i64 x.key, .int .i64 x.sent] 40) := by rw [hW1]; exact blk_alloc (blk_alloc (heap_new2 _ _ _) _) _
 have n2 : W1.heap[w.heap.size + 1 + 1]? = some (.cells #[.int .i64 c, .int .u8 k, .int .u8 d, .int .i64 i, .slice sa sn sc, .bool m] 36) := by rw [hW1]; exact blk_alloc (by simpa using heap_new2 (w.alloc _) _ _) _
 have n3 : W1.heap[w.heap.size + 1 + 1 + 1]? = some (.cells #[.int .i64 now] 3) := by rw [hW1]; simpa using heap_new2 ((w.alloc _).alloc _) _ _
 obtain ⟨mv, iv, kv, e, h1, h2, h3⟩ := h
 have HM := hid (show CtM B x c k d i now (.slice sa sn sc) m bv w.heap.size (w.heap.size + 1) (w.heap.size + 1 + 1) (w.heap.size + 1 + 1 + 1) W1 from by
  cases e
  exact ⟨⟨mv, iv, kv, rfl, n0, h1.below hb1, h2.below hb1, h3.below hb1⟩, n1, n2, n3, hA.below hb1, hC.below hb1, hL.below hb1⟩)
 have HB := hid hb1
 have HW := hid hW1
 clear e h1 h2 h3 n0 n1 n2 n3 hb1 hW1 hA hC hL
 unfold encS tellT
 go_enter Tryz.func38, Tryz.ntmps38
 go_wp2
 go_ret
 rw [← HW.out]
 exact ⟨_, _, _, _, rfl, HM.out, HB.out⟩
theorem says_len {k d key id now kk : Int} {L : List Int} (h : saysL k d key id now = some (kk, L)) : L.length ≤ 3 := by
 unfold saysL at h
 repeat' split at h
 all_goals first | (cases h; simp) | cases h
def itemQ (x : RecE) : Array Value := #[recV x.k x.s]
def GQ (b : Nat) (x : RecE) (W : World) : Prop := OwnI W b x.s x.L
/-- What counts goes over. -/
def SQ (l : List (Int × List Int)) (xs : List RecE) : Prop := xs.map (fun r => (r.k, r.L)) = l
set_option maxRecDepth 100000 in
set_option maxHeartbeats 4000000 in
theorem counts_all (n : Nat) (hn : 1 ≤ n) (B : BrainV) (x : CallV) (c k i now : Int) (dn : Nat) (sa : Option Addr) (sn sc : Nat) (m : Bool) (bv : Array Value) (pb pc pt pn : Nat) (w : World) (h8 : dn ≤ 255) (hM : CtM B x c k dn i now (.slice sa sn sc) m bv pb pc pt pn w)
  (hF : Fine B 900) (hlM : B.M.length ≤ 17592186043904) :
  SeqAll Fence.wide n Tryz.prog 68 #[.pointer (some ⟨pc, 0, none⟩), .pointer (some ⟨pt, 0, none⟩), .pointer (some ⟨pn, 0, none⟩), .pointer (some ⟨pb, 0, none⟩)] itemQ (fun _ _ => True) (GQ w.heap.size) (SQ (countsL B x dn i now)) 1 w := by
 intro l J W hW hJ hY h0
 have HM := hid (hM.below hW)
 have HY := hid hY
 have HJ := hid hJ
 have H0 := hid h0
 have HF := hid hF
 have c0 : W.cell? ⟨pc, 0, none⟩ = some (.int .i64 x.id) := blk_cell HM.out.call 0
 have c1 : W.cell? ⟨pc, 1, none⟩ = some (.int .u8 x.kind) := blk_cell HM.out.call 1
 have c2 : W.cell? ⟨pc, 2, none⟩ = some (.int .i64 x.key) := blk_cell HM.out.call 2
 have c3 : W.cell? ⟨pc, 3, none⟩ = some (.int .i64 x.sent) := blk_cell HM.out.call 3
 have t0 : W.cell? ⟨pt, 0, none⟩ = some (.int .i64 c) := blk_cell HM.out.tell 0
 have t1 : W.cell? ⟨pt, 1, none⟩ = some (.int .u8 k) := blk_cell HM.out.tell 1
 have t2 : W.cell? ⟨pt, 2, none⟩ = some (.int .u8 dn) := blk_cell HM.out.tell 2
 have t3 : W.cell? ⟨pt, 3, none⟩ = some (.int .i64 i) := blk_cell HM.out.tell 3
 have t4 : W.cell? ⟨pt, 4, none⟩ = some (.slice sa sn sc) := blk_cell HM.out.tell 4
 have t5 : W.cell? ⟨pt, 5, none⟩ = some (.bool m) := blk_cell HM.out.tell 5
 have u0 : W.cell? ⟨pn, 0, none⟩ = some (.int .i64 now) := blk_cell HM.out.now 0
 have lc := blk_lt HM.out.call
 have lt := blk_lt HM.out.tell
 have ln := blk_lt HM.out.now
 have hsy := says_any x c k i now dn sa sn sc m W h8
 have HSY := hid hsy
 have HSZ := hid hW.size
 clear hW hJ hY h0 hM hF hsy
 refine callsIn_of_wp Tryz.func68 rfl trivial ?_ rfl
 simp only [Tryz.ntmps68, List.size_toArray, List.length_cons, List.length_nil, Nat.reduceAdd, Nat.reduceSub, Array.replicate_succ, Array.replicate_zero, List.push_toArray, List.append_toArray, List.nil_append, List.cons_append]
 refine wpIn_wide.2 ?_
 go_wp2_with fail
 refine HSY.out.mono ?_
 clear c0 c1 c2 c3 t0 t1 t2 t3 t4 t5 u0 lc lt ln
 rintro e V (⟨hr, rfl, hb⟩ | ⟨kk, L, v, hr, rfl, ho, hb⟩)
 ·have HE := hid (show countsL B x dn i now = [] by unfold countsL; rw [hr])
  obtain ⟨V2, hV2⟩ : ∃ V2, V2 = V.alloc (.cells #[.int .u8 0, .slice none 0 0] 44) := ⟨_, rfl⟩
  have hb2 : Below W.heap.size W V2 := hb.trans (by rw [hV2]; exact ((Below.refl _ _).alloc (Nat.le_refl _) _).mono hb.size)
  have HM2 := hid (HM.out.below hb2)
  have H2 := hid (HJ.out _ _ _ none H0.out (grown_of_below hb2 none) (by simp))
  have HV2 := hid hV2
  clear hr hb hb2 hV2
  go_upto_region 1 with (fail)
  rw [← HV2.out]
  refine wp_region_held_drew (S := fun _ => True) (by kernel_rfl) trivial (fun _ => ?_)
  refine wpAnyH_grownG (w0 := V2.drew) (spL [fun z _ => z = .bool false, fun z _ => z = .bool false, fun z _ => z = undef, fun z _ => z = undef, fun z _ => z = undef, fun z _ => z = undef, fun z _ => z = undef, fun z _ => z = undef, fun z _ => z = undef, fun z _ => z = .bool false, fun z _ => z = .bool false, fun z _ => z = undef, fun z _ => z = undef, fun z _ => z = undef, fun z _ => z = undef, fun z _ => z = undef, fun z _ => z = undef, fun z _ => z = .bool false]) (spL_stays ⟨stays_eq _, stays_eq _, stays_eq _, stays_eq _, stays_eq _, stays_eq _, stays_eq _, stays_eq _, stays_eq _, stays_eq _, stays_eq _, stays_eq _, stays_eq _, stays_eq _, stays_eq _, stays_eq _, stays_eq _, stays_eq _, trivial⟩) (by kernel_rfl) (by kernel_rfl) ?steps1 ?fin1 rfl
  case steps1 =>
   refine ⟨?_, ?_, ?_, ?_, ?_, ?_, ?_, ?_, ?_, ?_, ?_, ?_, ?_, ?_, ?_, ?_, ?_, ?_, trivial⟩
   ·intro a' w' hB hdep hoth K hK
    rw [if_pos (guard_none rfl)]
    have hbw : Below V2.heap.size V2 w' := (below_drewN (Below.refl _ _) 1).trans hB
    have t7 := hoth 7 (notDst_at (by kernel_rfl))
    simp only [List.getElem?_toArray, List.getElem?_cons_succ, List.getElem?_cons_zero] at t7
    clear hdep hoth
    go_simp
    exact hK _ _ (Below.refl _ _) rfl
   ·intro a' w' hB hdep hoth K hK
    rw [if_pos (guard_none rfl)]
    have hbw : Below V2.heap.size V2 w' := (below_drewN (Below.refl _ _) 1).trans hB
    obtain ⟨vx0, gx0, ex0⟩ := hdep ⟨0, .data⟩ (by simp) rfl
    have gx0 := gx0 15 rfl (by simp)
    obtain rfl : vx0 = .bool false := ex0
    clear hdep hoth
    go_simp
    exact hK _ _ (Below.refl _ _) rfl
   ·intro a' w' hB hdep hoth K hK
    obtain ⟨vg, gg, eg⟩ := hdep ⟨1, .guard⟩ (by simp) rfl
    have gg := gg 16 rfl (by simp)
    obtain rfl : vg = .bool false := eg
    rw [guard_is rfl rfl gg]
    rw [if_neg (by decide)]
    exact hK _ _ (Below.refl _ _) rfl
   ·intro a' w' hB hdep hoth K hK
    obtain ⟨vg, gg, eg⟩ := hdep ⟨1, .guard⟩ (by simp) rfl
    have gg := gg 16 rfl (by simp)
    obtain rfl : vg = .bool false := eg
    rw [guard_is rfl rfl gg]
    rw [if_neg (by decide)]
    exact hK _ _ (Below.refl _ _) rfl
   ·intro a' w' hB hdep hoth K hK
    obtain ⟨vg, gg, eg⟩ := hdep ⟨1, .guard⟩ (by simp) rfl
    have gg := gg 16 rfl (by simp)
    obtain rfl : vg = .bool false := eg
    rw [guard_is rfl rfl gg]
    rw [if_neg (by decide)]
    exact hK _ _ (Below.refl _ _) rfl
   ·intro a' w' hB hdep hoth K hK
    obtain ⟨vg, gg, eg⟩ := hdep ⟨1, .guard⟩ (by simp) rfl
    have gg := gg 16 rfl (by simp)
    obtain rfl : vg = .bool false := eg
    rw [guard_is rfl rfl gg]
    rw [if_neg (by decide)]
    exact hK _ _ (Below.refl _ _) rfl
   ·intro a' w' hB hdep hoth K hK
    obtain ⟨vg, gg, eg⟩ := hdep ⟨1, .guard⟩ (by simp) rfl
    have gg := gg 16 rfl (by simp)
    obtain rfl : vg = .bool false := eg
    rw [guard_is rfl rfl gg]
    rw [if_neg (by decide)]
    exact hK _ _ (Below.refl _ _) rfl
   ·intro a' w' hB hdep hoth K hK
    obtain ⟨vg, gg, eg⟩ := hdep ⟨1, .guard⟩ (by simp) rfl
    have gg := gg 16 rfl (by simp)
    obtain rfl : vg = .bool false := eg
    rw [guard_is rfl rfl gg]
    rw [if_neg (by decide)]
    exact hK _ _ (Below.refl _ _) rfl
   ·intro a' w' hB hdep hoth K hK
    obtain ⟨vg, gg, eg⟩ := hdep ⟨1, .guard⟩ (by simp) rfl
    have gg := gg 16 rfl (by simp)
    obtain rfl : vg = .bool false := eg
    rw [guard_is rfl rfl gg]
    rw [if_neg (by decide)]
    exact hK _ _ (Below.refl _ _) rfl
   ·intro a' w' hB hdep hoth K hK
    rw [if_pos (guard_none rfl)]
    have hbw : Below V2.heap.size V2 w' := (below_drewN (Below.refl _ _) 1).trans hB
    obtain ⟨vx0, gx0, ex0⟩ := hdep ⟨1, .data⟩ (by simp) rfl
    have gx0 := gx0 16 rfl (by simp)
    obtain rfl : vx0 = .bool false := ex0
    clear hdep hoth
    go_simp
    exact hK _ _ (Below.refl _ _) rfl
   ·intro a' w' hB hdep hoth K hK
    rw [if_pos (guard_none rfl)]
    have hbw : Below V2.heap.size V2 w' := (below_drewN (Below.refl _ _) 1).trans hB
    obtain ⟨vx0, gx0, ex0⟩ := hdep ⟨9, .data⟩ (by simp) rfl
    have gx0 := gx0 24 rfl (by simp)
    obtain rfl : vx0 = .bool false := ex0
    clear hdep hoth
    go_simp
    exact hK _ _ (Below.refl _ _) rfl
   ·intro a' w' hB hdep hoth K hK
    obtain ⟨vg, gg, eg⟩ := hdep ⟨10, .guard⟩ (by simp) rfl
    have gg := gg 25 rfl (by simp)
    obtain rfl : vg = .bool false := eg
    rw [guard_is rfl rfl gg]
    rw [if_neg (by decide)]
    exact hK _ _ (Below.refl _ _) rfl
   ·intro a' w' hB hdep hoth K hK
    obtain ⟨vg, gg, eg⟩ := hdep ⟨10, .guard⟩ (by simp) rfl
    have gg := gg 25 rfl (by simp)
    obtain rfl : vg = .bool false := eg
    rw [guard_is rfl rfl gg]
    rw [if_neg (by decide)]
    exact hK _ _ (Below.refl _ _) rfl
   ·intro a' w' hB hdep hoth K hK
    obtain ⟨vg, gg, eg⟩ := hdep ⟨10, .guard⟩ (by simp) rfl
    have gg := gg 25 rfl (by simp)
    obtain rfl : vg = .bool false := eg
    rw [guard_is rfl rfl gg]
    rw [if_neg (by decide)]
    exact hK _ _ (Below.refl _ _) rfl
   ·intro a' w' hB hdep hoth K hK
    obtain ⟨vg, gg, eg⟩ := hdep ⟨10, .guard⟩ (by simp) rfl
    have gg := gg 25 rfl (by simp)
    obtain rfl : vg = .bool false := eg
    rw [guard_is rfl rfl gg]
    rw [if_neg (by decide)]
    exact hK _ _ (Below.refl _ _) rfl
   ·intro a' w' hB hdep hoth K hK
    obtain ⟨vg, gg, eg⟩ := hdep ⟨10, .guard⟩ (by simp) rfl
    have gg := gg 25 rfl (by simp)
    obtain rfl : vg = .bool false := eg
    rw [guard_is rfl rfl gg]
    rw [if_neg (by decide)]
    exact hK _ _ (Below.refl _ _) rfl
   ·intro a' w' hB hdep hoth K hK
    obtain ⟨vg, gg, eg⟩ := hdep ⟨10, .guard⟩ (by simp) rfl
    have gg := gg 25 rfl (by simp)
    obtain rfl : vg = .bool false := eg
    rw [guard_is rfl rfl gg]
    rw [if_neg (by decide)]
    exact hK _ _ (Below.refl _ _) rfl
   ·intro a' w' hB hdep hoth K hK
    rw [if_pos (guard_none rfl)]
    have hbw : Below V2.heap.size V2 w' := (below_drewN (Below.refl _ _) 1).trans hB
    obtain ⟨vx0, gx0, ex0⟩ := hdep ⟨10, .data⟩ (by simp) rfl
    have gx0 := gx0 25 rfl (by simp)
    obtain rfl : vx0 = .bool false := ex0
    clear hdep hoth
    go_simp
    exact hK _ _ (Below.refl _ _) rfl
  case fin1 =>
   intro vs X hB hs
   have hbw : Below V2.heap.size V2 X := (below_drewN (Below.refl _ _) 1).trans hB
   have ev : vs 17 = .bool false := hs 17 (by decide)
   clear hs
   simp only [actOf, dstAt, if_true, List.getElem?_toArray, List.getElem?_cons_succ, List.getElem?_cons_zero, Option.bind_some, Act.put, List.setIfInBounds_toArray, List.set_cons_zero, List.set_cons_succ, List.length_cons, List.length_nil, Nat.reduceAdd]
   rw [ev]
   clear ev hB
   have HX := hid (HJ.out _ _ _ none H2.out (grown_of_below hbw none) (by simp))
   clear hbw
   go_wp2
   exact bodyPost_end (results_none rfl _ _ _) rfl ⟨⟨_, rfl⟩, _, show SQ _ [] from HE.out.symm, HX.out⟩
 ·obtain ⟨va, vn, vc, rfl⟩ := ho.shape
  obtain ⟨V2, hV2⟩ : ∃ V2, V2 = V.alloc (.cells #[.int .u8 kk, .slice va vn vc] 44) := ⟨_, rfl⟩
  have hb2 : Below W.heap.size W V2 := hb.trans (by rw [hV2]; exact ((Below.refl _ _).alloc (Nat.le_refl _) _).mono hb.size)
  have HM2 := hid (HM.out.below hb2)
  have HBR := hid HM2.out.brain
  have H2 := hid (HJ.out _ _ _ none H0.out (grown_of_below hb2 none) (by simp))
  have HRB0 := hid (show V2.heap[V.heap.size]? = some (.cells #[.int .u8 kk, .slice va vn vc] 44) by rw [hV2]; exact heap_new _ _)
  have hrw : RowOf 1 encI V (.slice va vn vc) L := ho.row (fun _ => rfl) (by decide)
  have HRW := hid (show RowOf 1 encI V2 (.slice va vn vc) L from hrw.below (by rw [hV2]; exact (Below.refl _ _).alloc (Nat.le_refl _) _))
  have HOW := hid (show OwnI V2 w.heap.size (.slice va vn vc) L from Owns.mono (Owns.below ho (by rw [hV2]; exact (Below.refl _ _).alloc (Nat.le_refl _) _)) HSZ.out)
  have HLN := hid (says_len hr)
  have HV2 := hid hV2
  have HS := hid hr
  clear hr hb hb2 hV2 hrw ho
  obtain ⟨iq, hiq⟩ : ∃ q, decide ((⟨x.kind, x.key⟩ : DutyV) ∈ dutiesL B.I B.K) = q := ⟨_, rfl⟩
  obtain ⟨sb, hsb⟩ : ∃ q, sameB (applyB B kk L) B = q := ⟨_, rfl⟩
  have HIQ := hid hiq
  have HSB := hid hsb
  clear hiq hsb
  go_upto_region 1 with (fail)
  rw [← HV2.out]
  obtain ⟨T6, hT6⟩ : ∃ T, V.heap.size = T := ⟨_, rfl⟩
  have HRB := hid HRB0.out
  rw [hT6] at HRB ⊢
  clear hT6 HRB0 HV2
  cases iq with
  | false =>
   have HE := hid (show countsL B x dn i now = [] by unfold countsL; rw [HS.out]; exact if_neg (fun h => by have := HIQ.out; rw [decide_eq_true h.1] at this; cases this))
   refine wp_region_held_drew (S := fun _ => True) (by kernel_rfl) trivial (fun _ => ?_)
   refine wpAnyH_grownG (w0 := V2.drew) (spL [fun z _ => z = .bool true, fun z _ => z = .bool true, fun z _ => z = (.agg bv), fun z _ => z = .pointer (some ⟨pc, 1, none⟩), fun z _ => z = .int .u8 x.kind, fun z _ => z = .pointer (some ⟨pc, 2, none⟩), fun z _ => z = .int .i64 x.key, fun z _ => z = .agg #[.int .u8 x.kind, .int .i64 x.key], fun z _ => z = .bool false, fun z _ => z = .bool false, fun z _ => z = .bool false, fun z _ => z = undef, fun z _ => z = undef, fun z _ => z = undef, fun z _ => z = undef, fun z _ => z = undef, fun z _ => z = undef, fun z _ => z = .bool false]) (spL_stays ⟨stays_eq _, stays_eq _, stays_eq _, stays_eq _, stays_eq _, stays_eq _, stays_eq _, stays_eq _, stays_eq _, stays_eq _, stays_eq _, stays_eq _, stays_eq _, stays_eq _, stays_eq _, stays_eq _, stays_eq _, stays_eq _, trivial⟩) (by kernel_rfl) (by kernel_rfl) ?steps1 ?fin1 rfl
   case steps1 =>
    refine ⟨?_, ?_, ?_, ?_, ?_, ?_, ?_, ?_, ?_, ?_, ?_, ?_, ?_, ?_, ?_, ?_, ?_, ?_, trivial⟩
    ·intro a' w' hB hdep hoth K hK
     rw [if_pos (guard_none rfl)]
     have hbw : Below V2.heap.size V2 w' := (below_drewN (Below.refl _ _) 1).trans hB
     have t7 := hoth 7 (notDst_at (by kernel_rfl))
     simp only [List.getElem?_toArray, List.getElem?_cons_succ, List.getElem?_cons_zero] at t7
     clear hdep hoth
     go_simp
     exact hK _ _ (Below.refl _ _) rfl
    ·intro a' w' hB hdep hoth K hK
     rw [if_pos (guard_none rfl)]
     have hbw : Below V2.heap.size V2 w' := (below_drewN (Below.refl _ _) 1).trans hB
     obtain ⟨vx0, gx0, ex0⟩ := hdep ⟨0, .data⟩ (by simp) rfl
     have gx0 := gx0 15 rfl (by simp)
     obtain rfl : vx0 = .bool true := ex0
     clear hdep hoth
     go_simp
     exact hK _ _ (Below.refl _ _) rfl
    ·intro a' w' hB hdep hoth K hK
     obtain ⟨vg, gg, eg⟩ := hdep ⟨1, .guard⟩ (by simp) rfl
     have gg := gg 16 rfl (by simp)
     obtain rfl : vg = .bool true := eg
     rw [guard_is rfl rfl gg]
     rw [if_pos (by decide)]
     have hbw : Below V2.heap.size V2 w' := (below_drewN (Below.refl _ _) 1).trans hB
     have t4 := hoth 4 (notDst_at (by kernel_rfl))
     simp only [List.getElem?_toArray, List.getElem?_cons_succ, List.getElem?_cons_zero] at t4
     have hld := (HBR.out.below hbw).load
     clear hdep hoth
     go_simp
     exact hK _ _ (Below.refl _ _) rfl
    ·intro a' w' hB hdep hoth K hK
     obtain ⟨vg, gg, eg⟩ := hdep ⟨1, .guard⟩ (by simp) rfl
     have gg := gg 16 rfl (by simp)
     obtain rfl : vg = .bool true := eg
     rw [guard_is rfl rfl gg]
     rw [if_pos (by decide)]
     have hbw : Below V2.heap.size V2 w' := (below_drewN (Below.refl _ _) 1).trans hB
     have t1 := hoth 1 (notDst_at (by kernel_rfl))
     simp only [List.getElem?_toArray, List.getElem?_cons_succ, List.getElem?_cons_zero] at t1
     clear hdep hoth
     go_simp
     exact hK _ _ (Below.refl _ _) rfl
    ·intro a' w' hB hdep hoth K hK
     obtain ⟨vg, gg, eg⟩ := hdep ⟨1, .guard⟩ (by simp) rfl
     have gg := gg 16 rfl (by simp)
     obtain rfl : vg = .bool true := eg
     rw [guard_is rfl rfl gg]
     rw [if_pos (by decide)]
     have hbw : Below V2.heap.size V2 w' := (below_drewN (Below.refl _ _) 1).trans hB
     obtain ⟨vx0, gx0, ex0⟩ := hdep ⟨3, .data⟩ (by simp) rfl
     have gx0 := gx0 18 rfl (by simp)
     obtain rfl : vx0 = .pointer (some ⟨pc, 1, none⟩) := ex0
     have hcl := HM2.out.call
     have q1 : w'.cell? ⟨pc, 1, none⟩ = some (.int .u8 x.kind) := blk_cell (blk_below hcl hbw (blk_lt hcl)) 1
     have q2 : w'.cell? ⟨pc, 2, none⟩ = some (.int .i64 x.key) := blk_cell (blk_below hcl hbw (blk_lt hcl)) 2
     have lq := blk_lt (blk_below hcl hbw (blk_lt hcl))
     clear hcl
     clear hdep hoth
     go_simp
     exact hK _ _ (Below.refl _ _) rfl
    ·intro a' w' hB hdep hoth K hK
     obtain ⟨vg, gg, eg⟩ := hdep ⟨1, .guard⟩ (by simp) rfl
     have gg := gg 16 rfl (by simp)
     obtain rfl : vg = .bool true := eg
     rw [guard_is rfl rfl gg]
     rw [if_pos (by decide)]
     have hbw : Below V2.heap.size V2 w' := (below_drewN (Below.refl _ _) 1).trans hB
     have t1 := hoth 1 (notDst_at (by kernel_rfl))
     simp only [List.getElem?_toArray, List.getElem?_cons_succ, List.getElem?_cons_zero] at t1
     clear hdep hoth
     go_simp
     exact hK _ _ (Below.refl _ _) rfl
    ·intro a' w' hB hdep hoth K hK
     obtain ⟨vg, gg, eg⟩ := hdep ⟨1, .guard⟩ (by simp) rfl
     have gg := gg 16 rfl (by simp)
     obtain rfl : vg = .bool true := eg
     rw [guard_is rfl rfl gg]
     rw [if_pos (by decide)]
     have hbw : Below V2.heap.size V2 w' := (below_drewN (Below.refl _ _) 1).trans hB
     obtain ⟨vx0, gx0, ex0⟩ := hdep ⟨5, .data⟩ (by simp) rfl
     have gx0 := gx0 20 rfl (by simp)
     obtain rfl : vx0 = .pointer (some ⟨pc, 2, none⟩) := ex0
     have hcl := HM2.out.call
     have q1 : w'.cell? ⟨pc, 1, none⟩ = some (.int .u8 x.kind) := blk_cell (blk_below hcl hbw (blk_lt hcl)) 1
     have q2 : w'.cell? ⟨pc, 2, none⟩ = some (.int .i64 x.key) := blk_cell (blk_below hcl hbw (blk_lt hcl)) 2
     have lq := blk_lt (blk_below hcl hbw (blk_lt hcl))
     clear hcl
     clear hdep hoth
     go_simp
     exact hK _ _ (Below.refl _ _) rfl
    ·intro a' w' hB hdep hoth K hK
     obtain ⟨vg, gg, eg⟩ := hdep ⟨1, .guard⟩ (by simp) rfl
     have gg := gg 16 rfl (by simp)
     obtain rfl : vg = .bool true := eg
     rw [guard_is rfl rfl gg]
     rw [if_pos (by decide)]
     have hbw : Below V2.heap.size V2 w' := (below_drewN (Below.refl _ _) 1).trans hB
     obtain ⟨vx0, gx0, ex0⟩ := hdep ⟨4, .data⟩ (by simp) rfl
     have gx0 := gx0 19 rfl (by simp)
     obtain rfl : vx0 = .int .u8 x.kind := ex0
     obtain ⟨vx1, gx1, ex1⟩ := hdep ⟨6, .data⟩ (by simp) rfl
     have gx1 := gx1 21 rfl (by simp)
     obtain rfl : vx1 = .int .i64 x.key := ex1
     clear hdep hoth
     go_simp
     exact hK _ _ (Below.refl _ _) rfl
    ·intro a' w' hB hdep hoth K hK
     obtain ⟨vg, gg, eg⟩ := hdep ⟨1, .guard⟩ (by simp) rfl
     have gg := gg 16 rfl (by simp)
     obtain rfl : vg = .bool true := eg
     rw [guard_is rfl rfl gg]
     rw [if_pos (by decide)]
     have hbw : Below V2.heap.size V2 w' := (below_drewN (Below.refl _ _) 1).trans hB
     obtain ⟨vx0, gx0, ex0⟩ := hdep ⟨2, .data⟩ (by simp) rfl
     have gx0 := gx0 17 rfl (by simp)
     obtain rfl : vx0 = (.agg bv) := ex0
     obtain ⟨vx1, gx1, ex1⟩ := hdep ⟨7, .data⟩ (by simp) rfl
     have gx1 := gx1 22 rfl (by simp)
     obtain rfl : vx1 = .agg #[.int .u8 x.kind, .int .i64 x.key] := ex1
     have HA := hid (is_is false x.kind x.key HIQ.out (HBR.out.below hbw).is (HM2.out.ask.below hbw) (by have := HF.out.1; omega) (by have := HF.out.2.1; omega) HF.out.2.2)
     clear hdep hoth
     go_simp
     refine HA.out.mono ?_
     rintro e w'' ⟨rfl, hb⟩
     exact hK _ _ hb rfl
    ·intro a' w' hB hdep hoth K hK
     rw [if_pos (guard_none rfl)]
     have hbw : Below V2.heap.size V2 w' := (below_drewN (Below.refl _ _) 1).trans hB
     obtain ⟨vx0, gx0, ex0⟩ := hdep ⟨1, .data⟩ (by simp) rfl
     have gx0 := gx0 16 rfl (by simp)
     obtain rfl : vx0 = .bool true := ex0
     obtain ⟨vx1, gx1, ex1⟩ := hdep ⟨8, .data⟩ (by simp) rfl
     have gx1 := gx1 23 rfl (by simp)
     obtain rfl : vx1 = .bool false := ex1
     clear hdep hoth
     go_simp
     exact hK _ _ (Below.refl _ _) rfl
    ·intro a' w' hB hdep hoth K hK
     rw [if_pos (guard_none rfl)]
     have hbw : Below V2.heap.size V2 w' := (below_drewN (Below.refl _ _) 1).trans hB
     obtain ⟨vx0, gx0, ex0⟩ := hdep ⟨9, .data⟩ (by simp) rfl
     have gx0 := gx0 24 rfl (by simp)
     obtain rfl : vx0 = .bool false := ex0
     clear hdep hoth
     go_simp
     exact hK _ _ (Below.refl _ _) rfl
    ·intro a' w' hB hdep hoth K hK
     obtain ⟨vg, gg, eg⟩ := hdep ⟨10, .guard⟩ (by simp) rfl
     have gg := gg 25 rfl (by simp)
     obtain rfl : vg = .bool false := eg
     rw [guard_is rfl rfl gg]
     rw [if_neg (by decide)]
     exact hK _ _ (Below.refl _ _) rfl
    ·intro a' w' hB hdep hoth K hK
     obtain ⟨vg, gg, eg⟩ := hdep ⟨10, .guard⟩ (by simp) rfl
     have gg := gg 25 rfl (by simp)
     obtain rfl : vg = .bool false := eg
     rw [guard_is rfl rfl gg]
     rw [if_neg (by decide)]
     exact hK _ _ (Below.refl _ _) rfl
    ·intro a' w' hB hdep hoth K hK
     obtain ⟨vg, gg, eg⟩ := hdep ⟨10, .guard⟩ (by simp) rfl
     have gg := gg 25 rfl (by simp)
     obtain rfl : vg = .bool false := eg
     rw [guard_is rfl rfl gg]
     rw [if_neg (by decide)]
     exact hK _ _ (Below.refl _ _) rfl
    ·intro a' w' hB hdep hoth K hK
     obtain ⟨vg, gg, eg⟩ := hdep ⟨10, .guard⟩ (by simp) rfl
     have gg := gg 25 rfl (by simp)
     obtain rfl : vg = .bool false := eg
     rw [guard_is rfl rfl gg]
     rw [if_neg (by decide)]
     exact hK _ _ (Below.refl _ _) rfl
    ·intro a' w' hB hdep hoth K hK
     obtain ⟨vg, gg, eg⟩ := hdep ⟨10, .guard⟩ (by simp) rfl
     have gg := gg 25 rfl (by simp)
     obtain rfl : vg = .bool false := eg
     rw [guard_is rfl rfl gg]
     rw [if_neg (by decide)]
     exact hK _ _ (Below.refl _ _) rfl
    ·intro a' w' hB hdep hoth K hK
     obtain ⟨vg, gg, eg⟩ := hdep ⟨10, .guard⟩ (by simp) rfl
     have gg := gg 25 rfl (by simp)
     obtain rfl : vg = .bool false := eg
     rw [guard_is rfl rfl gg]
     rw [if_neg (by decide)]
     exact hK _ _ (Below.refl _ _) rfl
    ·intro a' w' hB hdep hoth K hK
     rw [if_pos (guard_none rfl)]
     have hbw : Below V2.heap.size V2 w' := (below_drewN (Below.refl _ _) 1).trans hB
     obtain ⟨vx0, gx0, ex0⟩ := hdep ⟨10, .data⟩ (by simp) rfl
     have gx0 := gx0 25 rfl (by simp)
     obtain rfl : vx0 = .bool false := ex0
     clear hdep hoth
     go_simp
     exact hK _ _ (Below.refl _ _) rfl
   case fin1 =>
    intro vs X hB hs
    have hbw : Below V2.heap.size V2 X := (below_drewN (Below.refl _ _) 1).trans hB
    have ev : vs 17 = .bool false := hs 17 (by decide)
    clear hs
    simp only [actOf, dstAt, if_true, List.getElem?_toArray, List.getElem?_cons_succ, List.getElem?_cons_zero, Option.bind_some, Act.put, List.setIfInBounds_toArray, List.set_cons_zero, List.set_cons_succ, List.length_cons, List.length_nil, Nat.reduceAdd]
    rw [ev]
    clear ev hB
    have HX := hid (HJ.out _ _ _ none H2.out (grown_of_below hbw none) (by simp))
    clear hbw
    go_wp2
    exact bodyPost_end (results_none rfl _ _ _) rfl ⟨⟨_, rfl⟩, _, show SQ _ [] from HE.out.symm, HX.out⟩
  | true =>
   cases sb with
   | true =>
    have HE := hid (show countsL B x dn i now = [] by unfold countsL; rw [HS.out]; exact if_neg (fun h => by have := HSB.out; rw [h.2] at this; cases this))
    refine wp_region_held_drew (S := fun _ => True) (by kernel_rfl) trivial (fun _ => ?_)
    refine wpAnyH_grownG (w0 := V2.drew) (spL [fun z _ => z = .bool true, fun z _ => z = .bool true, fun z _ => z = (.agg bv), fun z _ => z = .pointer (some ⟨pc, 1, none⟩), fun z _ => z = .int .u8 x.kind, fun z _ => z = .pointer (some ⟨pc, 2, none⟩), fun z _ => z = .int .i64 x.key, fun z _ => z = .agg #[.int .u8 x.kind, .int .i64 x.key], fun z _ => z = .bool true, fun z _ => z = .bool true, fun z _ => z = .bool true, fun z _ => z = (.agg bv), fun z _ => z = .agg #[.int .u8 kk, .slice va vn vc], fun z w => BrEnd V2 (applyB B kk (L)) z w, fun z _ => z = (.agg bv), fun z _ => z = .bool true, fun z _ => z = .bool false, fun z _ => z = .bool false]) (spL_stays ⟨stays_eq _, stays_eq _, stays_eq _, stays_eq _, stays_eq _, stays_eq _, stays_eq _, stays_eq _, stays_eq _, stays_eq _, stays_eq _, stays_eq _, stays_eq _, stays_brEnd _ _, stays_eq _, stays_eq _, stays_eq _, stays_eq _, trivial⟩) (by kernel_rfl) (by kernel_rfl) ?steps1 ?fin1 rfl
    case steps1 =>
     refine ⟨?_, ?_, ?_, ?_, ?_, ?_, ?_, ?_, ?_, ?_, ?_, ?_, ?_, ?_, ?_, ?_, ?_, ?_, trivial⟩
     ·intro a' w' hB hdep hoth K hK
      rw [if_pos (guard_none rfl)]
      have hbw : Below V2.heap.size V2 w' := (below_drewN (Below.refl _ _) 1).trans hB
      have t7 := hoth 7 (notDst_at (by kernel_rfl))
      simp only [List.getElem?_toArray, List.getElem?_cons_succ, List.getElem?_cons_zero] at t7
      clear hdep hoth
      go_simp
      exact hK _ _ (Below.refl _ _) rfl
     ·intro a' w' hB hdep hoth K hK
      rw [if_pos (guard_none rfl)]
      have hbw : Below V2.heap.size V2 w' := (below_drewN (Below.refl _ _) 1).trans hB
      obtain ⟨vx0, gx0, ex0⟩ := hdep ⟨0, .data⟩ (by simp) rfl
      have gx0 := gx0 15 rfl (by simp)
      obtain rfl : vx0 = .bool true := ex0
      clear hdep hoth
      go_simp
      exact hK _ _ (Below.refl _ _) rfl
     ·intro a' w' hB hdep hoth K hK
      obtain ⟨vg, gg, eg⟩ := hdep ⟨1, .guard⟩ (by simp) rfl
      have gg := gg 16 rfl (by simp)
      obtain rfl : vg = .bool true := eg
      rw [guard_is rfl rfl gg]
      rw [if_pos (by decide)]
      have hbw : Below V2.heap.size V2 w' := (below_drewN (Below.refl _ _) 1).trans hB
      have t4 := hoth 4 (notDst_at (by kernel_rfl))
      simp only [List.getElem?_toArray, List.getElem?_cons_succ, List.getElem?_cons_zero] at t4
      have hld := (HBR.out.below hbw).load
      clear hdep hoth
      go_simp
      exact hK _ _ (Below.refl _ _) rfl
     ·intro a' w' hB hdep hoth K hK
      obtain ⟨vg, gg, eg⟩ := hdep ⟨1, .guard⟩ (by simp) rfl
      have gg := gg 16 rfl (by simp)
      obtain rfl : vg = .bool true := eg
      rw [guard_is rfl rfl gg]
      rw [if_pos (by decide)]
      have hbw : Below V2.heap.size V2 w' := (below_drewN (Below.refl _ _) 1).trans hB
      have t1 := hoth 1 (notDst_at (by kernel_rfl))
      simp only [List.getElem?_toArray, List.getElem?_cons_succ, List.getElem?_cons_zero] at t1
      clear hdep hoth
      go_simp
      exact hK _ _ (Below.refl _ _) rfl
     ·intro a' w' hB hdep hoth K hK
      obtain ⟨vg, gg, eg⟩ := hdep ⟨1, .guard⟩ (by simp) rfl
      have gg := gg 16 rfl (by simp)
      obtain rfl : vg = .bool true := eg
      rw [guard_is rfl rfl gg]
      rw [if_pos (by decide)]
      have hbw : Below V2.heap.size V2 w' := (below_drewN (Below.refl _ _) 1).trans hB
      obtain ⟨vx0, gx0, ex0⟩ := hdep ⟨3, .data⟩ (by simp) rfl
      have gx0 := gx0 18 rfl (by simp)
      obtain rfl : vx0 = .pointer (some ⟨pc, 1, none⟩) := ex0
      have hcl := HM2.out.call
      have q1 : w'.cell? ⟨pc, 1, none⟩ = some (.int .u8 x.kind) := blk_cell (blk_below hcl hbw (blk_lt hcl)) 1
      have q2 : w'.cell? ⟨pc, 2, none⟩ = some (.int .i64 x.key) := blk_cell (blk_below hcl hbw (blk_lt hcl)) 2
      have lq := blk_lt (blk_below hcl hbw (blk_lt hcl))
      clear hcl
      clear hdep hoth
      go_simp
      exact hK _ _ (Below.refl _ _) rfl
     ·intro a' w' hB hdep hoth K hK
      obtain ⟨vg, gg, eg⟩ := hdep ⟨1, .guard⟩ (by simp) rfl
      have gg := gg 16 rfl (by simp)
      obtain rfl : vg = .bool true := eg
      rw [guard_is rfl rfl gg]
      rw [if_pos (by decide)]
      have hbw : Below V2.heap.size V2 w' := (below_drewN (Below.refl _ _) 1).trans hB
      have t1 := hoth 1 (notDst_at (by kernel_rfl))
      simp only [List.getElem?_toArray, List.getElem?_cons_succ, List.getElem?_cons_zero] at t1
      clear hdep hoth
      go_simp
      exact hK _ _ (Below.refl _ _) rfl
     ·intro a' w' hB hdep hoth K hK
      obtain ⟨vg, gg, eg⟩ := hdep ⟨1, .guard⟩ (by simp) rfl
      have gg := gg 16 rfl (by simp)
      obtain rfl : vg = .bool true := eg
      rw [guard_is rfl rfl gg]
      rw [if_pos (by decide)]
      have hbw : Below V2.heap.size V2 w' := (below_drewN (Below.refl _ _) 1).trans hB
      obtain ⟨vx0, gx0, ex0⟩ := hdep ⟨5, .data⟩ (by simp) rfl
      have gx0 := gx0 20 rfl (by simp)
      obtain rfl : vx0 = .pointer (some ⟨pc, 2, none⟩) := ex0
      have hcl := HM2.out.call
      have q1 : w'.cell? ⟨pc, 1, none⟩ = some (.int .u8 x.kind) := blk_cell (blk_below hcl hbw (blk_lt hcl)) 1
      have q2 : w'.cell? ⟨pc, 2, none⟩ = some (.int .i64 x.key) := blk_cell (blk_below hcl hbw (blk_lt hcl)) 2
      have lq := blk_lt (blk_below hcl hbw (blk_lt hcl))
      clear hcl
      clear hdep hoth
      go_simp
      exact hK _ _ (Below.refl _ _) rfl
     ·intro a' w' hB hdep hoth K hK
      obtain ⟨vg, gg, eg⟩ := hdep ⟨1, .guard⟩ (by simp) rfl
      have gg := gg 16 rfl (by simp)
      obtain rfl : vg = .bool true := eg
      rw [guard_is rfl rfl gg]
      rw [if_pos (by decide)]
      have hbw : Below V2.heap.size V2 w' := (below_drewN (Below.refl _ _) 1).trans hB
      obtain ⟨vx0, gx0, ex0⟩ := hdep ⟨4, .data⟩ (by simp) rfl
      have gx0 := gx0 19 rfl (by simp)
      obtain rfl : vx0 = .int .u8 x.kind := ex0
      obtain ⟨vx1, gx1, ex1⟩ := hdep ⟨6, .data⟩ (by simp) rfl
      have gx1 := gx1 21 rfl (by simp)
      obtain rfl : vx1 = .int .i64 x.key := ex1
      clear hdep hoth
      go_simp
      exact hK _ _ (Below.refl _ _) rfl
     ·intro a' w' hB hdep hoth K hK
      obtain ⟨vg, gg, eg⟩ := hdep ⟨1, .guard⟩ (by simp) rfl
      have gg := gg 16 rfl (by simp)
      obtain rfl : vg = .bool true := eg
      rw [guard_is rfl rfl gg]
      rw [if_pos (by decide)]
      have hbw : Below V2.heap.size V2 w' := (below_drewN (Below.refl _ _) 1).trans hB
      obtain ⟨vx0, gx0, ex0⟩ := hdep ⟨2, .data⟩ (by simp) rfl
      have gx0 := gx0 17 rfl (by simp)
      obtain rfl : vx0 = (.agg bv) := ex0
      obtain ⟨vx1, gx1, ex1⟩ := hdep ⟨7, .data⟩ (by simp) rfl
      have gx1 := gx1 22 rfl (by simp)
      obtain rfl : vx1 = .agg #[.int .u8 x.kind, .int .i64 x.key] := ex1
      have HA := hid (is_is true x.kind x.key HIQ.out (HBR.out.below hbw).is (HM2.out.ask.below hbw) (by have := HF.out.1; omega) (by have := HF.out.2.1; omega) HF.out.2.2)
      clear hdep hoth
      go_simp
      refine HA.out.mono ?_
      rintro e w'' ⟨rfl, hb⟩
      exact hK _ _ hb rfl
     ·intro a' w' hB hdep hoth K hK
      rw [if_pos (guard_none rfl)]
      have hbw : Below V2.heap.size V2 w' := (below_drewN (Below.refl _ _) 1).trans hB
      obtain ⟨vx0, gx0, ex0⟩ := hdep ⟨1, .data⟩ (by simp) rfl
      have gx0 := gx0 16 rfl (by simp)
      obtain rfl : vx0 = .bool true := ex0
      obtain ⟨vx1, gx1, ex1⟩ := hdep ⟨8, .data⟩ (by simp) rfl
      have gx1 := gx1 23 rfl (by simp)
      obtain rfl : vx1 = .bool true := ex1
      clear hdep hoth
      go_simp
      exact hK _ _ (Below.refl _ _) rfl
     ·intro a' w' hB hdep hoth K hK
      rw [if_pos (guard_none rfl)]
      have hbw : Below V2.heap.size V2 w' := (below_drewN (Below.refl _ _) 1).trans hB
      obtain ⟨vx0, gx0, ex0⟩ := hdep ⟨9, .data⟩ (by simp) rfl
      have gx0 := gx0 24 rfl (by simp)
      obtain rfl : vx0 = .bool true := ex0
      clear hdep hoth
      go_simp
      exact hK _ _ (Below.refl _ _) rfl
     ·intro a' w' hB hdep hoth K hK
      obtain ⟨vg, gg, eg⟩ := hdep ⟨10, .guard⟩ (by simp) rfl
      have gg := gg 25 rfl (by simp)
      obtain rfl : vg = .bool true := eg
      rw [guard_is rfl rfl gg]
      rw [if_pos (by decide)]
      have hbw : Below V2.heap.size V2 w' := (below_drewN (Below.refl _ _) 1).trans hB
      have t4 := hoth 4 (notDst_at (by kernel_rfl))
      simp only [List.getElem?_toArray, List.getElem?_cons_succ, List.getElem?_cons_zero] at t4
      have hld := (HBR.out.below hbw).load
      clear hdep hoth
      go_simp
      exact hK _ _ (Below.refl _ _) rfl
     ·intro a' w' hB hdep hoth K hK
      obtain ⟨vg, gg, eg⟩ := hdep ⟨10, .guard⟩ (by simp) rfl
      have gg := gg 25 rfl (by simp)
      obtain rfl : vg = .bool true := eg
      rw [guard_is rfl rfl gg]
      rw [if_pos (by decide)]
      have hbw : Below V2.heap.size V2 w' := (below_drewN (Below.refl _ _) 1).trans hB
      have t6 := hoth 6 (notDst_at (by kernel_rfl))
      simp only [List.getElem?_toArray, List.getElem?_cons_succ, List.getElem?_cons_zero] at t6
      have q1 : w'.cell? ⟨T6, 0, none⟩ = some (.int .u8 kk) := blk_cell (blk_below HRB.out hbw (blk_lt HRB.out)) 0
      have q2 : w'.cell? ⟨T6, 1, none⟩ = some (.slice va vn vc) := blk_cell (blk_below HRB.out hbw (blk_lt HRB.out)) 1
      have lq := blk_lt (blk_below HRB.out hbw (blk_lt HRB.out))
      clear hdep hoth
      go_simp
      exact hK _ _ (Below.refl _ _) rfl
     ·intro a' w' hB hdep hoth K hK
      obtain ⟨vg, gg, eg⟩ := hdep ⟨10, .guard⟩ (by simp) rfl
      have gg := gg 25 rfl (by simp)
      obtain rfl : vg = .bool true := eg
      rw [guard_is rfl rfl gg]
      rw [if_pos (by decide)]
      have hbw : Below V2.heap.size V2 w' := (below_drewN (Below.refl _ _) 1).trans hB
      obtain ⟨v0, g0, e0⟩ := hdep ⟨11, .data⟩ (by simp) rfl
      have g0 := g0 26 rfl (by simp)
      obtain rfl : v0 = (.agg bv) := e0
      obtain ⟨v1, g1, e1⟩ := hdep ⟨12, .data⟩ (by simp) rfl
      have g1 := g1 27 rfl (by simp)
      obtain rfl : v1 = .agg #[.int .u8 kk, .slice va vn vc] := e1
      have HA := hid (apply_is kk L 900 (HBR.out.below hbw).is ⟨_, rfl, HRW.out.below hbw⟩ HF.out (by omega) hlM (by have := HLN.out; omega) (HM2.out.ch.below hbw) (HM2.out.lm.below hbw))
      clear hdep hoth
      go_simp
      refine HA.out.mono ?_
      rintro e w'' ⟨v, rfl, he, hb⟩
      exact hK v _ hb (he.base hbw.size)
     ·intro a' w' hB hdep hoth K hK
      obtain ⟨vg, gg, eg⟩ := hdep ⟨10, .guard⟩ (by simp) rfl
      have gg := gg 25 rfl (by simp)
      obtain rfl : vg = .bool true := eg
      rw [guard_is rfl rfl gg]
      rw [if_pos (by decide)]
      have hbw : Below V2.heap.size V2 w' := (below_drewN (Below.refl _ _) 1).trans hB
      have t4 := hoth 4 (notDst_at (by kernel_rfl))
      simp only [List.getElem?_toArray, List.getElem?_cons_succ, List.getElem?_cons_zero] at t4
      have hld := (HBR.out.below hbw).load
      clear hdep hoth
      go_simp
      exact hK _ _ (Below.refl _ _) rfl
     ·intro a' w' hB hdep hoth K hK
      obtain ⟨vg, gg, eg⟩ := hdep ⟨10, .guard⟩ (by simp) rfl
      have gg := gg 25 rfl (by simp)
      obtain rfl : vg = .bool true := eg
      rw [guard_is rfl rfl gg]
      rw [if_pos (by decide)]
      have hbw : Below V2.heap.size V2 w' := (below_drewN (Below.refl _ _) 1).trans hB
      obtain ⟨v0, q0, e0⟩ := hdep ⟨13, .data⟩ (by simp) rfl
      have q0 := q0 28 rfl (by simp)
      have e0 : BrEnd V2 (applyB B kk L) v0 w' := e0
      obtain ⟨v1, q1, e1⟩ := hdep ⟨14, .data⟩ (by simp) rfl
      have q1 := q1 29 rfl (by simp)
      obtain rfl : v1 = .agg bv := e1
      have HA := hid (bsame_is true HSB.out e0.is (HBR.out.below hbw).is)
      clear hdep hoth e0
      go_simp
      refine HA.out.mono ?_
      rintro e w'' ⟨rfl, hb⟩
      exact hK _ _ hb rfl
     ·intro a' w' hB hdep hoth K hK
      obtain ⟨vg, gg, eg⟩ := hdep ⟨10, .guard⟩ (by simp) rfl
      have gg := gg 25 rfl (by simp)
      obtain rfl : vg = .bool true := eg
      rw [guard_is rfl rfl gg]
      rw [if_pos (by decide)]
      have hbw : Below V2.heap.size V2 w' := (below_drewN (Below.refl _ _) 1).trans hB
      obtain ⟨vx0, gx0, ex0⟩ := hdep ⟨15, .data⟩ (by simp) rfl
      have gx0 := gx0 30 rfl (by simp)
      obtain rfl : vx0 = .bool true := ex0
      clear hdep hoth
      go_simp
      exact hK _ _ (Below.refl _ _) rfl
     ·intro a' w' hB hdep hoth K hK
      rw [if_pos (guard_none rfl)]
      have hbw : Below V2.heap.size V2 w' := (below_drewN (Below.refl _ _) 1).trans hB
      obtain ⟨vx0, gx0, ex0⟩ := hdep ⟨10, .data⟩ (by simp) rfl
      have gx0 := gx0 25 rfl (by simp)
      obtain rfl : vx0 = .bool true := ex0
      obtain ⟨vx1, gx1, ex1⟩ := hdep ⟨16, .data⟩ (by simp) rfl
      have gx1 := gx1 31 rfl (by simp)
      obtain rfl : vx1 = .bool false := ex1
      clear hdep hoth
      go_simp
      exact hK _ _ (Below.refl _ _) rfl
    case fin1 =>
     intro vs X hB hs
     have hbw : Below V2.heap.size V2 X := (below_drewN (Below.refl _ _) 1).trans hB
     have ev : vs 17 = .bool false := hs 17 (by decide)
     clear hs
     simp only [actOf, dstAt, if_true, List.getElem?_toArray, List.getElem?_cons_succ, List.getElem?_cons_zero, Option.bind_some, Act.put, List.setIfInBounds_toArray, List.set_cons_zero, List.set_cons_succ, List.length_cons, List.length_nil, Nat.reduceAdd]
     rw [ev]
     clear ev hB
     have HX := hid (HJ.out _ _ _ none H2.out (grown_of_below hbw none) (by simp))
     clear hbw
     go_wp2
     exact bodyPost_end (results_none rfl _ _ _) rfl ⟨⟨_, rfl⟩, _, show SQ _ [] from HE.out.symm, HX.out⟩
   | false =>
    have HE := hid (show countsL B x dn i now = [(kk, L)] by unfold countsL; rw [HS.out]; exact if_pos ⟨of_decide_eq_true HIQ.out, HSB.out⟩)
    refine wp_region_held_drew (S := fun _ => True) (by kernel_rfl) trivial (fun _ => ?_)
    refine wpAnyH_grownG (w0 := V2.drew) (spL [fun z _ => z = .bool true, fun z _ => z = .bool true, fun z _ => z = (.agg bv), fun z _ => z = .pointer (some ⟨pc, 1, none⟩), fun z _ => z = .int .u8 x.kind, fun z _ => z = .pointer (some ⟨pc, 2, none⟩), fun z _ => z = .int .i64 x.key, fun z _ => z = .agg #[.int .u8 x.kind, .int .i64 x.key], fun z _ => z = .bool true, fun z _ => z = .bool true, fun z _ => z = .bool true, fun z _ => z = (.agg bv), fun z _ => z = .agg #[.int .u8 kk, .slice va vn vc], fun z w => BrEnd V2 (applyB B kk (L)) z w, fun z _ => z = (.agg bv), fun z _ => z = .bool false, fun z _ => z = .bool true, fun z _ => z = .bool true]) (spL_stays ⟨stays_eq _, stays_eq _, stays_eq _, stays_eq _, stays_eq _, stays_eq _, stays_eq _, stays_eq _, stays_eq _, stays_eq _, stays_eq _, stays_eq _, stays_eq _, stays_brEnd _ _, stays_eq _, stays_eq _, stays_eq _, stays_eq _, trivial⟩) (by kernel_rfl) (by kernel_rfl) ?steps1 ?fin1 rfl
    case steps1 =>
     refine ⟨?_, ?_, ?_, ?_, ?_, ?_, ?_, ?_, ?_, ?_, ?_, ?_, ?_, ?_, ?_, ?_, ?_, ?_, trivial⟩
     ·intro a' w' hB hdep hoth K hK
      rw [if_pos (guard_none rfl)]
      have hbw : Below V2.heap.size V2 w' := (below_drewN (Below.refl _ _) 1).trans hB
      have t7 := hoth 7 (notDst_at (by kernel_rfl))
      simp only [List.getElem?_toArray, List.getElem?_cons_succ, List.getElem?_cons_zero] at t7
      clear hdep hoth
      go_simp
      exact hK _ _ (Below.refl _ _) rfl
     ·intro a' w' hB hdep hoth K hK
      rw [if_pos (guard_none rfl)]
      have hbw : Below V2.heap.size V2 w' := (below_drewN (Below.refl _ _) 1).trans hB
      obtain ⟨vx0, gx0, ex0⟩ := hdep ⟨0, .data⟩ (by simp) rfl
      have gx0 := gx0 15 rfl (by simp)
      obtain rfl : vx0 = .bool true := ex0
      clear hdep hoth
      go_simp
      exact hK _ _ (Below.refl _ _) rfl
     ·intro a' w' hB hdep hoth K hK
      obtain ⟨vg, gg, eg⟩ := hdep ⟨1, .guard⟩ (by simp) rfl
      have gg := gg 16 rfl (by simp)
      obtain rfl : vg = .bool true := eg
      rw [guard_is rfl rfl gg]
      rw [if_pos (by decide)]
      have hbw : Below V2.heap.size V2 w' := (below_drewN (Below.refl _ _) 1).trans hB
      have t4 := hoth 4 (notDst_at (by kernel_rfl))
      simp only [List.getElem?_toArray, List.getElem?_cons_succ, List.getElem?_cons_zero] at t4
      have hld := (HBR.out.below hbw).load
      clear hdep hoth
      go_simp
      exact hK _ _ (Below.refl _ _) rfl
     ·intro a' w' hB hdep hoth K hK
      obtain ⟨vg, gg, eg⟩ := hdep ⟨1, .guard⟩ (by simp) rfl
      have gg := gg 16 rfl (by simp)
      obtain rfl : vg = .bool true := eg
      rw [guard_is rfl rfl gg]
      rw [if_pos (by decide)]
      have hbw : Below V2.heap.size V2 w' := (below_drewN (Below.refl _ _) 1).trans hB
      have t1 := hoth 1 (notDst_at (by kernel_rfl))
      simp only [List.getElem?_toArray, List.getElem?_cons_succ, List.getElem?_cons_zero] at t1
      clear hdep hoth
      go_simp
      exact hK _ _ (Below.refl _ _) rfl
     ·intro a' w' hB hdep hoth K hK
      obtain ⟨vg, gg, eg⟩ := hdep ⟨1, .guard⟩ (by simp) rfl
      have gg := gg 16 rfl (by simp)
      obtain rfl : vg = .bool true := eg
      rw [guard_is rfl rfl gg]
      rw [if_pos (by decide)]
      have hbw : Below V2.heap.size V2 w' := (below_drewN (Below.refl _ _) 1).trans hB
      obtain ⟨vx0, gx0, ex0⟩ := hdep ⟨3, .data⟩ (by simp) rfl
      have gx0 := gx0 18 rfl (by simp)
      obtain rfl : vx0 = .pointer (some ⟨pc, 1, none⟩) := ex0
      have hcl := HM2.out.call
      have q1 : w'.cell? ⟨pc, 1, none⟩ = some (.int .u8 x.kind) := blk_cell (blk_below hcl hbw (blk_lt hcl)) 1
      have q2 : w'.cell? ⟨pc, 2, none⟩ = some (.int .i64 x.key) := blk_cell (blk_below hcl hbw (blk_lt hcl)) 2
      have lq := blk_lt (blk_below hcl hbw (blk_lt hcl))
      clear hcl
      clear hdep hoth
      go_simp
      exact hK _ _ (Below.refl _ _) rfl
     ·intro a' w' hB hdep hoth K hK
      obtain ⟨vg, gg, eg⟩ := hdep ⟨1, .guard⟩ (by simp) rfl
      have gg := gg 16 rfl (by simp)
      obtain rfl : vg = .bool true := eg
      rw [guard_is rfl rfl gg]
      rw [if_pos (by decide)]
      have hbw : Below V2.heap.size V2 w' := (below_drewN (Below.refl _ _) 1).trans hB
      have t1 := hoth 1 (notDst_at (by kernel_rfl))
      simp only [List.getElem?_toArray, List.getElem?_cons_succ, List.getElem?_cons_zero] at t1
      clear hdep hoth
      go_simp
      exact hK _ _ (Below.refl _ _) rfl
     ·intro a' w' hB hdep hoth K hK
      obtain ⟨vg, gg, eg⟩ := hdep ⟨1, .guard⟩ (by simp) rfl
      have gg := gg 16 rfl (by simp)
      obtain rfl : vg = .bool true := eg
      rw [guard_is rfl rfl gg]
      rw [if_pos (by decide)]
      have hbw : Below V2.heap.size V2 w' := (below_drewN (Below.refl _ _) 1).trans hB
      obtain ⟨vx0, gx0, ex0⟩ := hdep ⟨5, .data⟩ (by simp) rfl
      have gx0 := gx0 20 rfl (by simp)
      obtain rfl : vx0 = .pointer (some ⟨pc, 2, none⟩) := ex0
      have hcl := HM2.out.call
      have q1 : w'.cell? ⟨pc, 1, none⟩ = some (.int .u8 x.kind) := blk_cell (blk_below hcl hbw (blk_lt hcl)) 1
      have q2 : w'.cell? ⟨pc, 2, none⟩ = some (.int .i64 x.key) := blk_cell (blk_below hcl hbw (blk_lt hcl)) 2
      have lq := blk_lt (blk_below hcl hbw (blk_lt hcl))
      clear hcl
      clear hdep hoth
      go_simp
      exact hK _ _ (Below.refl _ _) rfl
     ·intro a' w' hB hdep hoth K hK
      obtain ⟨vg, gg, eg⟩ := hdep ⟨1, .guard⟩ (by simp) rfl
      have gg := gg 16 rfl (by simp)
      obtain rfl : vg = .bool true := eg
      rw [guard_is rfl rfl gg]
      rw [if_pos (by decide)]
      have hbw : Below V2.heap.size V2 w' := (below_drewN (Below.refl _ _) 1).trans hB
      obtain ⟨vx0, gx0, ex0⟩ := hdep ⟨4, .data⟩ (by simp) rfl
      have gx0 := gx0 19 rfl (by simp)
      obtain rfl : vx0 = .int .u8 x.kind := ex0
      obtain ⟨vx1, gx1, ex1⟩ := hdep ⟨6, .data⟩ (by simp) rfl
      have gx1 := gx1 21 rfl (by simp)
      obtain rfl : vx1 = .int .i64 x.key := ex1
      clear hdep hoth
      go_simp
      exact hK _ _ (Below.refl _ _) rfl
     ·intro a' w' hB hdep hoth K hK
      obtain ⟨vg, gg, eg⟩ := hdep ⟨1, .guard⟩ (by simp) rfl
      have gg := gg 16 rfl (by simp)
      obtain rfl : vg = .bool true := eg
      rw [guard_is rfl rfl gg]
      rw [if_pos (by decide)]
      have hbw : Below V2.heap.size V2 w' := (below_drewN (Below.refl _ _) 1).trans hB
      obtain ⟨vx0, gx0, ex0⟩ := hdep ⟨2, .data⟩ (by simp) rfl
      have gx0 := gx0 17 rfl (by simp)
      obtain rfl : vx0 = (.agg bv) := ex0
      obtain ⟨vx1, gx1, ex1⟩ := hdep ⟨7, .data⟩ (by simp) rfl
      have gx1 := gx1 22 rfl (by simp)
      obtain rfl : vx1 = .agg #[.int .u8 x.kind, .int .i64 x.key] := ex1
      have HA := hid (is_is true x.kind x.key HIQ.out (HBR.out.below hbw).is (HM2.out.ask.below hbw) (by have := HF.out.1; omega) (by have := HF.out.2.1; omega) HF.out.2.2)
      clear hdep hoth
      go_simp
      refine HA.out.mono ?_
      rintro e w'' ⟨rfl, hb⟩
      exact hK _ _ hb rfl
     ·intro a' w' hB hdep hoth K hK
      rw [if_pos (guard_none rfl)]
      have hbw : Below V2.heap.size V2 w' := (below_drewN (Below.refl _ _) 1).trans hB
      obtain ⟨vx0, gx0, ex0⟩ := hdep ⟨1, .data⟩ (by simp) rfl
      have gx0 := gx0 16 rfl (by simp)
      obtain rfl : vx0 = .bool true := ex0
      obtain ⟨vx1, gx1, ex1⟩ := hdep ⟨8, .data⟩ (by simp) rfl
      have gx1 := gx1 23 rfl (by simp)
      obtain rfl : vx1 = .bool true := ex1
      clear hdep hoth
      go_simp
      exact hK _ _ (Below.refl _ _) rfl
     ·intro a' w' hB hdep hoth K hK
      rw [if_pos (guard_none rfl)]
      have hbw : Below V2.heap.size V2 w' := (below_drewN (Below.refl _ _) 1).trans hB
      obtain ⟨vx0, gx0, ex0⟩ := hdep ⟨9, .data⟩ (by simp) rfl
      have gx0 := gx0 24 rfl (by simp)
      obtain rfl : vx0 = .bool true := ex0
      clear hdep hoth
      go_simp
      exact hK _ _ (Below.refl _ _) rfl
     ·intro a' w' hB hdep hoth K hK
      obtain ⟨vg, gg, eg⟩ := hdep ⟨10, .guard⟩ (by simp) rfl
      have gg := gg 25 rfl (by simp)
      obtain rfl : vg = .bool true := eg
      rw [guard_is rfl rfl gg]
      rw [if_pos (by decide)]
      have hbw : Below V2.heap.size V2 w' := (below_drewN (Below.refl _ _) 1).trans hB
      have t4 := hoth 4 (notDst_at (by kernel_rfl))
      simp only [List.getElem?_toArray, List.getElem?_cons_succ, List.getElem?_cons_zero] at t4
      have hld := (HBR.out.below hbw).load
      clear hdep hoth
      go_simp
      exact hK _ _ (Below.refl _ _) rfl
     ·intro a' w' hB hdep hoth K hK
      obtain ⟨vg, gg, eg⟩ := hdep ⟨10, .guard⟩ (by simp) rfl
      have gg := gg 25 rfl (by simp)
      obtain rfl : vg = .bool true := eg
      rw [guard_is rfl rfl gg]
      rw [if_pos (by decide)]
      have hbw : Below V2.heap.size V2 w' := (below_drewN (Below.refl _ _) 1).trans hB
      have t6 := hoth 6 (notDst_at (by kernel_rfl))
      simp only [List.getElem?_toArray, List.getElem?_cons_succ, List.getElem?_cons_zero] at t6
      have q1 : w'.cell? ⟨T6, 0, none⟩ = some (.int .u8 kk) := blk_cell (blk_below HRB.out hbw (blk_lt HRB.out)) 0
      have q2 : w'.cell? ⟨T6, 1, none⟩ = some (.slice va vn vc) := blk_cell (blk_below HRB.out hbw (blk_lt HRB.out)) 1
      have lq := blk_lt (blk_below HRB.out hbw (blk_lt HRB.out))
      clear hdep hoth
      go_simp
      exact hK _ _ (Below.refl _ _) rfl
     ·intro a' w' hB hdep hoth K hK
      obtain ⟨vg, gg, eg⟩ := hdep ⟨10, .guard⟩ (by simp) rfl
      have gg := gg 25 rfl (by simp)
      obtain rfl : vg = .bool true := eg
      rw [guard_is rfl rfl gg]
      rw [if_pos (by decide)]
      have hbw : Below V2.heap.size V2 w' := (below_drewN (Below.refl _ _) 1).trans hB
      obtain ⟨v0, g0, e0⟩ := hdep ⟨11, .data⟩ (by simp) rfl
      have g0 := g0 26 rfl (by simp)
      obtain rfl : v0 = (.agg bv) := e0
      obtain ⟨v1, g1, e1⟩ := hdep ⟨12, .data⟩ (by simp) rfl
      have g1 := g1 27 rfl (by simp)
      obtain rfl : v1 = .agg #[.int .u8 kk, .slice va vn vc] := e1
      have HA := hid (apply_is kk L 900 (HBR.out.below hbw).is ⟨_, rfl, HRW.out.below hbw⟩ HF.out (by omega) hlM (by have := HLN.out; omega) (HM2.out.ch.below hbw) (HM2.out.lm.below hbw))
      clear hdep hoth
      go_simp
      refine HA.out.mono ?_
      rintro e w'' ⟨v, rfl, he, hb⟩
      exact hK v _ hb (he.base hbw.size)
     ·intro a' w' hB hdep hoth K hK
      obtain ⟨vg, gg, eg⟩ := hdep ⟨10, .guard⟩ (by simp) rfl
      have gg := gg 25 rfl (by simp)
      obtain rfl : vg = .bool true := eg
      rw [guard_is rfl rfl gg]
      rw [if_pos (by decide)]
      have hbw : Below V2.heap.size V2 w' := (below_drewN (Below.refl _ _) 1).trans hB
      have t4 := hoth 4 (notDst_at (by kernel_rfl))
      simp only [List.getElem?_toArray, List.getElem?_cons_succ, List.getElem?_cons_zero] at t4
      have hld := (HBR.out.below hbw).load
      clear hdep hoth
      go_simp
      exact hK _ _ (Below.refl _ _) rfl
     ·intro a' w' hB hdep hoth K hK
      obtain ⟨vg, gg, eg⟩ := hdep ⟨10, .guard⟩ (by simp) rfl
      have gg := gg 25 rfl (by simp)
      obtain rfl : vg = .bool true := eg
      rw [guard_is rfl rfl gg]
      rw [if_pos (by decide)]
      have hbw : Below V2.heap.size V2 w' := (below_drewN (Below.refl _ _) 1).trans hB
      obtain ⟨v0, q0, e0⟩ := hdep ⟨13, .data⟩ (by simp) rfl
      have q0 := q0 28 rfl (by simp)
      have e0 : BrEnd V2 (applyB B kk L) v0 w' := e0
      obtain ⟨v1, q1, e1⟩ := hdep ⟨14, .data⟩ (by simp) rfl
      have q1 := q1 29 rfl (by simp)
      obtain rfl : v1 = .agg bv := e1
      have HA := hid (bsame_is false HSB.out e0.is (HBR.out.below hbw).is)
      clear hdep hoth e0
      go_simp
      refine HA.out.mono ?_
      rintro e w'' ⟨rfl, hb⟩
      exact hK _ _ hb rfl
     ·intro a' w' hB hdep hoth K hK
      obtain ⟨vg, gg, eg⟩ := hdep ⟨10, .guard⟩ (by simp) rfl
      have gg := gg 25 rfl (by simp)
      obtain rfl : vg = .bool true := eg
      rw [guard_is rfl rfl gg]
      rw [if_pos (by decide)]
      have hbw : Below V2.heap.size V2 w' := (below_drewN (Below.refl _ _) 1).trans hB
      obtain ⟨vx0, gx0, ex0⟩ := hdep ⟨15, .data⟩ (by simp) rfl
      have gx0 := gx0 30 rfl (by simp)
      obtain rfl : vx0 = .bool false := ex0
      clear hdep hoth
      go_simp
      exact hK _ _ (Below.refl _ _) rfl
     ·intro a' w' hB hdep hoth K hK
      rw [if_pos (guard_none rfl)]
      have hbw : Below V2.heap.size V2 w' := (below_drewN (Below.refl _ _) 1).trans hB
      obtain ⟨vx0, gx0, ex0⟩ := hdep ⟨10, .data⟩ (by simp) rfl
      have gx0 := gx0 25 rfl (by simp)
      obtain rfl : vx0 = .bool true := ex0
      obtain ⟨vx1, gx1, ex1⟩ := hdep ⟨16, .data⟩ (by simp) rfl
      have gx1 := gx1 31 rfl (by simp)
      obtain rfl : vx1 = .bool true := ex1
      clear hdep hoth
      go_simp
      exact hK _ _ (Below.refl _ _) rfl
    case fin1 =>
     intro vs X hB hs
     have hbw : Below V2.heap.size V2 X := (below_drewN (Below.refl _ _) 1).trans hB
     have ev : vs 17 = .bool true := hs 17 (by decide)
     clear hs
     simp only [actOf, dstAt, if_true, List.getElem?_toArray, List.getElem?_cons_succ, List.getElem?_cons_zero, Option.bind_some, Act.put, List.setIfInBounds_toArray, List.set_cons_zero, List.set_cons_succ, List.length_cons, List.length_nil, Nat.reduceAdd]
     rw [ev]
     clear ev hB
     have HX := hid (HJ.out _ _ _ none H2.out (grown_of_below hbw none) (by simp))
     have HRX := hid (blk_below HRB.out hbw (blk_lt HRB.out))
     have HG := hid (Owns.below HOW.out hbw)
     clear hbw
     have q1 : X.cell? ⟨T6, 0, none⟩ = some (.int .u8 kk) := blk_cell HRX.out 0
     have q2 : X.cell? ⟨T6, 1, none⟩ = some (.slice va vn vc) := blk_cell HRX.out 1
     have lq := blk_lt HRX.out
     obtain ⟨fn, tmps, assign, body, hy, hR⟩ := HY.out [] ⟨kk, .slice va vn vc, L⟩ X HX.out HG.out (by decide)
     dsimp only [itemQ, recV] at hy
     have HR := hid hR
     clear hR
     go_upto_region 2 with (fail)
     refine (wpIn_wide (n := n)).1 ?_
     gi_wp2
     refine HR.out.mono ?_
     rintro e W3 ⟨rfl, hJ3, _⟩
     gi_wp2
     go_end0
     exact ⟨⟨_, rfl⟩, _, show SQ _ [⟨kk, .slice va vn vc, L⟩] from HE.out.symm, hJ3⟩
end Go.Proofs.YthhgpiolcnojfaaGreatDoor

/- hear.Hear: an answer is heard. Printed by gn_hr.py. -/
namespace Go.Proofs.YthhgpiolcnojfaaGreatDoor
open Go.RowKit Go.Shelf
attribute [-go_sem] loadVar storeVar Instr.buildSlice
attribute [local go_sem] load_other store_other Oper.semAt_some

theorem Owns.apart {α : Type} {k : Nat} {e t : TypeId} {enc : α → List Value} {W W' : World} {base : Nat} {v : Value} {l : List α} {row : Option Nat} (h : Owns k e enc W base v l) (hg : W.grownBy W' row) (hr : ∀ r, row = some r → ∃ c, W.heap[r]? = some (.cells c t)) (hne : e ≠ t) : Owns k e enc W' base v l := by
 refine World.ownsRow.kept h hg ?_
 obtain ⟨_, ⟨rfl, _⟩ | ⟨g, cap, cur, rfl, _, hgc, _⟩⟩ := h
 ·exact .inl rfl
 ·refine .inr fun e' => ?_
  obtain ⟨c, hc⟩ := hr g (by rw [← e']; rfl)
  rw [hgc] at hc; cases hc; exact hne rfl
theorem infoR : (Tryz.prog.info? 44).map (fun i => (i.zero, i.size, i.bytes)) = some (some (.agg #[.int .u8 0, .slice none 0 0]), 2, 32) := by kernel_rfl
theorem bs_recA (k : Int) (a : Option Addr) (n c : Nat) (w : World) : (Instr.buildSlice 48 1 #[(0, .agg #[.int .u8 k, .slice a n c])]).run Tryz.prog w = .ok (.slice (some ⟨w.heap.size, 0, none⟩) 1 1) (w.alloc (.cells #[.int .u8 k, .slice a n c] 44)) := by kernel_rfl
/-- What Hear ends with. -/
def HEnd (B : BrainV) (C : CallsV) (c k d i now : Int) (w : World) (e : Ending) (w' : World) : Prop :=
 ∃ v s', e = .returned (.tuple #[v, calls C.epoch C.next s']) ∧ RecsL w' (hearL B C c k d i now) v ∧ Row12 w' s' (hearC C c k) ∧ Below w.heap.size w w'
theorem res_hear {fn : Func} {tmps : Array Value} {r q : Tmp} {b d : Nat} {v x y z : Value} {t u : TypeId} {W : World} (hres : fn.results = #[.cell r 48, .cell q 33]) (h : tmps.getD r undef = .pointer (some ⟨b, 0, none⟩)) (h' : tmps.getD q undef = .pointer (some ⟨d, 0, none⟩)) (hb : W.heap[b]? = some (.cells #[v] t)) (hd : W.heap[d]? = some (.cells #[x, y, z] u)) :
  (results fn tmps).run Tryz.prog W = .ok (.tuple #[v, .agg #[x, y, z]]) W := by
 have k0 := blk_cell hb 0
 have z0 := blk_cell hd 0
 have z1 := blk_cell hd 1
 have z2 := blk_cell hd 2
 simp only [List.getElem?_toArray, List.getElem?_cons_succ, List.getElem?_cons_zero] at k0 z0 z1 z2
 rw [Array.getD_eq_getD_getElem?] at h h'
 simp [results, hres, go_sem, h, h', k0, z0, z1, z2]
/-- What Hear has collected. -/
def HrI (w w2 : World) (T3 : Nat) (pre : List RecE) (W : World) : Prop :=
 (∃ v, W.heap[T3]? = some (.cells #[v] 48) ∧ Owns 2 44 encR W w2.heap.size v pre ∧ (pre = [] → v = .slice none 0 0)) ∧ (∀ r ∈ pre, OwnI W w2.heap.size r.s r.L) ∧ On (fun k => k < w2.heap.size ∧ k ≠ T3) w2 W ∧ Below w.heap.size w W
theorem HrI.own {w w2 : World} {T3 B : Nat} (hB : w2.heap.size ≤ B) (hw : w.heap.size ≤ w2.heap.size) : OwnFrom B (HrI w w2 T3) := by
 rintro pre W W' row ⟨⟨v, h1, h2, h3⟩, h4, h5, h6⟩ hg hr
 exact ⟨⟨v, own_blk h1 hg (fun r e => (hr r e).2), h2.own hg (fun r e => (hr r e).2), h3⟩, fun r hm => (h4 r hm).own hg (fun r e => (hr r e).2), h5.trans (on_grown hg fun r e h => by have := (hr r e).1; omega), h6.grown hg h6.size (fun k e => Nat.le_trans (Nat.le_trans hw hB) (hr k e).1)⟩
/-- Where Hear's loop variable lies. -/
def HrA (w2 : World) (T3 : Nat) (x : RecE) (a' : Act) (W : World) : Prop :=
 ∃ (Bx : Nat) (u0 u1 u2 u3 u4 u5 u6 u7 u9 u10 u11 u13 u14 u15 u16 u17 u18 u19 u20 u21 u22 u23 u24 u25 u26 u27 u28 u29 u30 u31 u32 u33 u34 u35 u36 u37 u38 u39 u40 u41 : Value), w2.heap.size ≤ Bx ∧ W.heap[Bx]? = some (.cells #[.int .u8 x.k, x.s] 44) ∧ OwnI W w2.heap.size x.s x.L ∧ a' = { tmps := #[u0, u1, u2, u3, u4, u5, u6, u7, .pointer (some ⟨T3, 0, none⟩), u9, u10, u11, .pointer (some ⟨Bx, 0, none⟩), u13, u14, u15, u16, u17, u18, u19, u20, u21, u22, u23, u24, u25, u26, u27, u28, u29, u30, u31, u32, u33, u34, u35, u36, u37, u38, u39, u40, u41], defers := [] }
theorem HrA.own {w2 : World} {T3 : Nat} {B : Nat} (x : RecE) (a' : Act) : OwnFrom B (fun (_ : Unit) W => HrA w2 T3 x a' W) := by
 rintro _ W W' row ⟨Bx, u0, u1, u2, u3, u4, u5, u6, u7, u9, u10, u11, u13, u14, u15, u16, u17, u18, u19, u20, u21, u22, u23, u24, u25, u26, u27, u28, u29, u30, u31, u32, u33, u34, u35, u36, u37, u38, u39, u40, u41, h1, h2, h3, h4⟩ hg hr
 exact ⟨Bx, u0, u1, u2, u3, u4, u5, u6, u7, u9, u10, u11, u13, u14, u15, u16, u17, u18, u19, u20, u21, u22, u23, u24, u25, u26, u27, u28, u29, u30, u31, u32, u33, u34, u35, u36, u37, u38, u39, u40, u41, h1, own_blk h2 hg (fun r e => (hr r e).2), h3.own hg (fun r e => (hr r e).2), h4⟩
theorem blk_drew1 {W : World} {b : Nat} {o : Obj} (h : W.heap[b]? = some o) : W.drew.heap[b]? = some o := h
theorem below_drew2 {a : Nat} {w W : World} (h : Below a w W) : Below a w W.drew := below_drewN h 1
theorem set3 {W : World} {b : Nat} {a0 a1 a2 : Value} {t : TypeId} (h : W.heap[b]? = some (.cells #[a0, a1, a2] t)) (x0 x1 x2 : Value) :
  (((W.setCell ⟨b, 0, none⟩ x0).setCell ⟨b, 1, none⟩ x1).setCell ⟨b, 2, none⟩ x2).heap[b]? = some (.cells #[x0, x1, x2] t) := by
 simpa using blk_set (blk_set (blk_set h 0 x0) 1 x1) 2 x2
/-- The results' boxes, stored. -/
theorem hear_out {V : World} {T3 T4 : Nat} {v0 c0 c1 c2 : Value} {t u : TypeId} (h3 : V.heap[T3]? = some (.cells #[v0] t)) (h4 : V.heap[T4]? = some (.cells #[c0, c1, c2] u)) (hne : T3 ≠ T4) (v x y z : Value) {a : Nat} {w : World} (hb : Below a w V) (h3a : a ≤ T3) (h4a : a ≤ T4) :
  ((((V.setCell ⟨T3, 0, none⟩ v).setCell ⟨T4, 0, none⟩ x).setCell ⟨T4, 1, none⟩ y).setCell ⟨T4, 2, none⟩ z).heap[T3]? = some (.cells #[v] t) ∧
  ((((V.setCell ⟨T3, 0, none⟩ v).setCell ⟨T4, 0, none⟩ x).setCell ⟨T4, 1, none⟩ y).setCell ⟨T4, 2, none⟩ z).heap[T4]? = some (.cells #[x, y, z] u) ∧
  Below a w ((((V.setCell ⟨T3, 0, none⟩ v).setCell ⟨T4, 0, none⟩ x).setCell ⟨T4, 1, none⟩ y).setCell ⟨T4, 2, none⟩ z) := by
 refine ⟨by simpa using blk_other (blk_other (blk_other (blk_set h3 0 v) (p := ⟨T4, 0, none⟩) hne x) (p := ⟨T4, 1, none⟩) hne y) (p := ⟨T4, 2, none⟩) hne z, set3 (blk_other h4 (p := ⟨T3, 0, none⟩) (Ne.symm hne) v) x y z, ?_⟩
 exact (((hb.setCell (p := ⟨T3, 0, none⟩) h3a _).setCell (p := ⟨T4, 0, none⟩) h4a _).setCell (p := ⟨T4, 1, none⟩) h4a _).setCell (p := ⟨T4, 2, none⟩) h4a _
theorem other_out {V : World} {T3 T4 D : Nat} (h3 : D ≠ T3) (h4 : D ≠ T4) (v x y z : Value) : ((((V.setCell ⟨T3, 0, none⟩ v).setCell ⟨T4, 0, none⟩ x).setCell ⟨T4, 1, none⟩ y).setCell ⟨T4, 2, none⟩ z).heap[D]? = V.heap[D]? := by
 rw [Below.heap_setCell _ _ _ _ (by simpa using h4), Below.heap_setCell _ _ _ _ (by simpa using h4), Below.heap_setCell _ _ _ _ (by simpa using h4), Below.heap_setCell _ _ _ _ (by simpa using h3)]
theorem owns_out {α : Type} {k : Nat} {e : TypeId} {enc : α → List Value} {V : World} {b T3 T4 D : Nat} {u : Value} {l : List α} (h : Owns k e enc V b u l) (h3 : T3 < b) (h4 : T4 < b) (hD : V.heap[D]? = some (.deferred (some []))) (d3 : D ≠ T3) (d4 : D ≠ T4) (v x y z : Value) :
  Owns k e enc (((((V.setCell ⟨T3, 0, none⟩ v).setCell ⟨T4, 0, none⟩ x).setCell ⟨T4, 1, none⟩ y).setCell ⟨T4, 2, none⟩ z).putObj D (.deferred none)) b u l :=
 Owns.own (Owns.other (Owns.other (Owns.other (Owns.other h (p := ⟨T3, 0, none⟩) h3 v) (p := ⟨T4, 0, none⟩) h4 x) (p := ⟨T4, 1, none⟩) h4 y) (p := ⟨T4, 2, none⟩) h4 z) (grownBy_putObj' _ D (.deferred none)) (fun r e => by cases e; exact ⟨_, (other_out d3 d4 v x y z).trans hD, rfl⟩)
def CloseQ (b : Nat) (ep nx : Int) (l : List CallV) (z : Value) (w : World) : Prop := ∃ v, z = calls ep nx v ∧ Own12 w b v l
theorem stays_closeQ (b : Nat) (ep nx : Int) (l : List CallV) : Stays (CloseQ b ep nx l) := by
 rintro z w w' ⟨v, h1, h2⟩ hb
 exact ⟨v, h1, Owns.below h2 hb⟩
theorem new_cellsR (W : World) (k : Int) (s : Value) (L : List Int) (t : TypeId) : ∀ j u, (encR ⟨k, s, L⟩)[j]? = some u → (W.alloc (.cells #[.int .u8 k, s] t)).cell? ((⟨W.heap.size, 0, none⟩ : Addr).add j) = some u := by
 intro j u hj
 rw [show ((⟨W.heap.size, 0, none⟩ : Addr).add j) = ⟨W.heap.size, j, none⟩ by unfold Addr.add; split <;> simp_all]
 rw [blk_cell (heap_new W _)]
 simpa [encR] using hj
theorem encR_oneA (k : Int) (a : Option Addr) (n c : Nat) (L : List Int) : ∀ u ∈ encR ⟨k, .slice a n c, L⟩, u.oneCell' = true := by
 intro u hu
 simp only [encR, List.mem_cons, List.not_mem_nil, or_false] at hu
 rcases hu with rfl | rfl <;> rfl
set_option maxRecDepth 100000 in
set_option maxHeartbeats 4000000 in
theorem hear_any (B : BrainV) (bv : Array Value) (ep nx c k i now : Int) (dn : Nat) (s : Value) (L : List CallV) (sa : Option Addr) (sn sc : Nat) (m : Bool) (w : World) (hB : BrIs w B (.agg bv)) (hs : Row12 w s L) (hn : L.length ≤ 1000000) (h8 : dn ≤ 255)
  (hF : Fine B 900) (hlM : B.M.length ≤ 17592186043904) (hA : Asked w) (hC : Changes w) (hL : Limits w) :
  Calls Tryz.prog 14 #[.agg bv, calls ep nx s, tellT c k dn i (.slice sa sn sc) m, .int .i64 now] w (HEnd B ⟨ep, nx, L⟩ c k dn i now w) := by
 obtain ⟨r0, hr0, hr1, hr2, hr3⟩ := info_parts infoR
 have HI0 := hid hr0
 have HI1 := hid hr1
 have HI2 := hid hr2
 have HI3 := hid hr3
 clear hr0 hr1 hr2 hr3
 obtain ⟨va, vc, rfl, _⟩ := hs.open
 obtain ⟨W1, hW1⟩ : ∃ W1, W1 = ((((w.alloc (.cells bv 30)).alloc (.cells #[.int .i64 ep, .int .i64 nx, .slice va L.length vc] 33)).alloc (.cells #[.int .i64 c, .int .u8 k, .int .u8 dn, .int .i64 i, .slice sa sn sc, .bool m] 36)).alloc (.cells #[.slice none 0 0] 48)).alloc (.cells #[.int .i64 0, .int .i64 0, .slice none 0 0] 33) := ⟨_, rfl⟩
 have hb1 : Below w.heap.size w W1 := by rw [hW1]; exact (((((Below.refl _ _).alloc (Nat.le_refl _) _).alloc (by simp) _).alloc (by simp; omega) _).alloc (by simp; omega) _).alloc (by simp; omega) _
 have n0 : BB W1 w.heap.size bv := by rw [hW1]; exact blk_alloc (blk_alloc (blk_alloc (blk_alloc (heap_new _ _) _) _) _) _
 have n1 : W1.heap[w.heap.size + 1]? = some (.cells #[.int .i64 ep, .int .i64 nx, .slice va L.length vc] 33) := by rw [hW1]; exact blk_alloc (blk_alloc (blk_alloc (heap_new2 _ _ _) _) _) _
 have n2 : W1.heap[w.heap.size + 1 + 1]? = some (.cells #[.int .i64 c, .int .u8 k, .int .u8 dn, .int .i64 i, .slice sa sn sc, .bool m] 36) := by rw [hW1]; exact blk_alloc (blk_alloc (by simpa using heap_new2 (w.alloc _) _ _) _) _
 have n3 : W1.heap[w.heap.size + 1 + 1 + 1]? = some (.cells #[.slice none 0 0] 48) := by rw [hW1]; exact blk_alloc (by simpa using heap_new2 ((w.alloc _).alloc _) _ _) _
 have n4 : W1.heap[w.heap.size + 1 + 1 + 1 + 1]? = some (.cells #[.int .i64 0, .int .i64 0, .slice none 0 0] 33) := by rw [hW1]; simpa using heap_new2 (((w.alloc _).alloc _).alloc _) _ _
 have HH := hid (heard_any ep nx c k dn i _ L sa sn sc m W1 hn (hs.below hb1))
 obtain ⟨mv, iv, kv, e, h1, h2, h3⟩ := hB
 have HV := hid (show VarIs W1 w.heap.size B (.agg bv) from by cases e; exact ⟨mv, iv, kv, rfl, n0, h1.below hb1, h2.below hb1, h3.below hb1⟩)
 have HW1 := hid hW1
 have HB1 := hid hb1
 have N1 := hid n1
 have N2 := hid n2
 have N3 := hid n3
 have N4 := hid n4
 have HS := hid hs
 have HF := hid hF
 have HA := hid hA
 have HC := hid hC
 have HL := hid hL
 clear e h1 h2 h3 n0 n1 n2 n3 n4 hb1 hW1 hs hF hA hC hL
 refine (callsIn_wide (n := 4)).1 ?_
 refine callsIn_of_wp_marks Tryz.func14 rfl trivial ?_ rfl
 unfold calls tellT
 simp only [Tryz.ntmps14, List.size_toArray, List.length_cons, List.length_nil, Nat.reduceAdd, Nat.reduceSub, Array.replicate_succ, Array.replicate_zero, List.push_toArray, List.append_toArray, List.nil_append, List.cons_append]
 refine wpIn_wide.2 ?_
 go_wp2_with fail
 rw [← HW1.out]
 refine HH.out.mono ?_
 rintro e V ⟨rfl, hb⟩
 obtain ⟨⟨y, b⟩, hy⟩ : ∃ r, heardL L c k = r := ⟨_, rfl⟩
 have HY := hid hy
 rw [hy]
 have hb2 := HB1.out.trans (hb.mono HB1.out.size)
 have HB2 := hid hb2
 have HV2 := hid (HV.out.below hb)
 have M1 := hid (blk_below N1.out hb (blk_lt N1.out))
 have M2 := hid (blk_below N2.out hb (blk_lt N2.out))
 have M3 := hid (blk_below N3.out hb (blk_lt N3.out))
 have M4 := hid (blk_below N4.out hb (blk_lt N4.out))
 clear hb hb2 hy HH
 unfold encS
 cases b with
 | false =>
  have HE := hid (show hearL B ⟨ep, nx, L⟩ c k dn i now = [] ∧ hearC ⟨ep, nx, L⟩ c k = L by unfold hearL hearC; rw [show (⟨ep, nx, L⟩ : CallsV).opens = L from rfl, HY.out]; exact ⟨if_neg (fun h => by cases h.1), if_neg (fun h => by cases h.1)⟩)
  have k0 : V.cell? ⟨w.heap.size + 1, 0, none⟩ = some (.int .i64 ep) := blk_cell M1.out 0
  have k1 : V.cell? ⟨w.heap.size + 1, 1, none⟩ = some (.int .i64 nx) := blk_cell M1.out 1
  have k2 : V.cell? ⟨w.heap.size + 1, 2, none⟩ = some (.slice va L.length vc) := blk_cell M1.out 2
  have l1 := blk_lt M1.out
  obtain ⟨r0, rf, rl⟩ := blk1 M3.out
  have z0 : V.cell? ⟨w.heap.size + 1 + 1 + 1 + 1, 0, none⟩ = some (.int .i64 0) := blk_cell M4.out 0
  have z1 : V.cell? ⟨w.heap.size + 1 + 1 + 1 + 1, 1, none⟩ = some (.int .i64 0) := blk_cell M4.out 1
  have z2 : V.cell? ⟨w.heap.size + 1 + 1 + 1 + 1, 2, none⟩ = some (.slice none 0 0) := blk_cell M4.out 2
  have zf0 : V.frozen? ⟨w.heap.size + 1 + 1 + 1 + 1, 0, none⟩ = false := blk_free M4.out 0
  have zf1 : V.frozen? ⟨w.heap.size + 1 + 1 + 1 + 1, 1, none⟩ = false := blk_free M4.out 1
  have zf2 : V.frozen? ⟨w.heap.size + 1 + 1 + 1 + 1, 2, none⟩ = false := blk_free M4.out 2
  have zl := blk_lt M4.out
  go_wp2_with fail
  go_region
  obtain ⟨x3, x4, xb⟩ := hear_out M3.out M4.out (by omega) (.slice none 0 0) (.int .i64 ep) (.int .i64 nx) (.slice va L.length vc) HB2.out (by omega) (by omega)
  have x3 := blk_drew1 (blk_alloc x3 (.cells #[.int .i64 y.id, .int .u8 y.kind, .int .i64 y.key, .int .i64 y.sent] 40))
  have x4 := blk_drew1 (blk_alloc x4 (.cells #[.int .i64 y.id, .int .u8 y.kind, .int .i64 y.key, .int .i64 y.sent] 40))
  have xb := below_drew2 (xb.alloc xb.size (.cells #[.int .i64 y.id, .int .u8 y.kind, .int .i64 y.key, .int .i64 y.sent] 40))
  go_wp2
  exact ⟨_, res_hear rfl rfl rfl x3 x4, _, _, rfl, by rw [HE.out.1]; exact RecsL.nil _, by rw [HE.out.2]; exact HS.out.below xb, xb⟩
 | true =>
  by_cases h7 : y.kind = 7
  ·have HE := hid (show hearL B ⟨ep, nx, L⟩ c k dn i now = [] ∧ hearC ⟨ep, nx, L⟩ c k = L by unfold hearL hearC; rw [show (⟨ep, nx, L⟩ : CallsV).opens = L from rfl, HY.out]; exact ⟨if_neg (fun h => h.2 h7), if_neg (fun h => h.2 h7)⟩)
   have e7 : (y.kind == 7) = true := by simpa using h7
   have k0 : V.cell? ⟨w.heap.size + 1, 0, none⟩ = some (.int .i64 ep) := blk_cell M1.out 0
   have k1 : V.cell? ⟨w.heap.size + 1, 1, none⟩ = some (.int .i64 nx) := blk_cell M1.out 1
   have k2 : V.cell? ⟨w.heap.size + 1, 2, none⟩ = some (.slice va L.length vc) := blk_cell M1.out 2
   have l1 := blk_lt M1.out
   obtain ⟨r0, rf, rl⟩ := blk1 M3.out
   have z0 : V.cell? ⟨w.heap.size + 1 + 1 + 1 + 1, 0, none⟩ = some (.int .i64 0) := blk_cell M4.out 0
   have z1 : V.cell? ⟨w.heap.size + 1 + 1 + 1 + 1, 1, none⟩ = some (.int .i64 0) := blk_cell M4.out 1
   have z2 : V.cell? ⟨w.heap.size + 1 + 1 + 1 + 1, 2, none⟩ = some (.slice none 0 0) := blk_cell M4.out 2
   have zf0 : V.frozen? ⟨w.heap.size + 1 + 1 + 1 + 1, 0, none⟩ = false := blk_free M4.out 0
   have zf1 : V.frozen? ⟨w.heap.size + 1 + 1 + 1 + 1, 1, none⟩ = false := blk_free M4.out 1
   have zf2 : V.frozen? ⟨w.heap.size + 1 + 1 + 1 + 1, 2, none⟩ = false := blk_free M4.out 2
   have zl := blk_lt M4.out
   go_wp2_with fail
   go_region
   obtain ⟨x3, x4, xb⟩ := hear_out M3.out M4.out (by omega) (.slice none 0 0) (.int .i64 ep) (.int .i64 nx) (.slice va L.length vc) HB2.out (by omega) (by omega)
   have x3 := blk_drew1 (blk_alloc x3 (.cells #[.int .i64 y.id, .int .u8 7, .int .i64 y.key, .int .i64 y.sent] 40))
   have x4 := blk_drew1 (blk_alloc x4 (.cells #[.int .i64 y.id, .int .u8 7, .int .i64 y.key, .int .i64 y.sent] 40))
   have xb := below_drew2 (xb.alloc xb.size (.cells #[.int .i64 y.id, .int .u8 7, .int .i64 y.key, .int .i64 y.sent] 40))
   go_wp2
   exact ⟨_, res_hear rfl rfl rfl x3 x4, _, _, rfl, by rw [HE.out.1]; exact RecsL.nil _, by rw [HE.out.2]; exact HS.out.below xb, xb⟩
  ·have HE := hid (show hearL B ⟨ep, nx, L⟩ c k dn i now = countsL B y dn i now ∧ hearC ⟨ep, nx, L⟩ c k = keptL ⟨ep, nx, L⟩ (fun x => x.id != y.id) by unfold hearL hearC; rw [show (⟨ep, nx, L⟩ : CallsV).opens = L from rfl, HY.out]; exact ⟨if_pos ⟨rfl, h7⟩, if_pos ⟨rfl, h7⟩⟩)
   have e7 : (y.kind == 7) = false := by simpa using h7
   clear h7
   have k0 : V.cell? ⟨w.heap.size + 1, 0, none⟩ = some (.int .i64 ep) := blk_cell M1.out 0
   have k1 : V.cell? ⟨w.heap.size + 1, 1, none⟩ = some (.int .i64 nx) := blk_cell M1.out 1
   have k2 : V.cell? ⟨w.heap.size + 1, 2, none⟩ = some (.slice va L.length vc) := blk_cell M1.out 2
   have l1 := blk_lt M1.out
   obtain ⟨r0, rf, rl⟩ := blk1 M3.out
   have z0 : V.cell? ⟨w.heap.size + 1 + 1 + 1 + 1, 0, none⟩ = some (.int .i64 0) := blk_cell M4.out 0
   have z1 : V.cell? ⟨w.heap.size + 1 + 1 + 1 + 1, 1, none⟩ = some (.int .i64 0) := blk_cell M4.out 1
   have z2 : V.cell? ⟨w.heap.size + 1 + 1 + 1 + 1, 2, none⟩ = some (.slice none 0 0) := blk_cell M4.out 2
   have zf0 : V.frozen? ⟨w.heap.size + 1 + 1 + 1 + 1, 0, none⟩ = false := blk_free M4.out 0
   have zf1 : V.frozen? ⟨w.heap.size + 1 + 1 + 1 + 1, 1, none⟩ = false := blk_free M4.out 1
   have zf2 : V.frozen? ⟨w.heap.size + 1 + 1 + 1 + 1, 2, none⟩ = false := blk_free M4.out 2
   have zl := blk_lt M4.out
   have hld := HV2.out.load
   have t0 : V.cell? ⟨w.heap.size + 1 + 1, 0, none⟩ = some (.int .i64 c) := blk_cell M2.out 0
   have t1 : V.cell? ⟨w.heap.size + 1 + 1, 1, none⟩ = some (.int .u8 k) := blk_cell M2.out 1
   have t2 : V.cell? ⟨w.heap.size + 1 + 1, 2, none⟩ = some (.int .u8 dn) := blk_cell M2.out 2
   have t3 : V.cell? ⟨w.heap.size + 1 + 1, 3, none⟩ = some (.int .i64 i) := blk_cell M2.out 3
   have t4 : V.cell? ⟨w.heap.size + 1 + 1, 4, none⟩ = some (.slice sa sn sc) := blk_cell M2.out 4
   have t5 : V.cell? ⟨w.heap.size + 1 + 1, 5, none⟩ = some (.bool m) := blk_cell M2.out 5
   have l2 := blk_lt M2.out
   obtain ⟨V2, hV2⟩ : ∃ V2, V2 = V.alloc (.cells #[.int .i64 y.id, .int .u8 y.kind, .int .i64 y.key, .int .i64 y.sent] 40) := ⟨_, rfl⟩
   have hb3 : Below V.heap.size V V2 := by rw [hV2]; exact (Below.refl _ _).alloc (Nat.le_refl _) _
   have hld2 := (HV2.out.below hb3).load
   rw [hV2] at hld2
   go_wp2_with fail
   rw [← hV2]
   have HB3 := hid (HB2.out.trans (hb3.mono HB2.out.size))
   have HV3 := hid (HV2.out.below hb3)
   have Q1 := hid (blk_below M1.out hb3 (blk_lt M1.out))
   have Q3 := hid (blk_below M3.out hb3 (blk_lt M3.out))
   have Q4 := hid (blk_below M4.out hb3 (blk_lt M4.out))
   have QY := hid (show V2.heap[V.heap.size]? = some (.cells #[.int .i64 y.id, .int .u8 y.kind, .int .i64 y.key, .int .i64 y.sent] 40) by rw [hV2]; exact heap_new _ _)
   obtain ⟨T10, hT10⟩ : ∃ T, V.heap.size = T := ⟨_, rfl⟩
   rw [hT10] at QY ⊢
   have HT10 := hid (show w.heap.size + 1 + 1 + 1 + 1 < T10 by rw [← hT10]; exact blk_lt M4.out)
   clear hT10 hb3 hld hld2 k0 k1 k2 l1 r0 rf rl z0 z1 z2 zf0 zf1 zf2 zl t0 t1 t2 t3 t4 t5 l2 hV2
   refine (counts_any B y c k dn i now sa sn sc m bv V2 HV3.out.is (HA.out.below HB3.out) (HC.out.below HB3.out) (HL.out.below HB3.out)).mono ?_
   rintro e w2 ⟨pb, pc, pt, pn, rfl, hM, hb⟩
   have HSEQ := hid (counts_all 3 (by omega) B y c k i now dn sa sn sc m bv pb pc pt pn w2 h8 hM HF.out hlM)
   have HB4 := hid (HB3.out.trans (hb.mono HB3.out.size))
   have P1 := hid (blk_below Q1.out hb (blk_lt Q1.out))
   have P3 := hid (blk_below Q3.out hb (blk_lt Q3.out))
   have P4 := hid (blk_below Q4.out hb (blk_lt Q4.out))
   have PY := hid (blk_below QY.out hb (blk_lt QY.out))
   clear hM hb
   go_wp2_with fail
   refine (wpIn_wide (n := 4)).1 ?_
   have hT3 := blk_lt P3.out
   have hT4 := blk_lt P4.out
   have hT1 := blk_lt P1.out
   have hTY := blk_lt PY.out
   have hbr := bs_recA
   refine range_all rfl (by omega) (gf := 68) (lb := #[.pointer (some ⟨pc, 0, none⟩), .pointer (some ⟨pt, 0, none⟩), .pointer (some ⟨pn, 0, none⟩), .pointer (some ⟨pb, 0, none⟩)]) rfl trivial (enters_of Tryz.func68 (by kernel_rfl) rfl)
    HSEQ.out (fun _ _ => trivial) (fun _ _ _ _ _ _ _ _ => trivial) (Below.refl _ _) (fun _ => rfl)
    (HrI w w2 (w.heap.size + 1 + 1 + 1)) (HrI.own (Nat.le_refl _) HB4.out.size) ⟨⟨_, P3.out, Owns.nil _ _, fun _ => rfl⟩, (fun r hr => by cases hr), On.refl _ _, HB4.out⟩
    (HrA w2 (w.heap.size + 1 + 1 + 1)) (fun x a' => HrA.own x a') ?assign ?body ?done
   case assign =>
    rintro l pre ⟨xk, xs, xL⟩ W K ⟨⟨v, h1, h2, h3⟩, h4, h5, h6⟩ hG hlt hK
    obtain ⟨xa, xn, xc, hxs⟩ := Owns.shape hG
    dsimp only at hxs
    subst hxs
    have HK := hid hK
    have H1 := hid h1
    have H2 := hid h2
    have H4 := hid h4
    have H5 := hid h5
    have H6 := hid h6
    have HG := hid hG
    clear hK h1 h2 h4 h5 h6 hG HSEQ
    simp only [itemQ, recV]
    gi_wp2
    have hal : Below W.heap.size W (W.alloc (.cells #[.int .u8 xk, .slice xa xn xc] 44)) := (Below.refl _ _).alloc (Nat.le_refl _) _
    exact HK.out _ _ ((KeepsOthers.alloc _ _).from _) trivial ⟨⟨v, blk_alloc H1.out _, Owns.below H2.out hal, h3⟩, fun r hr => Owns.below (H4.out r hr) hal, H5.out.alloc _, H6.out.alloc H6.out.size _⟩ ⟨W.heap.size, _, _, _, _, _, _, _, _, _, _, _, _, _, _, _, _, _, _, _, _, _, _, _, _, _, _, _, _, _, _, _, _, _, _, _, _, _, _, _, _, H5.out.size, heap_new W _, Owns.below HG.out hal, rfl⟩
   case body =>
    rintro l pre ⟨xk, xs, xL⟩ a' W hl ⟨⟨v, h1, h2, h3⟩, h4, h5, h6⟩ ⟨Bx, u0, u1, u2, u3, u4, u5, u6, u7, u9, u10, u11, u13, u14, u15, u16, u17, u18, u19, u20, u21, u22, u23, u24, u25, u26, u27, u28, u29, u30, u31, u32, u33, u34, u35, u36, u37, u38, u39, u40, u41, hBx, bx, hG, rfl⟩ hlt
    obtain rfl : pre = [] := by
     cases pre with
     | nil => rfl
     | cons a l => simp at hlt
    obtain rfl := h3 rfl
    obtain ⟨xa, xn, xc, hxs⟩ := Owns.shape hG
    dsimp only at hxs
    subst hxs
    obtain ⟨g0, g1, _, hb1⟩ := blk2 bx
    obtain ⟨k0, kf, hb2⟩ := blk1 h1
    have hsz := h5.size
    have H1 := hid h1
    have H2 := hid h2
    have H5 := hid h5
    have H6 := hid h6
    have HG := hid hG
    clear h1 h2 h3 h4 h5 h6 hG bx hlt HSEQ
    gi_wp2_with (gi_at_builtin; refine wpListIn_append_own _ rfl _ _ 48 rfl w2.heap.size 44 r0 _ 2 32 Tryz.underlying48 HI0.out HI1.out HI2.out HI3.out rfl (by decide) _ ([] : List RecE).length _ rfl (World.ownsRow.alloc H2.out _) ⟨W.heap.size, 0, none⟩ 1 1 (encR ⟨xk, .slice xa xn xc, xL⟩) rfl rfl (new_cellsR W xk _ xL _) (encR_oneA xk xa xn xc xL) (by decide) (by decide) (by simp; omega) ?_; intro v' w1 hown' hgrow _; obtain ⟨g', cap', rfl⟩ := ownsRow_succ hown'; have hq := blk_grown (blk_alloc H1.out (.cells #[.int .u8 xk, .slice xa xn xc] 44)) hgrow (fun e => by cases e); have hq0 := (blk1 hq).1; have hqf := (blk1 hq).2.1; have hql := (blk1 hq).2.2; have HOWN := hid hown'; have HGR := hid hgrow; clear hown' hgrow; have HQ := hid hq; clear hq)
    have hal : Below W.heap.size W (W.alloc (.cells #[.int .u8 xk, .slice xa xn xc] 44)) := (Below.refl _ _).alloc (Nat.le_refl _) _
    refine ⟨rfl, ((keeps_grown H2.out HGR.out).trans (KeepsOthers.setCell _ _ _)).from _, trivial, ⟨_, blk_set HQ.out 0 _, ?_, (fun h => by cases h)⟩, ?_, ?_, ?_⟩
    ·refine Owns.other (p := ⟨w.heap.size + 1 + 1 + 1, 0, none⟩) ?_ hT3 _
     unfold Owns
     have := HOWN.out
     simpa [List.flatMap_append] using this
    ·intro r hr
     simp only [List.mem_singleton] at hr
     subst hr
     exact Owns.other (p := ⟨w.heap.size + 1 + 1 + 1, 0, none⟩) (Owns.apart (t := 44) (Owns.below HG.out hal) HGR.out (fun r e => by cases e) (by decide)) hT3 _
    ·exact ((H5.out.alloc _).trans (on_grown HGR.out (fun r e h => by cases e))).setCell (fun h => h.2 rfl) _
    ·exact ((H6.out.alloc H6.out.size _).grown HGR.out (Nat.le_trans H6.out.size (by simp)) (fun r e => by cases e)).setCell (p := ⟨w.heap.size + 1 + 1 + 1, 0, none⟩) (by simp; omega) _
   case done =>
    rintro D xs W hD hS ⟨⟨v, h1, h2, _⟩, h4, h5, h6⟩ hDD
    obtain ⟨ra, rn, rc, rfl⟩ := Owns.shape h2
    have F1 := hid ((h5.block _ ⟨hT1, by omega⟩ hT1).trans P1.out)
    have F3 := hid h1
    have F4 := hid ((h5.block _ ⟨hT4, by omega⟩ hT4).trans P4.out)
    have FY := hid ((h5.block _ ⟨hTY, by have := HT10.out; omega⟩ hTY).trans PY.out)
    have FR := hid (HS.out.below h6)
    have FB := hid h6
    have FD := hid hDD
    have FO := hid h2
    have FQ := hid h4
    have FS := hid hS
    have FZ := hid (show w2.heap.size ≤ W.heap.size from h5.size)
    have FG := hid hD
    clear h1 h2 h4 h5 h6 hDD hS hD HSEQ P1 P3 P4 PY M1 M2 M3 M4 HV2 HV3 HV Q1 Q3 Q4 QY hbr
    dsimp only
    go_upto_region 7 with (fail)
    refine wp_region_cut 5 2 (fun _ => True) (by kernel_rfl) (by kernel_rfl) (by kernel_rfl) ?_
    simp only [List.take_succ_cons, List.take_zero]
    refine wpAnyH_grownD (w0 := W.drew) (spL _) (relD [] (KeptT 30) [] KeptE) (aliveD []) (ancD []) (spD (n := 5) (m := 5) (l := [fun z _ => z = .slice ra rn rc, fun z _ => z = .agg #[.int .i64 ep, .int .i64 nx, .slice va L.length vc], fun z _ => z = .pointer (some ⟨T10, 0, none⟩), fun z _ => z = .int .i64 y.id, CloseQ W.heap.size ep nx (keptL ⟨ep, nx, L⟩ (fun x => x.id != y.id))]) (apps := []) (stab := []) (appsE := []) (stabE := []) ⟨stays_eq _, stays_eq _, stays_eq _, stays_eq _, stays_closeQ _ _ _ _, trivial⟩ trivial trivial rfl (by decide) (by decide)) (by kernel_rfl) (by kernel_rfl) (by kernel_rfl) (by kernel_rfl) ?steps7 ?fin7 rfl
    case steps7 =>
     refine ⟨?_, ?_, ?_, ?_, ?_, trivial⟩
     ·intro a' w' hB hdep hoth K hK
      have hK := growB hB hK
      rw [if_pos (guard_none rfl)]
      have hbw : Below W.heap.size W w' := (below_drewN (Below.refl _ _) 1).trans hB
      have t8 := hoth 8 (notDst_at (by kernel_rfl))
      simp only [List.getElem?_toArray, List.getElem?_cons_succ, List.getElem?_cons_zero] at t8
      have q1 : w'.cell? ⟨w.heap.size + 1 + 1 + 1, 0, none⟩ = some (.slice ra rn rc) := blk_cell (blk_below F3.out hbw (blk_lt F3.out)) 0
      have lq := blk_lt (blk_below F3.out hbw (blk_lt F3.out))
      clear hdep hoth
      go_simp
      exact hK _ _ (Below.refl _ _) rfl
     ·intro a' w' hB hdep hoth K hK
      have hK := growB hB hK
      rw [if_pos (guard_none rfl)]
      have hbw : Below W.heap.size W w' := (below_drewN (Below.refl _ _) 1).trans hB
      have t5 := hoth 5 (notDst_at (by kernel_rfl))
      simp only [List.getElem?_toArray, List.getElem?_cons_succ, List.getElem?_cons_zero] at t5
      have hcl := blk_below F1.out hbw (blk_lt F1.out)
      have q1 : w'.cell? ⟨w.heap.size + 1, 0, none⟩ = some (.int .i64 ep) := blk_cell hcl 0
      have q2 : w'.cell? ⟨w.heap.size + 1, 1, none⟩ = some (.int .i64 nx) := blk_cell hcl 1
      have q3 : w'.cell? ⟨w.heap.size + 1, 2, none⟩ = some (.slice va L.length vc) := blk_cell hcl 2
      have lq := blk_lt hcl
      clear hcl
      clear hdep hoth
      go_simp
      exact hK _ _ (Below.refl _ _) rfl
     ·intro a' w' hB hdep hoth K hK
      have hK := growB hB hK
      rw [if_pos (guard_none rfl)]
      have hbw : Below W.heap.size W w' := (below_drewN (Below.refl _ _) 1).trans hB
      have t10 := hoth 10 (notDst_at (by kernel_rfl))
      simp only [List.getElem?_toArray, List.getElem?_cons_succ, List.getElem?_cons_zero] at t10
      clear hdep hoth
      go_simp
      exact hK _ _ (Below.refl _ _) rfl
     ·intro a' w' hB hdep hoth K hK
      have hK := growB hB hK
      rw [if_pos (guard_none rfl)]
      have hbw : Below W.heap.size W w' := (below_drewN (Below.refl _ _) 1).trans hB
      obtain ⟨vx0, gx0, ex0⟩ := hdep ⟨2, .data⟩ (by simp) rfl
      have gx0 := gx0 39 rfl (by simp)
      obtain rfl : vx0 = .pointer (some ⟨T10, 0, none⟩) := ex0
      have q1 : w'.cell? ⟨T10, 0, none⟩ = some (.int .i64 y.id) := blk_cell (blk_below FY.out hbw (blk_lt FY.out)) 0
      have lq := blk_lt (blk_below FY.out hbw (blk_lt FY.out))
      clear hdep hoth
      go_simp
      exact hK _ _ (Below.refl _ _) rfl
     ·intro a' w' hB hdep hoth K hK
      have hK := growB hB hK
      rw [if_pos (guard_none rfl)]
      have hbw : Below W.heap.size W w' := (below_drewN (Below.refl _ _) 1).trans hB
      obtain ⟨v0, q0, e0⟩ := hdep ⟨1, .data⟩ (by simp) rfl
      have q0 := q0 38 rfl (by simp)
      obtain rfl : v0 = .agg #[.int .i64 ep, .int .i64 nx, .slice va L.length vc] := e0
      obtain ⟨v1, q1, e1⟩ := hdep ⟨3, .data⟩ (by simp) rfl
      have q1 := q1 40 rfl (by simp)
      obtain rfl : v1 = .int .i64 y.id := e1
      have HA := hid (close_any ep nx y.id (.slice va L.length vc) L w' hn (FR.out.below hbw))
      clear hdep hoth
      unfold calls at HA
      go_simp
      refine HA.out.mono ?_
      rintro e w'' ⟨v, rfl, ho, hb⟩
      exact hK _ _ hb ⟨v, rfl, Owns.mono ho hbw.size⟩
    case fin7 =>
     intro vs X hB hs
     have hbw : Below W.heap.size W X := (below_drewN (Below.refl _ _) 1).trans hB
     have e0 : vs 0 = .slice ra rn rc := hs 0 (by decide) (by decide)
     obtain ⟨cv, e4, hc⟩ := hs 4 (by decide) (by decide)
     clear hs
     refine cutQ_held (fun _ => True) (fun f => ?_)
     simp only [actOf, dstAt, if_true, List.getElem?_toArray, List.getElem?_cons_succ, List.getElem?_cons_zero, Option.bind_some, Act.put, List.setIfInBounds_toArray, List.set_cons_zero, List.set_cons_succ, List.length_cons, List.length_nil, Nat.reduceAdd]
     rw [e0, e4]
     obtain ⟨ca, cn, cc, rfl⟩ := Owns.shape hc
     have G3 := hid (blk_below F3.out hbw (blk_lt F3.out))
     have G4 := hid (blk_below F4.out hbw (blk_lt F4.out))
     have GD := hid (blk_below FD.out hbw (blk_lt FD.out))
     have GC := hid hc
     have GB := hid (FB.out.trans (hbw.mono FB.out.size))
     have GO := hid (Owns.below FO.out hbw)
     have GQ' := hid (show ∀ r ∈ xs, OwnI X w2.heap.size r.s r.L from fun r hr => Owns.below (FQ.out r hr) hbw)
     obtain ⟨r0, rf, rl⟩ := blk1 G3.out
     have z0 : X.cell? ⟨w.heap.size + 1 + 1 + 1 + 1, 0, none⟩ = some (.int .i64 0) := blk_cell G4.out 0
     have z1 : X.cell? ⟨w.heap.size + 1 + 1 + 1 + 1, 1, none⟩ = some (.int .i64 0) := blk_cell G4.out 1
     have z2 : X.cell? ⟨w.heap.size + 1 + 1 + 1 + 1, 2, none⟩ = some (.slice none 0 0) := blk_cell G4.out 2
     have zf0 : X.frozen? ⟨w.heap.size + 1 + 1 + 1 + 1, 0, none⟩ = false := blk_free G4.out 0
     have zf1 : X.frozen? ⟨w.heap.size + 1 + 1 + 1 + 1, 1, none⟩ = false := blk_free G4.out 1
     have zf2 : X.frozen? ⟨w.heap.size + 1 + 1 + 1 + 1, 2, none⟩ = false := blk_free G4.out 2
     have zl := blk_lt G4.out
     clear hB hbw hc
     unfold calls
     refine wpAnyH_ready (rs := [5]) (by kernel_rfl) (by simp) ?_
     refine AllReadyH.cons rfl (fun K hK => ?_) AllReadyH.nil
     go_simp
     refine hK.out _ _ trivial (fun _ => ?_)
     clear hK K
     refine wpAnyH_ready (rs := [6]) (by kernel_rfl) (by simp) ?_
     refine AllReadyH.cons rfl (fun K hK => ?_) AllReadyH.nil
     go_simp
     refine hK.out _ _ trivial (fun _ => ?_)
     clear hK K
     refine wpAnyH_done (by kernel_rfl) ?_ _
     go_wp2
     obtain ⟨x3, x4, xb⟩ := hear_out G3.out G4.out (by omega) (.slice ra rn rc) (.int .i64 ep) (.int .i64 nx) (.slice ca cn cc) GB.out (by omega) (by omega)
     have d3 : D ≠ w.heap.size + 1 + 1 + 1 := by have := FG.out; omega
     have d4 : D ≠ w.heap.size + 1 + 1 + 1 + 1 := by have := FG.out; omega
     have xd := (other_out d3 d4 (.slice ra rn rc) (.int .i64 ep) (.int .i64 nx) (.slice ca cn cc)).trans GD.out
     have hlD : w.heap.size ≤ D := Nat.le_trans HB4.out.size FG.out
     refine ⟨by simp, .inl ⟨_, _, rfl, run_takeDeferred xd, ?_⟩⟩
     refine ⟨_, res_hear rfl rfl rfl (blk_put x3 xd rfl _) (blk_put x4 xd rfl _), _, _, rfl, ?_, ?_, below_put xb hlD _⟩
     ·rw [HE.out.1]
      exact ⟨xs, FS.out, (owns_out GO.out hT3 hT4 GD.out d3 d4 _ _ _ _).row (fun _ => rfl) (by decide), fun r hr => (owns_out (GQ'.out r hr) hT3 hT4 GD.out d3 d4 _ _ _ _).row (fun _ => rfl) (by decide)⟩
     ·rw [HE.out.2]
      exact (owns_out (Owns.mono GC.out FZ.out) hT3 hT4 GD.out d3 d4 _ _ _ _).row (fun _ => rfl) (by decide)
end Go.Proofs.YthhgpiolcnojfaaGreatDoor
