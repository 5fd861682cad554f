import Derived.Test.YtgcajfglidflnaaGreatDoorEqm
import Derived.BigQuiet
import Derived.Test.YtgcajfglidflnaaGreatDoorGrr
import Derived.OrdersIn
import Derived.Test.YtgcajfglidflnaaGreatDoorClm
import Derived.Test.YtgcajfglidflnaaGreatDoorVd
import Derived.OwnWalkIn
/- slices.Equal of ints, Intents, Kepts. Printed by gn_eqs.py. -/
namespace Go.Proofs.YtgcajfglidflnaaGreatDoor
open Go.RowKit Go.Shelf

theorem decl_at {α : Type} [DecidableEq α] {L M : List α} {k : Nat} {x y : α} (hx : L[k]? = some x) (hy : M[k]? = some y) (h : ¬ x = y) : decide (L = M) = false := by
 apply decide_eq_false
 rintro rfl
 rw [hx] at hy
 exact h (by simpa using hy)
set_option maxHeartbeats 1000000 in
set_option maxRecDepth 100000 in
theorem equalI_any (s t : Value) (L M : List Int) (q : Bool) (hq : decide (L = M) = q) (w : World) (hs : RowOf 1 encI w s L) (ht : RowOf 1 encI w t M) :
  Calls Tryz.prog 61 #[s, t] w fun e w' => e = .returned (.bool q) ∧ Below w.heap.size w w' := by
 obtain ⟨a, c, rfl, hl1, hl2, hl3, hop⟩ := hs.open
 obtain ⟨b, d, rfl, hm1, hm2, hm3, hoq⟩ := ht.open
 have HOP := hid hop
 have HOQ := hid hoq
 have HQ := hid hq
 clear hop hoq hs ht hq
 by_cases hlen : L.length = M.length
 ·have HLEN := hid hlen
  rw [← hlen]
  clear hlen
  have hlm : M.length ≤ L.length ∧ L.length ≤ M.length := by have := HLEN.out; omega
  go_enter Tryz.func61, Tryz.ntmps61
  go_wp2
  go_loopw [13] (fun i wr => ∃ k : Nat, k ≤ L.length ∧ i = .int .i64 k ∧ L.take k = M.take k ∧ Below w.heap.size w wr) (fun i _ => L.length - (intOf i).toNat)
  case atStart => exact ⟨0, Nat.zero_le _, rfl, rfl, Below.refl _ _⟩
  case round =>
   obtain ⟨k, hk, rfl, htk, hB⟩ := hrel
   have HT := hid htk
   have HBr := hid hB
   clear htk hB
   by_cases hlt : k < L.length
   ·obtain ⟨b1, o1, rfl, hb1, hr1⟩ := HOP.out (by omega)
    obtain ⟨b2, o2, rfl, hb2, hr2⟩ := HOQ.out (by omega)
    obtain ⟨x, hx⟩ := get_lt hlt
    obtain ⟨y, hy⟩ := get_lt (show k < M.length by omega)
    have g0 := rowN1 (hr1.below HBr.out hb1) hx
    have h0 := rowN1 (hr2.below HBr.out hb2) hy
    have l1 : b1 < wr.heap.size := Nat.lt_of_lt_of_le hb1 HBr.out.size
    have l2 : b2 < wr.heap.size := Nat.lt_of_lt_of_le hb2 HBr.out.size
    have HX := hid hx
    have HY := hid hy
    have HS := hid (take_snoc L k x hx)
    have HS' := hid (take_snoc M k y hy)
    have hkL : (k : Int) < (L.length : Int) := by omega
    have hkM : (k : Int) < (M.length : Int) := by omega
    clear hx hy hr1 hr2
    by_cases hxy : x = y
    ·have HXY := hid hxy
     have d1 : (x != y) = false := by simpa using hxy
     clear hxy
     go_wp2
     go_quiet (fail)
     go_wp2
     go_roundw
     case rel => exact ⟨k + 1, by omega, by go_num, by rw [HS.out, HS'.out, HT.out, HXY.out], below_drewN HBr.out _⟩
     case measure => simp [intOf]; omega
    ·have HXY := hid hxy
     have d1 : (x != y) = true := by simpa using hxy
     clear hxy
     obtain rfl : q = false := by rw [← HQ.out]; exact decl_at HX.out HY.out HXY.out
     go_wp2
     go_quiet (fail)
     go_wp2
     go_ret
     exact ⟨rfl, below_drewN HBr.out _⟩
   ·obtain rfl : k = L.length := by omega
    obtain rfl : q = true := by
     rw [← HQ.out]
     apply decide_eq_true
     have := HT.out
     rw [List.take_length, HLEN.out, List.take_length] at this
     exact this
    go_wp2
    go_ret
    exact ⟨rfl, HBr.out⟩
 ·have hz : ((L.length : Int) != (M.length : Int)) = true := by rw [bne_iff_ne]; omega
  obtain rfl : q = false := by rw [← HQ.out]; exact decide_eq_false (fun h => hlen (by rw [h]))
  have HN := hid hlen
  clear hlen
  go_enter Tryz.func61, Tryz.ntmps61
  go_wp2
  go_ret
  exact ⟨rfl, Below.refl _ _⟩
set_option maxHeartbeats 1000000 in
set_option maxRecDepth 100000 in
theorem equalN_any (s t : Value) (L M : List IntentV) (q : Bool) (hq : decide (L = M) = q) (w : World) (hs : RowOf 4 encIn w s L) (ht : RowOf 4 encIn w t M) :
  Calls Tryz.prog 46 #[s, t] w fun e w' => e = .returned (.bool q) ∧ Below w.heap.size w w' := by
 obtain ⟨a, c, rfl, hl1, hl2, hl3, hop⟩ := hs.open
 obtain ⟨b, d, rfl, hm1, hm2, hm3, hoq⟩ := ht.open
 have HOP := hid hop
 have HOQ := hid hoq
 have HQ := hid hq
 clear hop hoq hs ht hq
 by_cases hlen : L.length = M.length
 ·have HLEN := hid hlen
  rw [← hlen]
  clear hlen
  have hlm : M.length ≤ L.length ∧ L.length ≤ M.length := by have := HLEN.out; omega
  go_enter Tryz.func46, Tryz.ntmps46
  go_wp2
  go_loopw [13] (fun i wr => ∃ k : Nat, k ≤ L.length ∧ i = .int .i64 k ∧ L.take k = M.take k ∧ Below w.heap.size w wr) (fun i _ => L.length - (intOf i).toNat)
  case atStart => exact ⟨0, Nat.zero_le _, rfl, rfl, Below.refl _ _⟩
  case round =>
   obtain ⟨k, hk, rfl, htk, hB⟩ := hrel
   have HT := hid htk
   have HBr := hid hB
   clear htk hB
   by_cases hlt : k < L.length
   ·obtain ⟨b1, o1, rfl, hb1, hr1⟩ := HOP.out (by omega)
    obtain ⟨b2, o2, rfl, hb2, hr2⟩ := HOQ.out (by omega)
    obtain ⟨x, hx⟩ := get_lt hlt
    obtain ⟨y, hy⟩ := get_lt (show k < M.length by omega)
    obtain ⟨g0, g1, g2, g3⟩ := rowI (hr1.below HBr.out hb1) hx
    obtain ⟨h0, h1, h2, h3⟩ := rowI (hr2.below HBr.out hb2) hy
    have l1 : b1 < wr.heap.size := Nat.lt_of_lt_of_le hb1 HBr.out.size
    have l2 : b2 < wr.heap.size := Nat.lt_of_lt_of_le hb2 HBr.out.size
    have HX := hid hx
    have HY := hid hy
    have HS := hid (take_snoc L k x hx)
    have HS' := hid (take_snoc M k y hy)
    have hkL : (k : Int) < (L.length : Int) := by omega
    have hkM : (k : Int) < (M.length : Int) := by omega
    clear hx hy hr1 hr2
    have hne := neqinE_run x y
    by_cases hxy : x = y
    ·have HXY := hid hxy
     rw [inEB_iff.2 hxy] at hne
     clear hxy
     go_wp2
     go_quiet (fail)
     go_wp2
     go_roundw
     case rel => exact ⟨k + 1, by omega, by go_num, by rw [HS.out, HS'.out, HT.out, HXY.out], below_drewN HBr.out _⟩
     case measure => simp [intOf]; omega
    ·have HXY := hid hxy
     rw [show inEB x y = false from Bool.eq_false_iff.2 fun h => hxy (inEB_iff.1 h)] at hne
     clear hxy
     obtain rfl : q = false := by rw [← HQ.out]; exact decl_at HX.out HY.out HXY.out
     go_wp2
     go_quiet (fail)
     go_wp2
     go_ret
     exact ⟨rfl, below_drewN HBr.out _⟩
   ·obtain rfl : k = L.length := by omega
    obtain rfl : q = true := by
     rw [← HQ.out]
     apply decide_eq_true
     have := HT.out
     rw [List.take_length, HLEN.out, List.take_length] at this
     exact this
    go_wp2
    go_ret
    exact ⟨rfl, HBr.out⟩
 ·have hz : ((L.length : Int) != (M.length : Int)) = true := by rw [bne_iff_ne]; omega
  obtain rfl : q = false := by rw [← HQ.out]; exact decide_eq_false (fun h => hlen (by rw [h]))
  have HN := hid hlen
  clear hlen
  go_enter Tryz.func46, Tryz.ntmps46
  go_wp2
  go_ret
  exact ⟨rfl, Below.refl _ _⟩
set_option maxHeartbeats 1000000 in
set_option maxRecDepth 100000 in
theorem equalK_any (s t : Value) (L M : List KeptV) (q : Bool) (hq : decide (L = M) = q) (w : World) (hs : RowOf 8 encKp w s L) (ht : RowOf 8 encKp w t M) :
  Calls Tryz.prog 47 #[s, t] w fun e w' => e = .returned (.bool q) ∧ Below w.heap.size w w' := by
 obtain ⟨a, c, rfl, hl1, hl2, hl3, hop⟩ := hs.open
 obtain ⟨b, d, rfl, hm1, hm2, hm3, hoq⟩ := ht.open
 have HOP := hid hop
 have HOQ := hid hoq
 have HQ := hid hq
 clear hop hoq hs ht hq
 by_cases hlen : L.length = M.length
 ·have HLEN := hid hlen
  rw [← hlen]
  clear hlen
  have hlm : M.length ≤ L.length ∧ L.length ≤ M.length := by have := HLEN.out; omega
  go_enter Tryz.func47, Tryz.ntmps47
  go_wp2
  go_loopw [13] (fun i wr => ∃ k : Nat, k ≤ L.length ∧ i = .int .i64 k ∧ L.take k = M.take k ∧ Below w.heap.size w wr) (fun i _ => L.length - (intOf i).toNat)
  case atStart => exact ⟨0, Nat.zero_le _, rfl, rfl, Below.refl _ _⟩
  case round =>
   obtain ⟨k, hk, rfl, htk, hB⟩ := hrel
   have HT := hid htk
   have HBr := hid hB
   clear htk hB
   by_cases hlt : k < L.length
   ·obtain ⟨b1, o1, rfl, hb1, hr1⟩ := HOP.out (by omega)
    obtain ⟨b2, o2, rfl, hb2, hr2⟩ := HOQ.out (by omega)
    obtain ⟨x, hx⟩ := get_lt hlt
    obtain ⟨y, hy⟩ := get_lt (show k < M.length by omega)
    obtain ⟨g0, g1, g2, g3, g4, g5, g6, g7⟩ := rowK (hr1.below HBr.out hb1) hx
    obtain ⟨h0, h1, h2, h3, h4, h5, h6, h7⟩ := rowK (hr2.below HBr.out hb2) hy
    have l1 : b1 < wr.heap.size := Nat.lt_of_lt_of_le hb1 HBr.out.size
    have l2 : b2 < wr.heap.size := Nat.lt_of_lt_of_le hb2 HBr.out.size
    have HX := hid hx
    have HY := hid hy
    have HS := hid (take_snoc L k x hx)
    have HS' := hid (take_snoc M k y hy)
    have hkL : (k : Int) < (L.length : Int) := by omega
    have hkM : (k : Int) < (M.length : Int) := by omega
    clear hx hy hr1 hr2
    have hne := neqkpE_run x y
    by_cases hxy : x = y
    ·have HXY := hid hxy
     rw [kpEB_iff.2 hxy] at hne
     clear hxy
     go_wp2
     go_quiet (fail)
     go_wp2
     go_roundw
     case rel => exact ⟨k + 1, by omega, by go_num, by rw [HS.out, HS'.out, HT.out, HXY.out], below_drewN HBr.out _⟩
     case measure => simp [intOf]; omega
    ·have HXY := hid hxy
     rw [show kpEB x y = false from Bool.eq_false_iff.2 fun h => hxy (kpEB_iff.1 h)] at hne
     clear hxy
     obtain rfl : q = false := by rw [← HQ.out]; exact decl_at HX.out HY.out HXY.out
     go_wp2
     go_quiet (fail)
     go_wp2
     go_ret
     exact ⟨rfl, below_drewN HBr.out _⟩
   ·obtain rfl : k = L.length := by omega
    obtain rfl : q = true := by
     rw [← HQ.out]
     apply decide_eq_true
     have := HT.out
     rw [List.take_length, HLEN.out, List.take_length] at this
     exact this
    go_wp2
    go_ret
    exact ⟨rfl, HBr.out⟩
 ·have hz : ((L.length : Int) != (M.length : Int)) = true := by rw [bne_iff_ne]; omega
  obtain rfl : q = false := by rw [← HQ.out]; exact decide_eq_false (fun h => hlen (by rw [h]))
  have HN := hid hlen
  clear hlen
  go_enter Tryz.func47, Tryz.ntmps47
  go_wp2
  go_ret
  exact ⟨rfl, Below.refl _ _⟩
end Go.Proofs.YtgcajfglidflnaaGreatDoor

/- A region of a round's body that reads and then stores once: whatever order it comes up in, one walk an operation. -/
namespace Go
open RowKit Shelf
section
variable {F : Fence} {n : Nat} {P : Program} {ops : Array Oper} {Q : Exit → Act → World → Prop}

/-- What is to be shown of one operation that reads: it gives its value, the world stands still. -/
def QuietStepIn (F : Fence) (n : Nat) (P : Program) (ops : Array Oper) (Q : Exit → Act → World → Prop) (a0 : Act) (W : World) (vs : Nat → Value) (i : Nat) (o : Oper) : Prop :=
 ∀ a : Act, (∀ e ∈ o.after, Region.binds .any e = true → ∀ d, dstAt ops e.on = some d → d < a0.tmps.size → a.tmps[d]? = some (vs e.on)) →
  (∀ t, (∀ j, j < ops.size → dstAt ops j ≠ some t) → a.tmps[t]? = a0.tmps[t]?) →
  ∀ K : Act → World → Prop, K (a.put o.dst (vs i)) W → if Region.wanted o (yielded ops a.tmps) = true then o.wpIn F n P a W K Q else (∀ f, o.about P W a.eval = some f → F.fn f) ∧ K (a.put o.dst undef) W

theorem getD_all {m : Nat} {lp : Array Bool} (hl : lp.size = m) (hall : ∀ j, j < m → lp.getD j false = true) {i : Nat} (hi : i < m) : lp.getD i true = true := by
 have := hall i hi
 have hil : i < lp.size := by omega
 simp only [Array.getD, hil, dif_pos] at this ⊢
 exact this
theorem wpAnyIn_last (a0 : Act) (W : World) (vs : Nat → Value) (m : Nat) (hm : ops.size = m + 1) (hp : lowOps ops = true)
  (hlast : ∀ K : Act → World → Prop, (∀ a w, Q .normal a w → K a w) → wpOpIn F n P ops Q m K (actOf ops vs (fun _ => true) a0 m) W)
  (fuel : Nat) (lp : Array Bool) (hl : lp.size = m) (hall : ∀ j, j < m → lp.getD j false = true) :
  wpAnyIn F n P .any ops Q (fuel + 1) (lp ++ Array.replicate 1 false) (actOf ops vs (fun j => lp.getD j false) a0 m) W := by
 have hlt : ∀ {i : Nat} {b : Array Bool}, i ∈ Region.ready .any ops b → i < m + 1 := fun h => by
  obtain ⟨_, o, ho, _⟩ := mem_ready.1 h
  have := (Array.getElem?_eq_some_iff.1 ho).1
  omega
 have hfr : ∀ i, i < m → (lp ++ Array.replicate 1 false).getD i true = true := fun i hi => by rw [getD_front hl true hi]; exact getD_all hl hall hi
 refine ⟨fun hr => ?_, fun i hi => ?_⟩
 ·have := all_listedG hp (by simp [hl, hm]) hr m (by omega)
  exfalso
  rw [Array.getD_eq_getD_getElem?, Array.getElem?_append_right (by omega)] at this
  simp [hl] at this
 ·have him : i = m := by
   have h1 := hlt hi
   rcases Nat.lt_or_ge i m with h | h
   ·have h0 := (mem_ready.1 hi).1
    rw [hfr i h] at h0
    cases h0
   ·omega
  subst him
  rw [actOf_congr (l' := fun _ => true) (vs' := vs) fun j hj => ⟨hall j hj, fun _ => rfl⟩]
  refine hlast _ fun a w q => ?_
  have hr : Region.ready .any ops ((lp ++ Array.replicate 1 false).setIfInBounds i true) = [] := by
   refine List.eq_nil_iff_forall_not_mem.2 fun k hk => ?_
   have h0 := (mem_ready.1 hk).1
   have h1 := hlt hk
   by_cases hki : k = i
   ·subst hki
    simp [Array.getD, hl] at h0
   ·have hne : i ≠ k := fun e => hki e.symm
    rw [getD_set_ne true hne, hfr k (by omega)] at h0
    cases h0
  cases fuel with
  | zero => exact ⟨hr, q⟩
  | succ f => exact ⟨fun _ => q, fun j hj => by rw [hr] at hj; cases hj⟩
theorem wpAnyIn_store (a0 : Act) (W : World) (vs : Nat → Value) (m : Nat) (hm : ops.size = m + 1) (hc : cuts ops m = true) (hd : apartDst ops = true) (hp : lowOps ops = true)
  (hstep : ∀ i o, i < m → ops[i]? = some o → QuietStepIn F n P ops Q a0 W vs i o)
  (hlast : ∀ K : Act → World → Prop, (∀ a w, Q .normal a w → K a w) → wpOpIn F n P ops Q m K (actOf ops vs (fun _ => true) a0 m) W) :
  ∀ (fuel : Nat) (lp : Array Bool), lp.size = m → downTo ops m lp → left m (fun j => lp.getD j false) ≤ fuel →
   wpAnyIn F n P .any ops Q (fuel + 1) (lp ++ Array.replicate 1 false) (actOf ops vs (fun j => lp.getD j false) a0 m) W := by
 intro fuel
 induction fuel with
 | zero =>
  intro lp hl hdn hle
  exact wpAnyIn_last a0 W vs m hm hp hlast 0 lp hl (left_none (Nat.le_zero.1 hle))
 | succ fuel ih =>
  intro lp hl hdn hle
  by_cases hall : ∀ j, j < m → lp.getD j false = true
  ·exact wpAnyIn_last a0 W vs m hm hp hlast _ lp hl hall
  refine ⟨fun hr => ?_, fun i hi => ?_⟩
  ·have := all_listedG hp (by simp [hl, hm]) hr m (by omega)
   exfalso
   rw [Array.getD_eq_getD_getElem?, Array.getElem?_append_right (by omega)] at this
   simp [hl] at this
  ·rcases cut_ready (pre := ops) (fun _ _ => rfl) hc hl hdn hi with ⟨him, _⟩ | h
   ·obtain ⟨h0, o, ho, hof⟩ := mem_ready.1 hi
    have hil : i < lp.size := by omega
    rw [getD_front hl true him] at h0
    have hli : lp.getD i false = false := by simp only [Array.getD, hil, dif_pos] at h0 ⊢; exact h0
    have hdi : dstAt ops i = o.dst := by unfold dstAt; rw [ho]; rfl
    have hlow := lowOps_at hp ho
    have hset : ∀ j, (lp.setIfInBounds i true).getD j false = (j == i || lp.getD j false) := by
     intro j
     by_cases h : j = i
     ·subst h; simp [hil]
     ·have : i ≠ j := fun e => h e.symm
      have hb : (j == i) = false := by simpa using h
      rw [getD_set_ne false this, hb, Bool.false_or]
    have hsetA : (lp ++ Array.replicate 1 false).setIfInBounds i true = lp.setIfInBounds i true ++ Array.replicate 1 false := by
     rw [Array.setIfInBounds_append_left (by omega)]
    have hof' : ∀ e ∈ o.after, Region.binds .any e = true → lp.getD e.on false = true := fun e he hb => by
     have := hof e he hb
     rw [getD_front hl false (by have := hlow e he hb; omega)] at this
     exact this
    have hd' : downTo ops m (lp.setIfInBounds i true) := by
     intro k o' hk ho' ht e he hb
     by_cases hik : i = k
     ·subst hik
      rw [ho] at ho'
      cases ho'
      exact getD_set_true (hof' e he hb)
     ·rw [getD_set_ne false hik] at ht
      exact getD_set_true (hdn k o' hk ho' ht e he hb)
    unfold wpOpIn
    simp only [ho]
    refine hstep i o him ho _ (fun e he hb d hd' hds => actOf_at hd hd' (hof' e he hb) hds (by have := hlow e he hb; omega) (by omega)) (fun t ht => actOf_other fun j hj => ht j (by omega)) _ ?_
    rw [← hdi, actOf_put hd (vs i) hli him (by omega), hsetA]
    have hcg := actOf_congr (ops := ops) (a := a0) (vs := fun j => if j = i then vs i else vs j) (vs' := vs) (l := fun j => j == i || lp.getD j false) (l' := fun j => (lp.setIfInBounds i true).getD j false) (m := m) fun j _ => ⟨(hset j).symm, fun _ => by by_cases h : j = i <;> simp [h]⟩
    rw [hcg]
    refine ih _ (by simp [hl]) hd' ?_
    have := left_less (m := m) (l := fun j => lp.getD j false) (l' := fun j => (lp.setIfInBounds i true).getD j false) him hli hset
    omega
   ·exact absurd h hall
/-- Values by their places. -/
def spV (l : List Value) (i : Nat) : Value := l.getD i undef
/-- The whole region, in a round. -/
theorem wpIn_region_store {id : Nat} {a : Act} {w : World} {l : List Oper} (vs : Nat → Value) (m : Nat) (V : World) (hV : V = w.drew) (hf : P.follows .mixedOrders = true) (hm : l.length = m + 1) (hc : cuts l.toArray m = true) (hd : apartDst l.toArray = true) (hp : lowOps l.toArray = true)
  (hstep : AllAt (fun i o => i < m → QuietStepIn F n P l.toArray Q a V vs i o) 0 l)
  (hlast : ∀ K : Act → World → Prop, (∀ a w, Q .normal a w → K a w) → wpOpIn F n P l.toArray Q m K (actOf l.toArray vs (fun _ => true) a m) V) : (Code.region id l.toArray true).wpIn F n P Q a w := by
 refine wpIn_region_any hf ?_
 subst hV
 have h := wpAnyIn_store (F := F) (n := n) (P := P) a w.drew vs m (by simpa using hm) hc hd hp (fun i o hi ho => by have := hstep.at i o (by simpa using ho); rw [Nat.zero_add] at this; exact this hi) hlast m (Array.replicate m false) (by simp) (fun k o hk _ ht => by simp [hk] at ht) (by unfold left; exact Nat.le_trans (List.length_filter_le _ _) (by simp))
 have e : ∀ k, actOf l.toArray vs (fun j => (Array.replicate m false).getD j false) a k = a := by
  intro k
  induction k with
  | zero => rfl
  | succ k ih =>
   unfold actOf
   rw [if_neg (by simp [Array.getD]), ih]
 rw [e] at h
 have e2 : Array.replicate m false ++ Array.replicate 1 false = Array.replicate l.toArray.size false := by
  rw [Array.replicate_append_replicate]; simp [hm]
 rw [e2] at h
 have hs : l.toArray.size = m + 1 := by simpa using hm
 rw [hs] at h ⊢
 exact h
end
end Go

/- conf.Same: are groups the same? Printed by gn_csm.py. -/
namespace Go.Proofs.YtgcajfglidflnaaGreatDoor
open Go.RowKit Go.Shelf
attribute [-go_sem] loadVar Builtin.append_
attribute [local go_sem] load_other2
attribute [local go_sem] Oper.semAt_some

/-- Between two rounds of the first loop: the numbers that were taken. -/
structure CsI (f f' : Nat → Int) (g g' : Bool) (m1 m2 : Value) (w : World) (T5 T6 B0 : Nat) (s0 : Bool) (pre : List (Fin 13)) (v : Value) (W : World) : Prop where
 ba : W.heap[w.heap.size]? = some (.cells (confA f g m1) 27)
 bb : W.heap[w.heap.size + 1]? = some (.cells (confA f' g' m2) 27)
 b5 : W.heap[T5]? = some (.cells #[.bool s0] 4)
 b6 : W.heap[T6]? = some (.cells #[v] 25)
 own : OwnI W B0 v (pre.map fun x => f x.val)
 bel : Below w.heap.size w W
 sz : B0 ≤ W.heap.size
section
variable {f f' : Nat → Int} {g g' : Bool} {m1 m2 : Value} {w : World} {T5 T6 B0 : Nat} {s0 : Bool}
def CsJ (f f' : Nat → Int) (g g' : Bool) (m1 m2 : Value) (w : World) (T5 T6 B0 : Nat) (s0 : Bool) (pre : List (Fin 13)) (W : World) : Prop := ∃ v, CsI f f' g g' m1 m2 w T5 T6 B0 s0 pre v W
theorem CsI.grown {B : Nat} {pre : List (Fin 13)} {v : Value} {W W' : World} {row : Option Nat} (h : CsI f f' g g' m1 m2 w T5 T6 B0 s0 pre v W) (hB : w.heap.size ≤ B) (hg : W.grownBy W' row) (hr : ∀ r, row = some r → B ≤ r ∧ ∃ o : Obj, W.heap[r]? = some o ∧ o.isCells = false) : CsI f f' g g' m1 m2 w T5 T6 B0 s0 pre v W' :=
 ⟨own_blk h.ba hg (fun r e => (hr r e).2), own_blk h.bb hg (fun r e => (hr r e).2), own_blk h.b5 hg (fun r e => (hr r e).2), own_blk h.b6 hg (fun r e => (hr r e).2), Owns.own h.own hg (fun r e => (hr r e).2), h.bel.grown hg h.bel.size (fun k e => Nat.le_trans hB (hr k e).1), Nat.le_trans h.sz hg.size⟩
theorem CsJ.own {B : Nat} (hB : w.heap.size ≤ B) : OwnFrom B (CsJ f f' g g' m1 m2 w T5 T6 B0 s0) := by
 rintro pre W W' row ⟨v, h⟩ hg hr
 exact ⟨v, h.grown hB hg hr⟩
/-- .. of the second loop: what was held against each other. -/
def CsK (f f' : Nat → Int) (g g' : Bool) (m1 m2 : Value) (w : World) (T5 T6 B0 : Nat) (s0 : Bool) (v : Value) (pre : List (Fin 13)) (W : World) : Prop := CsI f f' g g' m1 m2 w T5 T6 B0 (s0 && pre.all fun x => f x.val == f' x.val) (List.finRange 13) v W
theorem CsK.own {v : Value} {B : Nat} (hB : w.heap.size ≤ B) : OwnFrom B (CsK f f' g g' m1 m2 w T5 T6 B0 s0 v) := by
 rintro pre W W' row h hg hr
 exact CsI.grown h hB hg hr
theorem CsI.below {pre : List (Fin 13)} {v : Value} {W W' : World} (h : CsI f f' g g' m1 m2 w T5 T6 B0 s0 pre v W) (hb : Below W.heap.size W W') : CsI f f' g g' m1 m2 w T5 T6 B0 s0 pre v W' :=
 ⟨blk_below h.ba hb (blk_lt h.ba), blk_below h.bb hb (blk_lt h.bb), blk_below h.b5 hb (blk_lt h.b5), blk_below h.b6 hb (blk_lt h.b6), Owns.below h.own hb, h.bel.trans (hb.mono h.bel.size), Nat.le_trans h.sz hb.size⟩
theorem On.of_grown {S : Nat → Prop} {W W' : World} {row : Option Nat} (hg : W.grownBy W' row) (hr : ∀ r, row = some r → ¬ S r) : On S W W' :=
 ⟨hg.size, fun k hk hl => hg.block k hl (fun e => hr k e.symm hk)⟩
theorem keeps_owns {α : Type} {k : Nat} {e : TypeId} {enc : α → List Value} {W W' : World} {base : Nat} {v : Value} {l : List α} (h : Owns k e enc W base v l) (hg : W.grownBy W' v.ownBlock) : KeepsOthers W W' :=
 KeepsOthers.of_grownBy hg fun j o hj ho => by
  obtain ⟨c, hc⟩ := Owns.typed h j hj
  rw [hc] at ho
  cases ho
  rfl
/-- The first loop's round: a number behind the others. -/
theorem CsI.next {pre : List (Fin 13)} {x : Fin 13} {va : Option Addr} {vn vc : Nat} {xv : Value} {W W5 w' : World} (h : CsI f f' g g' m1 m2 w T5 T6 B0 s0 pre (.slice va vn vc) W) (h5 : Below W.heap.size W W5) (r1 : OwnI w' B0 xv (pre.map (fun x => f x.val) ++ [f x.val])) (r2 : W5.grownBy w' (Value.slice va vn vc).ownBlock) (hT : T6 < B0) (hT5 : T5 ≠ T6) (hw : w.heap.size + 1 < T6) :
  CsI f f' g g' m1 m2 w T5 T6 B0 s0 (pre ++ [x]) xv (w'.setCell ⟨T6, 0, none⟩ xv) := by
 have h' := h.below h5
 have hty := Owns.typed h'.own
 have ne : ∀ {b : Nat} {c : Array Value} {t : TypeId}, W5.heap[b]? = some (.cells c t) → t ≠ 3 → some b ≠ (Value.slice va vn vc).ownBlock := fun hb ht e => by
  obtain ⟨c', hc'⟩ := hty _ e.symm
  rw [hb] at hc'
  cases hc'
  exact ht rfl
 have g6 := blk_grown h'.b6 r2 (ne h'.b6 (by decide))
 refine ⟨?_, ?_, ?_, ?_, ?_, ?_, ?_⟩
 ·exact blk_other (blk_grown h'.ba r2 (ne h'.ba (by decide))) (p := ⟨T6, 0, none⟩) (by dsimp only; omega) _
 ·exact blk_other (blk_grown h'.bb r2 (ne h'.bb (by decide))) (p := ⟨T6, 0, none⟩) (by dsimp only; omega) _
 ·exact blk_other (blk_grown h'.b5 r2 (ne h'.b5 (by decide))) (p := ⟨T6, 0, none⟩) hT5 _
 ·exact blk_set g6 0 _
 ·rw [List.map_append, List.map_singleton]
  exact owns_at r1 g6 (by decide) 0 _
 ·exact (h'.bel.grown r2 h'.bel.size (fun k e => Nat.le_trans (Nat.le_of_lt (by omega)) (Owns.block h'.own k e).1)).setCell (p := ⟨T6, 0, none⟩) (by dsimp only; omega) _
 ·have := r2.size
  have := h'.sz
  simp [World.setCell]
  omega
def CsA (f f' : Nat → Int) (g g' : Bool) (m1 m2 : Value) (w : World) (T5 T6 : Nat) (x : Fin 13) (a' : Act) (_ : World) : Prop :=
 ∃ (u7 u9 u10 u11 u12 u13 u14 u15 u16 u17 u18 u19 u20 u21 u22 u23 u24 u25 u26 u27 u28 u29 u30 u31 u32 u33 u34 u35 u36 u37 u38 u39 u40 u41 u42 u43 u44 u45 u46 : Value), a' = { tmps := #[.agg (confA f g m1), .agg (confA f' g' m2), .pointer (some ⟨w.heap.size, 0, none⟩), .pointer (some ⟨w.heap.size + 1, 0, none⟩), .bool false, .pointer (some ⟨T5, 0, none⟩), .pointer (some ⟨T6, 0, none⟩), u7, .pointer (some ⟨w.heap.size, x.val, none⟩), u9, u10, u11, u12, u13, u14, u15, u16, u17, u18, u19, u20, u21, u22, u23, u24, u25, u26, u27, u28, u29, u30, u31, u32, u33, u34, u35, u36, u37, u38, u39, u40, u41, u42, u43, u44, u45, u46], defers := [] }
def CsB (f f' : Nat → Int) (g g' : Bool) (m1 m2 : Value) (w : World) (T5 T6 : Nat) (x : Fin 13) (a' : Act) (_ : World) : Prop :=
 ∃ (u7 u8 u11 u12 u13 u14 u15 u16 u17 u18 u19 u20 u21 u22 u23 u24 u25 u26 u27 u28 u29 u30 u31 u32 u33 u34 u35 u36 u37 u38 u39 u40 u41 u42 u43 u44 u45 u46 : Value), a' = { tmps := #[.agg (confA f g m1), .agg (confA f' g' m2), .pointer (some ⟨w.heap.size, 0, none⟩), .pointer (some ⟨w.heap.size + 1, 0, none⟩), .bool false, .pointer (some ⟨T5, 0, none⟩), .pointer (some ⟨T6, 0, none⟩), u7, u8, .int .i64 (x.val : Nat), .pointer (some ⟨w.heap.size + 1, x.val, none⟩), u11, u12, u13, u14, u15, u16, u17, u18, u19, u20, u21, u22, u23, u24, u25, u26, u27, u28, u29, u30, u31, u32, u33, u34, u35, u36, u37, u38, u39, u40, u41, u42, u43, u44, u45, u46], defers := [] }
theorem CsA.own {B : Nat} (x : Fin 13) (a' : Act) : OwnFrom B (fun (_ : Unit) W => CsA f f' g g' m1 m2 w T5 T6 x a' W) := by
 rintro _ W W' row h _ _
 exact h
theorem CsB.own {B : Nat} (x : Fin 13) (a' : Act) : OwnFrom B (fun (_ : Unit) W => CsB f f' g g' m1 m2 w T5 T6 x a' W) := by
 rintro _ W W' row h _ _
 exact h
theorem confA_at (f : Nat → Int) (g : Bool) (m : Value) {x : Nat} (hx : x < 13) : (confA f g m)[x]? = some (.int .i64 (f x)) := by
 unfold confA
 have h13 : x = 0 ∨ x = 1 ∨ x = 2 ∨ x = 3 ∨ x = 4 ∨ x = 5 ∨ x = 6 ∨ x = 7 ∨ x = 8 ∨ x = 9 ∨ x = 10 ∨ x = 11 ∨ x = 12 := by omega
 rcases h13 with rfl | rfl | rfl | rfl | rfl | rfl | rfl | rfl | rfl | rfl | rfl | rfl | rfl <;> rfl
theorem all13 : ((List.finRange 13).all fun x => f x.val == f' x.val) = eq13 f f' := by
 rw [Bool.eq_iff_iff, eq13_iff, List.all_eq_true]
 simp only [beq_iff_eq]
 exact ⟨fun h i hi => h ⟨i, hi⟩ (List.mem_finRange _), fun h x _ => h x.val x.isLt⟩
end
set_option maxRecDepth 100000 in
set_option maxHeartbeats 4000000 in
theorem csame_any (f f' : Nat → Int) (g g' : Bool) (m1 m2 : Value) (M M' : List Int) (r : Bool) (hr : sameC f g M f' g' M' = r) (w : World) (h1 : RowOf 1 encI w m1 M) (h2 : RowOf 1 encI w m2 M') :
  Calls Tryz.prog 45 #[.agg (confA f g m1), .agg (confA f' g' m2)] w fun e w' => e = .returned (.bool r) ∧ Below w.heap.size w w' := by
 have hmf := mkfunc
 obtain ⟨i0, hi0, hi1, hi2, hi3⟩ := info_parts infoI
 have HI0 := hid hi0
 have HI1 := hid hi1
 have HI2 := hid hi2
 have HI3 := hid hi3
 clear hi0 hi1 hi2 hi3
 have HRR := hid hr
 obtain ⟨W2, hW2⟩ : ∃ W2, W2 = (w.alloc (.cells (confA f g m1) 27)).alloc (.cells (confA f' g' m2) 27) := ⟨_, rfl⟩
 have hB2 : Below w.heap.size w W2 := by rw [hW2]; exact ((Below.refl _ _).alloc (Nat.le_refl _) _).alloc (by simp) _
 have b0 : W2.heap[w.heap.size]? = some (.cells (confA f g m1) 27) := by rw [hW2]; exact blk_alloc (heap_new _ _) _
 have b1 : W2.heap[w.heap.size + 1]? = some (.cells (confA f' g' m2) 27) := by rw [hW2]; exact heap_new2 _ _ _
 have HW2 := hid hW2
 have HB2 := hid hB2
 have HB0 := hid b0
 have HB1 := hid b1
 have c13 : W2.cell? ⟨w.heap.size, 13, none⟩ = some (.bool g) := blk_cell b0 13
 have c14 : W2.cell? ⟨w.heap.size, 14, none⟩ = some m1 := blk_cell b0 14
 have d13 : W2.cell? ⟨w.heap.size + 1, 13, none⟩ = some (.bool g') := blk_cell b1 13
 have d14 : W2.cell? ⟨w.heap.size + 1, 14, none⟩ = some m2 := blk_cell b1 14
 have l0 := blk_lt b0
 have l1 := blk_lt b1
 obtain ⟨sa, ha⟩ : ∃ q, decide (M = M') = q := ⟨_, rfl⟩
 have HE := hid (equalI_any m1 m2 M M' sa ha W2 (h1.below hB2) (h2.below hB2))
 have HSA := hid ha
 clear b0 b1 hB2 hr ha
 refine (callsIn_wide (n := 4)).1 ?_
 refine callsIn_of_wp_marks Tryz.func45 rfl trivial ?_ rfl
 simp only [Tryz.ntmps45, List.size_toArray, List.length_cons, List.length_nil, Nat.reduceAdd, Nat.reduceSub, Array.replicate_succ, Array.replicate_zero, List.push_toArray, List.append_toArray, List.nil_append, List.cons_append]
 refine wpIn_wide.2 ?_
 go_upto_region 1 with (fail)
 rw [← HW2.out]
 clear hW2
 have hgo : ∀ (s0 : Bool) (W4 : World), Below W2.heap.size W2 W4 → (s0 && eq13 f f') = r → True := fun _ _ _ _ => trivial
 clear hgo
 cases hgg : (g == g') with
 | true =>
  have HGG := hid hgg
  go_wp2_with fail
  refine HE.out.mono ?_
  rintro e W3 ⟨rfl, hb3⟩
  have HS0 := hid (show (sa && eq13 f f') = r by rw [← HRR.out]; unfold sameC; rw [HSA.out, HGG.out, Bool.true_and])
  have HB3 := hid hb3
  clear hb3 c13 c14 d13 d14 l0 l1 hgg
  go_wp2_with fail
  refine (fields_any _ _).mono ?_
  rintro e w0 ⟨rfl, hw0⟩
  have q5 : w0.heap[W3.heap.size]? = some (.cells #[.bool sa] 4) := by rw [hw0]; exact blk_alloc (blk_alloc (heap_new _ _) _) _
  have q6 : w0.heap[W3.heap.size + 1]? = some (.cells #[.slice none 0 0] 25) := by rw [hw0]; exact blk_alloc (heap_new2 _ _ _) _
  have q7 : w0.heap[W3.heap.size + 2]? = some (.cells #[.pointer (some ⟨w.heap.size, 0, none⟩)] 120) := by rw [hw0]; have := heap_new ((W3.alloc (.cells #[.bool sa] 4)).alloc (.cells #[.slice none 0 0] 25)) (.cells #[.pointer (some ⟨w.heap.size, 0, none⟩)] 120); simpa using this
  have hb30 : Below W3.heap.size W3 w0 := by rw [hw0]; exact (((Below.refl _ _).alloc (Nat.le_refl _) _).alloc (by simp) _).alloc (by simp; omega) _
  have ba3 := blk_below HB0.out HB3.out (blk_lt HB0.out)
  have bb3 := blk_below HB1.out HB3.out (blk_lt HB1.out)
  have HBW0 := hid ((HB2.out.trans (HB3.out.mono HB2.out.size)).trans (hb30.mono (Nat.le_trans HB2.out.size HB3.out.size)))
  have lw3 : w.heap.size + 1 < W3.heap.size := blk_lt bb3
  have hsz0 : W3.heap.size + 2 < w0.heap.size := blk_lt q7
  have hcs0 : CsI f f' g g' m1 m2 w W3.heap.size (W3.heap.size + 1) w0.heap.size sa [] (.slice none 0 0) w0 := ⟨blk_below ba3 hb30 (blk_lt ba3), blk_below bb3 hb30 (blk_lt bb3), q5, q6, World.ownsRow_nil _ _ _ _, HBW0.out, Nat.le_refl _⟩
  have HCS0 := hid hcs0
  have HSQ := hid (fields_stops 3 (by omega) (W3.heap.size + 2) w.heap.size (fun k => k < w0.heap.size ∧ k ≠ W3.heap.size + 1) w0 (fun _ h => h.1) ⟨by omega, by omega⟩ (blk1 q7).1)
  obtain ⟨T5, hT5⟩ : ∃ T, W3.heap.size = T := ⟨_, rfl⟩
  rw [hT5] at HSQ HCS0 lw3 hsz0 ⊢
  have hT6 : T5 + 1 < w0.heap.size := by omega
  have HT5 := hid hT5
  clear hw0 q5 q6 q7 hb30 ba3 bb3 hcs0 hT5
  go_wp2
  rw [HT5.out]
  refine (wpIn_wide (n := 4)).1 ?_
  refine wpIn_rangeFunc_ownH rfl (by omega) (gf := 72) (lb := #[.pointer (some ⟨T5 + 2, 0, none⟩)]) rfl trivial (enters_of Tryz.func72 (by kernel_rfl) rfl)
   HSQ.out (fun h k => h.trans k) (fun W l o o' hl _ _ _ => (On.refl _ _).putObj (by omega) _) (Below.refl _ _) (fun _ => rfl)
   (CsJ f f' g g' m1 m2 w T5 (T5 + 1) w0.heap.size sa) (fun _ _ _ => False) (CsJ.own HBW0.out.size) (fun _ _ _ _ _ h _ _ => h.elim) ⟨_, HCS0.out⟩
   (CsA f f' g g' m1 m2 w T5 (T5 + 1)) (fun x a' => CsA.own x a') ?assign ?body ?done ?stop
  case assign =>
   rintro l pre x W K hI hK
   have HK := hid hK
   clear hK
   simp only [itemF]
   gi_wp2
   exact HK.out _ _ ((KeepsOthers.refl _).from _) (On.refl _ _) hI ⟨_, _, _, _, _, _, _, _, _, _, _, _, _, _, _, _, _, _, _, _, _, _, _, _, _, _, _, _, _, _, _, _, _, _, _, _, _, _, _, rfl⟩
  case stop =>
   rintro D c pre W hD hpre h _
   exact h.elim
  case body =>
   rintro l pre ⟨x, hx13⟩ a' W hl ⟨r', hr'⟩ ⟨v, hcs⟩ ⟨u7, u9, u10, u11, u12, u13, u14, u15, u16, u17, u18, u19, u20, u21, u22, u23, u24, u25, u26, u27, u28, u29, u30, u31, u32, u33, u34, u35, u36, u37, u38, u39, u40, u41, u42, u43, u44, u45, u46, rfl⟩ hlt
   dsimp only
   obtain ⟨va, vn, vc, rfl⟩ := hcs.own.shape
   have hc : W.cell? ⟨w.heap.size, x, none⟩ = some (.int .i64 (f x)) := (blk_cell hcs.ba x).trans (confA_at f g m1 hx13)
   have la := blk_lt hcs.ba
   have c6 : W.cell? ⟨T5 + 1, 0, none⟩ = some (.slice va vn vc) := blk_cell hcs.b6 0
   have l6 := blk_lt hcs.b6
   obtain ⟨W5, hW5⟩ : ∃ W5, W5 = (W.alloc (.cells #[.int .i64 (f x)] 3)).drew := ⟨_, rfl⟩
   have hb5 : Below W.heap.size W W5 := by rw [hW5]; exact below_drewN ((Below.refl _ _).alloc (Nat.le_refl _) _) 1
   have ho5 := Owns.below hcs.own hb5
   obtain ⟨xv, w', hrun, r1, r2, _⟩ := run_append_own (P := Tryz.prog) W5 w0.heap.size 25 25 3 i0 (.int .i64 0) 1 8 Tryz.underlying25 HI0.out HI1.out HI2.out HI3.out rfl (by decide) (.slice va vn vc) _ _ ho5 ⟨W.heap.size, 0, none⟩ 1 1 [.int .i64 (f x)] rfl (by rw [hW5]; exact cell_one_new W (.int .i64 (f x)) _) (by intro u hu; rw [List.mem_singleton.1 hu]; rfl) (by unfold maxLen; simp; omega) (by simp; omega) (Nat.le_trans hcs.sz hb5.size)
   have r1 : OwnI w' w0.heap.size xv (pre.map (fun x => f x.val) ++ [f x]) := by
    have : w'.ownsRow w0.heap.size 3 1 xv ((pre.map (fun x => f x.val) ++ [f x]).length) ((pre.map (fun x => f x.val) ++ [f x]).flatMap encI) := by rw [List.length_append, List.flatMap_append]; exact r1
    exact this
   obtain ⟨xa, xn, xc, rfl⟩ := r1.shape
   have hN := hid (hcs.next (x := ⟨x, hx13⟩) hb5 r1 r2 hT6 (by omega) (by omega))
   have hty := Owns.typed ho5
   have h6' := blk_below hcs.b6 hb5 l6
   have g6 := blk_grown h6' r2 (fun e => by obtain ⟨c', hc'⟩ := hty _ e.symm; rw [h6'] at hc'; cases hc')
   have d6 : w'.cell? ⟨T5 + 1, 0, none⟩ = some (.slice va vn vc) := blk_cell g6 0
   have f6 := blk_free g6 0
   have k6 := blk_lt g6
   have HKO := hid (((keeps_below hb5).trans (keeps_owns ho5 r2)).trans (KeepsOthers.setCell w' ⟨T5 + 1, 0, none⟩ (.slice xa xn xc)))
   have HON := hid (((On.of_below (S := fun k => k < w0.heap.size ∧ k ≠ T5 + 1) hb5 (fun k hk => Nat.lt_of_lt_of_le hk.1 hcs.sz)).trans (On.of_grown r2 (fun r e h => by have := (Owns.block ho5 r e).1; exact absurd h.1 (by omega)))).setCell (p := ⟨T5 + 1, 0, none⟩) (fun h => h.2 rfl) (.slice xa xn xc))
   rw [hW5] at hrun
   clear hcs hr' hW5 hb5 ho5 r1 r2 hty h6' g6
   gi_wp2
   gi_wp2
   gi_region_with (fail)
   all_goals
    gi_wp2
    exact ⟨HKO.out.from _, HON.out, _, hN.out⟩
  case done =>
   rintro D xs W hD hxs ⟨v, hcs⟩ hK
   subst hxs
   obtain ⟨va, vn, vc, rfl⟩ := hcs.own.shape
   have HCS := hid hcs
   have HK := hid hK
   clear hcs hK HCS0 HSQ
   go_wp2_with fail
   refine (fields_any _ _).mono ?_
   rintro e w1 ⟨rfl, hw1⟩
   have hb1 : Below W.heap.size W w1 := by rw [hw1]; exact (Below.refl _ _).alloc (Nat.le_refl _) _
   have q7 : w1.heap[W.heap.size]? = some (.cells #[.pointer (some ⟨w.heap.size + 1, 0, none⟩)] 120) := by rw [hw1]; exact heap_new _ _
   have HCS1 := hid (HCS.out.below hb1)
   have HK1 := hid ((hb1.block _ (blk_lt HK.out)).trans HK.out)
   have hDl : D < w1.heap.size := Nat.lt_of_lt_of_le (blk_lt HK.out) hb1.size
   have hl1 := blk_lt q7
   have hsz1 : w0.heap.size ≤ w1.heap.size := HCS1.out.sz
   have HSQ := hid (fields_stops 3 (by omega) W.heap.size (w.heap.size + 1) (fun k => k < w1.heap.size ∧ k ≠ T5) w1 (fun _ h => h.1) ⟨hl1, by have := HCS.out.sz; omega⟩ (blk1 q7).1)
   clear hw1 hb1 q7
   go_wp2
   refine (wpIn_wide (n := 4)).1 ?_
   refine wpIn_rangeFunc_ownH rfl (by omega) (gf := 72) (lb := #[.pointer (some ⟨W.heap.size, 0, none⟩)]) rfl trivial (enters_of Tryz.func72 (by kernel_rfl) rfl)
    HSQ.out (fun h k => h.trans k) (fun W l o o' hl _ _ _ => (On.refl _ _).putObj (by omega) _) (Below.refl _ _) (fun _ => rfl)
    (fun pre W => CsK f f' g g' m1 m2 w T5 (T5 + 1) w0.heap.size sa (.slice va vn vc) pre W ∧ W.heap[D]? = some (.deferred (some []))) (fun _ _ _ => False)
    (fun pre A A' row ⟨h1, h2⟩ hg hr => ⟨CsI.grown h1 (Nat.le_trans HBW0.out.size hsz1) hg hr, (hg.block D (blk_lt h2) (fun e => by have := (hr D e.symm).1; omega)).trans h2⟩) (fun _ _ _ _ _ h _ _ => h.elim) ⟨by unfold CsK; rw [List.all_nil, Bool.and_true]; exact HCS1.out, HK1.out⟩
    (CsB f f' g g' m1 m2 w T5 (T5 + 1)) (fun x a' => CsB.own x a') ?assign ?body ?done ?stop
   case assign =>
    rintro l pre x W K hI hK
    have HK := hid hK
    clear hK
    simp only [itemF]
    gi_wp2
    exact HK.out _ _ ((KeepsOthers.refl _).from _) (On.refl _ _) hI ⟨_, _, _, _, _, _, _, _, _, _, _, _, _, _, _, _, _, _, _, _, _, _, _, _, _, _, _, _, _, _, _, _, _, _, _, _, _, _, rfl⟩
   case stop =>
    rintro D c pre W hD hpre h _
    exact h.elim
   case body =>
    rintro l pre ⟨x, hx13⟩ a' W hl ⟨r', hr'⟩ ⟨hcs, hD⟩ ⟨u7, u8, u11, u12, u13, u14, u15, u16, u17, u18, u19, u20, u21, u22, u23, u24, u25, u26, u27, u28, u29, u30, u31, u32, u33, u34, u35, u36, u37, u38, u39, u40, u41, u42, u43, u44, u45, u46, rfl⟩ hlt
    dsimp only
    have hlW := blk_lt hr'
    have hwW : w1.heap.size ≤ W.heap.size := Nat.le_trans hl (Nat.le_of_lt hlW)
    obtain ⟨q, hq⟩ : ∃ q, (sa && pre.all fun x => f x.val == f' x.val) = q := ⟨_, rfl⟩
    unfold CsK at hcs
    rw [hq] at hcs
    have hc : W.cell? ⟨w.heap.size + 1, x, none⟩ = some (.int .i64 (f' x)) := (blk_cell hcs.bb x).trans (confA_at f' g' m2 hx13)
    have lb := blk_lt hcs.bb
    have c5 : W.cell? ⟨T5, 0, none⟩ = some (.bool q) := blk_cell hcs.b5 0
    have f5 := blk_free hcs.b5 0
    have l5 := blk_lt hcs.b5
    have c6 : W.cell? ⟨T5 + 1, 0, none⟩ = some (.slice va vn vc) := blk_cell hcs.b6 0
    have l6 := blk_lt hcs.b6
    rcases Owns.form hcs.own with ⟨_, h0⟩ | ⟨gg, cc, hsh, hgg, hgl⟩
    ·have := congrArg List.length h0; simp at this
    simp only [Value.slice.injEq] at hsh
    obtain ⟨rfl, hvn, rfl⟩ := hsh
    have hvn' : vn = 13 := by rw [hvn]; simp
    clear hvn
    subst hvn'
    have hfx : (((List.finRange 13).map fun x => f x.val).flatMap encI)[x]? = some (.int .i64 (f x)) := by
     have h13 : x = 0 ∨ x = 1 ∨ x = 2 ∨ x = 3 ∨ x = 4 ∨ x = 5 ∨ x = 6 ∨ x = 7 ∨ x = 8 ∨ x = 9 ∨ x = 10 ∨ x = 11 ∨ x = 12 := by omega
     rcases h13 with rfl | rfl | rfl | rfl | rfl | rfl | rfl | rfl | rfl | rfl | rfl | rfl | rfl <;> rfl
    have cx : W.cell? ⟨gg, x, none⟩ = some (.int .i64 (f x)) := hcs.own.flat_at hfx
    have hxL : (x : Int) < 13 := by omega
    have HCW := hid hcs
    have HDW := hid hD
    have HQQ := hid hq
    have hDne : D ≠ T5 := fun e => by have h1 := hcs.b5; rw [← e, hD] at h1; cases h1
    have HDN := hid hDne
    clear hcs hD hr' hfx hq hDne
    have HFIN := hid (fun (q' : Bool) (W' : World) (hb : Below W.heap.size W W') (he : (sa && (pre ++ [(⟨x, hx13⟩ : Fin 13)]).all fun x => f x.val == f' x.val) = q') =>
     show (KeepsFrom w1.heap.size W (W'.setCell ⟨T5, 0, none⟩ (.bool q')) ∧ On (fun k => k < w1.heap.size ∧ k ≠ T5) W (W'.setCell ⟨T5, 0, none⟩ (.bool q')) ∧ CsK f f' g g' m1 m2 w T5 (T5 + 1) w0.heap.size sa (.slice (some ⟨gg, 0, none⟩) 13 vc) (pre ++ [(⟨x, hx13⟩ : Fin 13)]) (W'.setCell ⟨T5, 0, none⟩ (.bool q')) ∧ (W'.setCell ⟨T5, 0, none⟩ (.bool q')).heap[D]? = some (.deferred (some []))) from by
      have h' := HCW.out.below hb
      refine ⟨((keeps_below hb).trans (KeepsOthers.setCell _ _ _)).from _, ((On.of_below hb (fun k hk => Nat.lt_of_lt_of_le hk.1 hwW)).setCell (p := ⟨T5, 0, none⟩) (fun h => h.2 rfl) _), ?_, ?_⟩
      ·unfold CsK
       rw [he]
       exact ⟨blk_other h'.ba (p := ⟨T5, 0, none⟩) (by dsimp only; omega) _, blk_other h'.bb (p := ⟨T5, 0, none⟩) (by dsimp only; omega) _, blk_set h'.b5 0 _, blk_other h'.b6 (p := ⟨T5, 0, none⟩) (by dsimp only; omega) _, owns_at h'.own h'.b5 (by decide) 0 _, h'.bel.setCell (p := ⟨T5, 0, none⟩) (by dsimp only; omega) _, by simpa [World.setCell] using h'.sz⟩
      ·exact (Below.heap_setCell _ _ _ _ HDN.out).trans ((hb.block _ (blk_lt HDW.out)).trans HDW.out))
    clear hlW hwW
    obtain ⟨V, hV⟩ : ∃ V, V = W.drew := ⟨_, rfl⟩
    have HVV := hid hV
    have v5 : V.cell? ⟨T5, 0, none⟩ = some (.bool q) := by rw [hV]; exact c5
    have v5f : V.frozen? ⟨T5, 0, none⟩ = false := by rw [hV]; exact f5
    have v6 : V.cell? ⟨T5 + 1, 0, none⟩ = some (.slice (some ⟨gg, 0, none⟩) 13 vc) := by rw [hV]; exact c6
    have vc' : V.cell? ⟨w.heap.size + 1, x, none⟩ = some (.int .i64 (f' x)) := by rw [hV]; exact hc
    have vx : V.cell? ⟨gg, x, none⟩ = some (.int .i64 (f x)) := by rw [hV]; exact cx
    have m5 : T5 < V.heap.size := by rw [hV]; exact l5
    have HBV := hid (show Below W.heap.size W V by rw [hV]; exact below_drewN (Below.refl _ _) 1)
    clear hV c5 f5 c6 hc cx
    gi_wp2
    cases q with
    | true =>
     by_cases hfe : f x = f' x
     ·have HFE := hid hfe
      have HBQ := hid (show (f' x == f x) = true by rw [hfe]; exact beq_self_eq_true _)
      clear hfe
      refine wpIn_region_store (spV [.bool true, .bool true, .pointer (some ⟨w.heap.size + 1, x, none⟩), .pointer (some ⟨w.heap.size + 1, x, none⟩), .int .i64 (f' x), .slice (some ⟨gg, 0, none⟩) 13 vc, .int .i64 (x : Nat), .pointer (some ⟨gg, x, none⟩), .int .i64 (f x), .bool true, .bool true]) 11 V HVV.out (by kernel_rfl) rfl (by kernel_rfl) (by kernel_rfl) (by kernel_rfl) ?_ ?_
      ·refine ⟨?_, ?_, ?_, ?_, ?_, ?_, ?_, ?_, ?_, ?_, ?_, fun h => absurd h (by decide), trivial⟩
       ·intro _ a' hdep hoth K hK
        rw [if_pos (guard_none rfl)]
        have t5 := hoth 5 (notDst_at (by kernel_rfl))
        simp only [List.getElem?_toArray, List.getElem?_cons_succ, List.getElem?_cons_zero] at t5
        clear hdep hoth
        refine ⟨fun _ h => (by cases h), ?_⟩
        go_simp
        exact hK
       ·intro _ a' hdep hoth K hK
        rw [if_pos (guard_none rfl)]
        have g0 : a'.tmps[35]? = some (.bool true) := hdep ⟨0, .data⟩ (by simp) rfl 35 rfl (by simp)
        clear hdep hoth
        refine ⟨fun _ h => (by cases h), ?_⟩
        go_simp
        exact hK
       ·intro _ a' hdep hoth K hK
        have gg' : a'.tmps[36]? = some (.bool true) := hdep ⟨1, .guard⟩ (by simp) rfl 36 rfl (by simp)
        rw [guard_is rfl rfl gg']
        rw [if_pos (by decide)]
        have t10 := hoth 10 (notDst_at (by kernel_rfl))
        simp only [List.getElem?_toArray, List.getElem?_cons_succ, List.getElem?_cons_zero] at t10
        clear hdep hoth
        refine ⟨fun _ h => (by cases h), ?_⟩
        go_simp
        exact hK
       ·intro _ a' hdep hoth K hK
        have gg' : a'.tmps[36]? = some (.bool true) := hdep ⟨1, .guard⟩ (by simp) rfl 36 rfl (by simp)
        rw [guard_is rfl rfl gg']
        rw [if_pos (by decide)]
        have g2 : a'.tmps[37]? = some (.pointer (some ⟨w.heap.size + 1, x, none⟩)) := hdep ⟨2, .data⟩ (by simp) rfl 37 rfl (by simp)
        clear hdep hoth
        refine ⟨fun _ h => (by cases h), ?_⟩
        go_simp
        exact hK
       ·intro _ a' hdep hoth K hK
        have gg' : a'.tmps[36]? = some (.bool true) := hdep ⟨1, .guard⟩ (by simp) rfl 36 rfl (by simp)
        rw [guard_is rfl rfl gg']
        rw [if_pos (by decide)]
        have g3 : a'.tmps[38]? = some (.pointer (some ⟨w.heap.size + 1, x, none⟩)) := hdep ⟨3, .data⟩ (by simp) rfl 38 rfl (by simp)
        clear hdep hoth
        refine ⟨fun _ h => (by cases h), ?_⟩
        go_simp
        exact hK
       ·intro _ a' hdep hoth K hK
        have gg' : a'.tmps[36]? = some (.bool true) := hdep ⟨1, .guard⟩ (by simp) rfl 36 rfl (by simp)
        rw [guard_is rfl rfl gg']
        rw [if_pos (by decide)]
        have t6 := hoth 6 (notDst_at (by kernel_rfl))
        simp only [List.getElem?_toArray, List.getElem?_cons_succ, List.getElem?_cons_zero] at t6
        clear hdep hoth
        refine ⟨fun _ h => (by cases h), ?_⟩
        go_simp
        exact hK
       ·intro _ a' hdep hoth K hK
        have gg' : a'.tmps[36]? = some (.bool true) := hdep ⟨1, .guard⟩ (by simp) rfl 36 rfl (by simp)
        rw [guard_is rfl rfl gg']
        rw [if_pos (by decide)]
        have t9 := hoth 9 (notDst_at (by kernel_rfl))
        simp only [List.getElem?_toArray, List.getElem?_cons_succ, List.getElem?_cons_zero] at t9
        clear hdep hoth
        refine ⟨fun _ h => (by cases h), ?_⟩
        go_simp
        exact hK
       ·intro _ a' hdep hoth K hK
        have gg' : a'.tmps[36]? = some (.bool true) := hdep ⟨1, .guard⟩ (by simp) rfl 36 rfl (by simp)
        rw [guard_is rfl rfl gg']
        rw [if_pos (by decide)]
        have g5 : a'.tmps[40]? = some (.slice (some ⟨gg, 0, none⟩) 13 vc) := hdep ⟨5, .data⟩ (by simp) rfl 40 rfl (by simp)
        have g6 : a'.tmps[41]? = some (.int .i64 (x : Nat)) := hdep ⟨6, .data⟩ (by simp) rfl 41 rfl (by simp)
        clear hdep hoth
        refine ⟨fun _ h => (by cases h), ?_⟩
        go_simp
        exact hK
       ·intro _ a' hdep hoth K hK
        have gg' : a'.tmps[36]? = some (.bool true) := hdep ⟨1, .guard⟩ (by simp) rfl 36 rfl (by simp)
        rw [guard_is rfl rfl gg']
        rw [if_pos (by decide)]
        have g7 : a'.tmps[42]? = some (.pointer (some ⟨gg, x, none⟩)) := hdep ⟨7, .data⟩ (by simp) rfl 42 rfl (by simp)
        clear hdep hoth
        refine ⟨fun _ h => (by cases h), ?_⟩
        go_simp
        exact hK
       ·intro _ a' hdep hoth K hK
        have gg' : a'.tmps[36]? = some (.bool true) := hdep ⟨1, .guard⟩ (by simp) rfl 36 rfl (by simp)
        rw [guard_is rfl rfl gg']
        rw [if_pos (by decide)]
        have g4 : a'.tmps[39]? = some (.int .i64 (f' x)) := hdep ⟨4, .data⟩ (by simp) rfl 39 rfl (by simp)
        have g8 : a'.tmps[43]? = some (.int .i64 (f x)) := hdep ⟨8, .data⟩ (by simp) rfl 43 rfl (by simp)
        have hbq := HBQ.out
        clear hdep hoth
        refine ⟨fun _ h => (by cases h), ?_⟩
        go_simp
        exact hK
       ·intro _ a' hdep hoth K hK
        rw [if_pos (guard_none rfl)]
        have g1 : a'.tmps[36]? = some (.bool true) := hdep ⟨1, .data⟩ (by simp) rfl 36 rfl (by simp)
        have g9 : a'.tmps[44]? = some (.bool true) := hdep ⟨9, .data⟩ (by simp) rfl 44 rfl (by simp)
        clear hdep hoth
        refine ⟨fun _ h => (by cases h), ?_⟩
        go_simp
        exact hK
      ·intro K hK
       unfold wpOpIn
       simp only [List.getElem?_toArray, List.getElem?_cons_succ, List.getElem?_cons_zero]
       rw [if_pos (guard_none rfl)]
       simp only [actOf, dstAt, spV, List.getD_cons_zero, List.getD_cons_succ, if_true, List.getElem?_toArray, List.getElem?_cons_succ, List.getElem?_cons_zero, Option.bind_some, Act.put, List.setIfInBounds_toArray, List.set_cons_zero, List.set_cons_succ]
       refine ⟨fun _ h => (by cases h), ?_⟩
       go_simp
       refine hK _ _ ?_
       gi_wp2
       refine HFIN.out true V HBV.out ?_
       rw [List.all_append, ← Bool.and_assoc, HQQ.out]
       simp [HFE.out]
     ·have HFE := hid hfe
      have HBQ := hid (show (f' x == f x) = false by simpa using fun e : f' x = f x => hfe e.symm)
      clear hfe
      refine wpIn_region_store (spV [.bool true, .bool true, .pointer (some ⟨w.heap.size + 1, x, none⟩), .pointer (some ⟨w.heap.size + 1, x, none⟩), .int .i64 (f' x), .slice (some ⟨gg, 0, none⟩) 13 vc, .int .i64 (x : Nat), .pointer (some ⟨gg, x, none⟩), .int .i64 (f x), .bool false, .bool false]) 11 V HVV.out (by kernel_rfl) rfl (by kernel_rfl) (by kernel_rfl) (by kernel_rfl) ?_ ?_
      ·refine ⟨?_, ?_, ?_, ?_, ?_, ?_, ?_, ?_, ?_, ?_, ?_, fun h => absurd h (by decide), trivial⟩
       ·intro _ a' hdep hoth K hK
        rw [if_pos (guard_none rfl)]
        have t5 := hoth 5 (notDst_at (by kernel_rfl))
        simp only [List.getElem?_toArray, List.getElem?_cons_succ, List.getElem?_cons_zero] at t5
        clear hdep hoth
        refine ⟨fun _ h => (by cases h), ?_⟩
        go_simp
        exact hK
       ·intro _ a' hdep hoth K hK
        rw [if_pos (guard_none rfl)]
        have g0 : a'.tmps[35]? = some (.bool true) := hdep ⟨0, .data⟩ (by simp) rfl 35 rfl (by simp)
        clear hdep hoth
        refine ⟨fun _ h => (by cases h), ?_⟩
        go_simp
        exact hK
       ·intro _ a' hdep hoth K hK
        have gg' : a'.tmps[36]? = some (.bool true) := hdep ⟨1, .guard⟩ (by simp) rfl 36 rfl (by simp)
        rw [guard_is rfl rfl gg']
        rw [if_pos (by decide)]
        have t10 := hoth 10 (notDst_at (by kernel_rfl))
        simp only [List.getElem?_toArray, List.getElem?_cons_succ, List.getElem?_cons_zero] at t10
        clear hdep hoth
        refine ⟨fun _ h => (by cases h), ?_⟩
        go_simp
        exact hK
       ·intro _ a' hdep hoth K hK
        have gg' : a'.tmps[36]? = some (.bool true) := hdep ⟨1, .guard⟩ (by simp) rfl 36 rfl (by simp)
        rw [guard_is rfl rfl gg']
        rw [if_pos (by decide)]
        have g2 : a'.tmps[37]? = some (.pointer (some ⟨w.heap.size + 1, x, none⟩)) := hdep ⟨2, .data⟩ (by simp) rfl 37 rfl (by simp)
        clear hdep hoth
        refine ⟨fun _ h => (by cases h), ?_⟩
        go_simp
        exact hK
       ·intro _ a' hdep hoth K hK
        have gg' : a'.tmps[36]? = some (.bool true) := hdep ⟨1, .guard⟩ (by simp) rfl 36 rfl (by simp)
        rw [guard_is rfl rfl gg']
        rw [if_pos (by decide)]
        have g3 : a'.tmps[38]? = some (.pointer (some ⟨w.heap.size + 1, x, none⟩)) := hdep ⟨3, .data⟩ (by simp) rfl 38 rfl (by simp)
        clear hdep hoth
        refine ⟨fun _ h => (by cases h), ?_⟩
        go_simp
        exact hK
       ·intro _ a' hdep hoth K hK
        have gg' : a'.tmps[36]? = some (.bool true) := hdep ⟨1, .guard⟩ (by simp) rfl 36 rfl (by simp)
        rw [guard_is rfl rfl gg']
        rw [if_pos (by decide)]
        have t6 := hoth 6 (notDst_at (by kernel_rfl))
        simp only [List.getElem?_toArray, List.getElem?_cons_succ, List.getElem?_cons_zero] at t6
        clear hdep hoth
        refine ⟨fun _ h => (by cases h), ?_⟩
        go_simp
        exact hK
       ·intro _ a' hdep hoth K hK
        have gg' : a'.tmps[36]? = some (.bool true) := hdep ⟨1, .guard⟩ (by simp) rfl 36 rfl (by simp)
        rw [guard_is rfl rfl gg']
        rw [if_pos (by decide)]
        have t9 := hoth 9 (notDst_at (by kernel_rfl))
        simp only [List.getElem?_toArray, List.getElem?_cons_succ, List.getElem?_cons_zero] at t9
        clear hdep hoth
        refine ⟨fun _ h => (by cases h), ?_⟩
        go_simp
        exact hK
       ·intro _ a' hdep hoth K hK
        have gg' : a'.tmps[36]? = some (.bool true) := hdep ⟨1, .guard⟩ (by simp) rfl 36 rfl (by simp)
        rw [guard_is rfl rfl gg']
        rw [if_pos (by decide)]
        have g5 : a'.tmps[40]? = some (.slice (some ⟨gg, 0, none⟩) 13 vc) := hdep ⟨5, .data⟩ (by simp) rfl 40 rfl (by simp)
        have g6 : a'.tmps[41]? = some (.int .i64 (x : Nat)) := hdep ⟨6, .data⟩ (by simp) rfl 41 rfl (by simp)
        clear hdep hoth
        refine ⟨fun _ h => (by cases h), ?_⟩
        go_simp
        exact hK
       ·intro _ a' hdep hoth K hK
        have gg' : a'.tmps[36]? = some (.bool true) := hdep ⟨1, .guard⟩ (by simp) rfl 36 rfl (by simp)
        rw [guard_is rfl rfl gg']
        rw [if_pos (by decide)]
        have g7 : a'.tmps[42]? = some (.pointer (some ⟨gg, x, none⟩)) := hdep ⟨7, .data⟩ (by simp) rfl 42 rfl (by simp)
        clear hdep hoth
        refine ⟨fun _ h => (by cases h), ?_⟩
        go_simp
        exact hK
       ·intro _ a' hdep hoth K hK
        have gg' : a'.tmps[36]? = some (.bool true) := hdep ⟨1, .guard⟩ (by simp) rfl 36 rfl (by simp)
        rw [guard_is rfl rfl gg']
        rw [if_pos (by decide)]
        have g4 : a'.tmps[39]? = some (.int .i64 (f' x)) := hdep ⟨4, .data⟩ (by simp) rfl 39 rfl (by simp)
        have g8 : a'.tmps[43]? = some (.int .i64 (f x)) := hdep ⟨8, .data⟩ (by simp) rfl 43 rfl (by simp)
        have hbq := HBQ.out
        clear hdep hoth
        refine ⟨fun _ h => (by cases h), ?_⟩
        go_simp
        exact hK
       ·intro _ a' hdep hoth K hK
        rw [if_pos (guard_none rfl)]
        have g1 : a'.tmps[36]? = some (.bool true) := hdep ⟨1, .data⟩ (by simp) rfl 36 rfl (by simp)
        have g9 : a'.tmps[44]? = some (.bool false) := hdep ⟨9, .data⟩ (by simp) rfl 44 rfl (by simp)
        clear hdep hoth
        refine ⟨fun _ h => (by cases h), ?_⟩
        go_simp
        exact hK
      ·intro K hK
       unfold wpOpIn
       simp only [List.getElem?_toArray, List.getElem?_cons_succ, List.getElem?_cons_zero]
       rw [if_pos (guard_none rfl)]
       simp only [actOf, dstAt, spV, List.getD_cons_zero, List.getD_cons_succ, if_true, List.getElem?_toArray, List.getElem?_cons_succ, List.getElem?_cons_zero, Option.bind_some, Act.put, List.setIfInBounds_toArray, List.set_cons_zero, List.set_cons_succ]
       refine ⟨fun _ h => (by cases h), ?_⟩
       go_simp
       refine hK _ _ ?_
       gi_wp2
       refine HFIN.out false V HBV.out ?_
       rw [List.all_append, ← Bool.and_assoc, HQQ.out]
       simp [HFE.out]
    | false =>
     refine wpIn_region_store (spV [.bool false, .bool false, undef, undef, undef, undef, undef, undef, undef, undef, .bool false]) 11 V HVV.out (by kernel_rfl) rfl (by kernel_rfl) (by kernel_rfl) (by kernel_rfl) ?_ ?_
     ·refine ⟨?_, ?_, ?_, ?_, ?_, ?_, ?_, ?_, ?_, ?_, ?_, fun h => absurd h (by decide), trivial⟩
      ·intro _ a' hdep hoth K hK
       rw [if_pos (guard_none rfl)]
       have t5 := hoth 5 (notDst_at (by kernel_rfl))
       simp only [List.getElem?_toArray, List.getElem?_cons_succ, List.getElem?_cons_zero] at t5
       clear hdep hoth
       refine ⟨fun _ h => (by cases h), ?_⟩
       go_simp
       exact hK
      ·intro _ a' hdep hoth K hK
       rw [if_pos (guard_none rfl)]
       have g0 : a'.tmps[35]? = some (.bool false) := hdep ⟨0, .data⟩ (by simp) rfl 35 rfl (by simp)
       clear hdep hoth
       refine ⟨fun _ h => (by cases h), ?_⟩
       go_simp
       exact hK
      ·intro _ a' hdep hoth K hK
       have gg' : a'.tmps[36]? = some (.bool false) := hdep ⟨1, .guard⟩ (by simp) rfl 36 rfl (by simp)
       rw [guard_is rfl rfl gg']
       rw [if_neg (by decide)]
       exact ⟨fun _ h => (by cases h), hK⟩
      ·intro _ a' hdep hoth K hK
       have gg' : a'.tmps[36]? = some (.bool false) := hdep ⟨1, .guard⟩ (by simp) rfl 36 rfl (by simp)
       rw [guard_is rfl rfl gg']
       rw [if_neg (by decide)]
       exact ⟨fun _ h => (by cases h), hK⟩
      ·intro _ a' hdep hoth K hK
       have gg' : a'.tmps[36]? = some (.bool false) := hdep ⟨1, .guard⟩ (by simp) rfl 36 rfl (by simp)
       rw [guard_is rfl rfl gg']
       rw [if_neg (by decide)]
       exact ⟨fun _ h => (by cases h), hK⟩
      ·intro _ a' hdep hoth K hK
       have gg' : a'.tmps[36]? = some (.bool false) := hdep ⟨1, .guard⟩ (by simp) rfl 36 rfl (by simp)
       rw [guard_is rfl rfl gg']
       rw [if_neg (by decide)]
       exact ⟨fun _ h => (by cases h), hK⟩
      ·intro _ a' hdep hoth K hK
       have gg' : a'.tmps[36]? = some (.bool false) := hdep ⟨1, .guard⟩ (by simp) rfl 36 rfl (by simp)
       rw [guard_is rfl rfl gg']
       rw [if_neg (by decide)]
       exact ⟨fun _ h => (by cases h), hK⟩
      ·intro _ a' hdep hoth K hK
       have gg' : a'.tmps[36]? = some (.bool false) := hdep ⟨1, .guard⟩ (by simp) rfl 36 rfl (by simp)
       rw [guard_is rfl rfl gg']
       rw [if_neg (by decide)]
       exact ⟨fun _ h => (by cases h), hK⟩
      ·intro _ a' hdep hoth K hK
       have gg' : a'.tmps[36]? = some (.bool false) := hdep ⟨1, .guard⟩ (by simp) rfl 36 rfl (by simp)
       rw [guard_is rfl rfl gg']
       rw [if_neg (by decide)]
       exact ⟨fun _ h => (by cases h), hK⟩
      ·intro _ a' hdep hoth K hK
       have gg' : a'.tmps[36]? = some (.bool false) := hdep ⟨1, .guard⟩ (by simp) rfl 36 rfl (by simp)
       rw [guard_is rfl rfl gg']
       rw [if_neg (by decide)]
       exact ⟨fun _ h => (by cases h), hK⟩
      ·intro _ a' hdep hoth K hK
       rw [if_pos (guard_none rfl)]
       have g1 : a'.tmps[36]? = some (.bool false) := hdep ⟨1, .data⟩ (by simp) rfl 36 rfl (by simp)
       clear hdep hoth
       refine ⟨fun _ h => (by cases h), ?_⟩
       go_simp
       exact hK
     ·intro K hK
      unfold wpOpIn
      simp only [List.getElem?_toArray, List.getElem?_cons_succ, List.getElem?_cons_zero]
      rw [if_pos (guard_none rfl)]
      simp only [actOf, dstAt, spV, List.getD_cons_zero, List.getD_cons_succ, if_true, List.getElem?_toArray, List.getElem?_cons_succ, List.getElem?_cons_zero, Option.bind_some, Act.put, List.setIfInBounds_toArray, List.set_cons_zero, List.set_cons_succ]
      refine ⟨fun _ h => (by cases h), ?_⟩
      go_simp
      refine hK _ _ ?_
      gi_wp2
      refine HFIN.out false V HBV.out ?_
      rw [List.all_append, ← Bool.and_assoc, HQQ.out]
      rfl
  
   case done =>
    rintro D2 ys X hD2 hys ⟨hcs, hDf⟩ hK2
    subst hys
    unfold CsK at hcs
    rw [all13] at hcs
    have hrq := HS0.out
    rw [hrq] at hcs
    have c5 : X.cell? ⟨T5, 0, none⟩ = some (.bool r) := blk_cell hcs.b5 0
    have l5 := blk_lt hcs.b5
    have HBX := hid hcs.bel
    have HD := hid hDf
    have HK2 := hid hK2
    have hne : D2 ≠ D := by omega
    have hle : w.heap.size ≤ D ∧ w.heap.size ≤ D2 := ⟨Nat.le_trans HBW0.out.size hD, Nat.le_trans (Nat.le_trans HBW0.out.size hsz1) hD2⟩
    clear hcs hrq hDf hK2
    go_wp2
    refine ⟨by simp, .inl ⟨_, _, rfl, run_takeDeferred HK2.out, ?_⟩⟩
    refine ⟨by simp, .inl ⟨_, _, rfl, run_takeDeferred ((World.putObj_heap_other (Ne.symm hne)).trans HD.out), ?_⟩⟩
    exact ⟨_, results_tmp rfl _ _ _, rfl, below_put (below_put HBX.out hle.2 _) hle.1 _⟩
 | false =>
  have HS0 := hid (show (false && eq13 f f') = r by rw [← HRR.out]; unfold sameC; rw [hgg]; simp)
  have HB3 := hid (Below.refl W2.heap.size W2)
  go_wp2_with fail
  refine (fields_any _ _).mono ?_
  clear hgg
  rintro e w0 ⟨rfl, hw0⟩
  have q5 : w0.heap[W2.heap.size]? = some (.cells #[.bool false] 4) := by rw [hw0]; exact blk_alloc (blk_alloc (heap_new _ _) _) _
  have q6 : w0.heap[W2.heap.size + 1]? = some (.cells #[.slice none 0 0] 25) := by rw [hw0]; exact blk_alloc (heap_new2 _ _ _) _
  have q7 : w0.heap[W2.heap.size + 2]? = some (.cells #[.pointer (some ⟨w.heap.size, 0, none⟩)] 120) := by rw [hw0]; have := heap_new ((W2.alloc (.cells #[.bool false] 4)).alloc (.cells #[.slice none 0 0] 25)) (.cells #[.pointer (some ⟨w.heap.size, 0, none⟩)] 120); simpa using this
  have hb30 : Below W2.heap.size W2 w0 := by rw [hw0]; exact (((Below.refl _ _).alloc (Nat.le_refl _) _).alloc (by simp) _).alloc (by simp; omega) _
  have ba3 := blk_below HB0.out HB3.out (blk_lt HB0.out)
  have bb3 := blk_below HB1.out HB3.out (blk_lt HB1.out)
  have HBW0 := hid ((HB2.out.trans (HB3.out.mono HB2.out.size)).trans (hb30.mono (Nat.le_trans HB2.out.size HB3.out.size)))
  have lw3 : w.heap.size + 1 < W2.heap.size := blk_lt bb3
  have hsz0 : W2.heap.size + 2 < w0.heap.size := blk_lt q7
  have hcs0 : CsI f f' g g' m1 m2 w W2.heap.size (W2.heap.size + 1) w0.heap.size false [] (.slice none 0 0) w0 := ⟨blk_below ba3 hb30 (blk_lt ba3), blk_below bb3 hb30 (blk_lt bb3), q5, q6, World.ownsRow_nil _ _ _ _, HBW0.out, Nat.le_refl _⟩
  have HCS0 := hid hcs0
  have HSQ := hid (fields_stops 3 (by omega) (W2.heap.size + 2) w.heap.size (fun k => k < w0.heap.size ∧ k ≠ W2.heap.size + 1) w0 (fun _ h => h.1) ⟨by omega, by omega⟩ (blk1 q7).1)
  obtain ⟨T5, hT5⟩ : ∃ T, W2.heap.size = T := ⟨_, rfl⟩
  rw [hT5] at HSQ HCS0 lw3 hsz0 ⊢
  have hT6 : T5 + 1 < w0.heap.size := by omega
  have HT5 := hid hT5
  clear hw0 q5 q6 q7 hb30 ba3 bb3 hcs0 hT5
  go_wp2
  rw [HT5.out]
  refine (wpIn_wide (n := 4)).1 ?_
  refine wpIn_rangeFunc_ownH rfl (by omega) (gf := 72) (lb := #[.pointer (some ⟨T5 + 2, 0, none⟩)]) rfl trivial (enters_of Tryz.func72 (by kernel_rfl) rfl)
   HSQ.out (fun h k => h.trans k) (fun W l o o' hl _ _ _ => (On.refl _ _).putObj (by omega) _) (Below.refl _ _) (fun _ => rfl)
   (CsJ f f' g g' m1 m2 w T5 (T5 + 1) w0.heap.size false) (fun _ _ _ => False) (CsJ.own HBW0.out.size) (fun _ _ _ _ _ h _ _ => h.elim) ⟨_, HCS0.out⟩
   (CsA f f' g g' m1 m2 w T5 (T5 + 1)) (fun x a' => CsA.own x a') ?assign ?body ?done ?stop
  case assign =>
   rintro l pre x W K hI hK
   have HK := hid hK
   clear hK
   simp only [itemF]
   gi_wp2
   exact HK.out _ _ ((KeepsOthers.refl _).from _) (On.refl _ _) hI ⟨_, _, _, _, _, _, _, _, _, _, _, _, _, _, _, _, _, _, _, _, _, _, _, _, _, _, _, _, _, _, _, _, _, _, _, _, _, _, _, rfl⟩
  case stop =>
   rintro D c pre W hD hpre h _
   exact h.elim
  case body =>
   rintro l pre ⟨x, hx13⟩ a' W hl ⟨r', hr'⟩ ⟨v, hcs⟩ ⟨u7, u9, u10, u11, u12, u13, u14, u15, u16, u17, u18, u19, u20, u21, u22, u23, u24, u25, u26, u27, u28, u29, u30, u31, u32, u33, u34, u35, u36, u37, u38, u39, u40, u41, u42, u43, u44, u45, u46, rfl⟩ hlt
   dsimp only
   obtain ⟨va, vn, vc, rfl⟩ := hcs.own.shape
   have hc : W.cell? ⟨w.heap.size, x, none⟩ = some (.int .i64 (f x)) := (blk_cell hcs.ba x).trans (confA_at f g m1 hx13)
   have la := blk_lt hcs.ba
   have c6 : W.cell? ⟨T5 + 1, 0, none⟩ = some (.slice va vn vc) := blk_cell hcs.b6 0
   have l6 := blk_lt hcs.b6
   obtain ⟨W5, hW5⟩ : ∃ W5, W5 = (W.alloc (.cells #[.int .i64 (f x)] 3)).drew := ⟨_, rfl⟩
   have hb5 : Below W.heap.size W W5 := by rw [hW5]; exact below_drewN ((Below.refl _ _).alloc (Nat.le_refl _) _) 1
   have ho5 := Owns.below hcs.own hb5
   obtain ⟨xv, w', hrun, r1, r2, _⟩ := run_append_own (P := Tryz.prog) W5 w0.heap.size 25 25 3 i0 (.int .i64 0) 1 8 Tryz.underlying25 HI0.out HI1.out HI2.out HI3.out rfl (by decide) (.slice va vn vc) _ _ ho5 ⟨W.heap.size, 0, none⟩ 1 1 [.int .i64 (f x)] rfl (by rw [hW5]; exact cell_one_new W (.int .i64 (f x)) _) (by intro u hu; rw [List.mem_singleton.1 hu]; rfl) (by unfold maxLen; simp; omega) (by simp; omega) (Nat.le_trans hcs.sz hb5.size)
   have r1 : OwnI w' w0.heap.size xv (pre.map (fun x => f x.val) ++ [f x]) := by
    have : w'.ownsRow w0.heap.size 3 1 xv ((pre.map (fun x => f x.val) ++ [f x]).length) ((pre.map (fun x => f x.val) ++ [f x]).flatMap encI) := by rw [List.length_append, List.flatMap_append]; exact r1
    exact this
   obtain ⟨xa, xn, xc, rfl⟩ := r1.shape
   have hN := hid (hcs.next (x := ⟨x, hx13⟩) hb5 r1 r2 hT6 (by omega) (by omega))
   have hty := Owns.typed ho5
   have h6' := blk_below hcs.b6 hb5 l6
   have g6 := blk_grown h6' r2 (fun e => by obtain ⟨c', hc'⟩ := hty _ e.symm; rw [h6'] at hc'; cases hc')
   have d6 : w'.cell? ⟨T5 + 1, 0, none⟩ = some (.slice va vn vc) := blk_cell g6 0
   have f6 := blk_free g6 0
   have k6 := blk_lt g6
   have HKO := hid (((keeps_below hb5).trans (keeps_owns ho5 r2)).trans (KeepsOthers.setCell w' ⟨T5 + 1, 0, none⟩ (.slice xa xn xc)))
   have HON := hid (((On.of_below (S := fun k => k < w0.heap.size ∧ k ≠ T5 + 1) hb5 (fun k hk => Nat.lt_of_lt_of_le hk.1 hcs.sz)).trans (On.of_grown r2 (fun r e h => by have := (Owns.block ho5 r e).1; exact absurd h.1 (by omega)))).setCell (p := ⟨T5 + 1, 0, none⟩) (fun h => h.2 rfl) (.slice xa xn xc))
   rw [hW5] at hrun
   clear hcs hr' hW5 hb5 ho5 r1 r2 hty h6' g6
   gi_wp2
   gi_wp2
   gi_region_with (fail)
   all_goals
    gi_wp2
    exact ⟨HKO.out.from _, HON.out, _, hN.out⟩
  case done =>
   rintro D xs W hD hxs ⟨v, hcs⟩ hK
   subst hxs
   obtain ⟨va, vn, vc, rfl⟩ := hcs.own.shape
   have HCS := hid hcs
   have HK := hid hK
   clear hcs hK HCS0 HSQ
   go_wp2_with fail
   refine (fields_any _ _).mono ?_
   rintro e w1 ⟨rfl, hw1⟩
   have hb1 : Below W.heap.size W w1 := by rw [hw1]; exact (Below.refl _ _).alloc (Nat.le_refl _) _
   have q7 : w1.heap[W.heap.size]? = some (.cells #[.pointer (some ⟨w.heap.size + 1, 0, none⟩)] 120) := by rw [hw1]; exact heap_new _ _
   have HCS1 := hid (HCS.out.below hb1)
   have HK1 := hid ((hb1.block _ (blk_lt HK.out)).trans HK.out)
   have hDl : D < w1.heap.size := Nat.lt_of_lt_of_le (blk_lt HK.out) hb1.size
   have hl1 := blk_lt q7
   have hsz1 : w0.heap.size ≤ w1.heap.size := HCS1.out.sz
   have HSQ := hid (fields_stops 3 (by omega) W.heap.size (w.heap.size + 1) (fun k => k < w1.heap.size ∧ k ≠ T5) w1 (fun _ h => h.1) ⟨hl1, by have := HCS.out.sz; omega⟩ (blk1 q7).1)
   clear hw1 hb1 q7
   go_wp2
   refine (wpIn_wide (n := 4)).1 ?_
   refine wpIn_rangeFunc_ownH rfl (by omega) (gf := 72) (lb := #[.pointer (some ⟨W.heap.size, 0, none⟩)]) rfl trivial (enters_of Tryz.func72 (by kernel_rfl) rfl)
    HSQ.out (fun h k => h.trans k) (fun W l o o' hl _ _ _ => (On.refl _ _).putObj (by omega) _) (Below.refl _ _) (fun _ => rfl)
    (fun pre W => CsK f f' g g' m1 m2 w T5 (T5 + 1) w0.heap.size false (.slice va vn vc) pre W ∧ W.heap[D]? = some (.deferred (some []))) (fun _ _ _ => False)
    (fun pre A A' row ⟨h1, h2⟩ hg hr => ⟨CsI.grown h1 (Nat.le_trans HBW0.out.size hsz1) hg hr, (hg.block D (blk_lt h2) (fun e => by have := (hr D e.symm).1; omega)).trans h2⟩) (fun _ _ _ _ _ h _ _ => h.elim) ⟨by unfold CsK; rw [List.all_nil, Bool.and_true]; exact HCS1.out, HK1.out⟩
    (CsB f f' g g' m1 m2 w T5 (T5 + 1)) (fun x a' => CsB.own x a') ?assign ?body ?done ?stop
   case assign =>
    rintro l pre x W K hI hK
    have HK := hid hK
    clear hK
    simp only [itemF]
    gi_wp2
    exact HK.out _ _ ((KeepsOthers.refl _).from _) (On.refl _ _) hI ⟨_, _, _, _, _, _, _, _, _, _, _, _, _, _, _, _, _, _, _, _, _, _, _, _, _, _, _, _, _, _, _, _, _, _, _, _, _, _, rfl⟩
   case stop =>
    rintro D c pre W hD hpre h _
    exact h.elim
   case body =>
    rintro l pre ⟨x, hx13⟩ a' W hl ⟨r', hr'⟩ ⟨hcs, hD⟩ ⟨u7, u8, u11, u12, u13, u14, u15, u16, u17, u18, u19, u20, u21, u22, u23, u24, u25, u26, u27, u28, u29, u30, u31, u32, u33, u34, u35, u36, u37, u38, u39, u40, u41, u42, u43, u44, u45, u46, rfl⟩ hlt
    dsimp only
    have hlW := blk_lt hr'
    have hwW : w1.heap.size ≤ W.heap.size := Nat.le_trans hl (Nat.le_of_lt hlW)
    obtain ⟨q, hq⟩ : ∃ q, (false && pre.all fun x => f x.val == f' x.val) = q := ⟨_, rfl⟩
    unfold CsK at hcs
    rw [hq] at hcs
    have hc : W.cell? ⟨w.heap.size + 1, x, none⟩ = some (.int .i64 (f' x)) := (blk_cell hcs.bb x).trans (confA_at f' g' m2 hx13)
    have lb := blk_lt hcs.bb
    have c5 : W.cell? ⟨T5, 0, none⟩ = some (.bool q) := blk_cell hcs.b5 0
    have f5 := blk_free hcs.b5 0
    have l5 := blk_lt hcs.b5
    have c6 : W.cell? ⟨T5 + 1, 0, none⟩ = some (.slice va vn vc) := blk_cell hcs.b6 0
    have l6 := blk_lt hcs.b6
    rcases Owns.form hcs.own with ⟨_, h0⟩ | ⟨gg, cc, hsh, hgg, hgl⟩
    ·have := congrArg List.length h0; simp at this
    simp only [Value.slice.injEq] at hsh
    obtain ⟨rfl, hvn, rfl⟩ := hsh
    have hvn' : vn = 13 := by rw [hvn]; simp
    clear hvn
    subst hvn'
    have hfx : (((List.finRange 13).map fun x => f x.val).flatMap encI)[x]? = some (.int .i64 (f x)) := by
     have h13 : x = 0 ∨ x = 1 ∨ x = 2 ∨ x = 3 ∨ x = 4 ∨ x = 5 ∨ x = 6 ∨ x = 7 ∨ x = 8 ∨ x = 9 ∨ x = 10 ∨ x = 11 ∨ x = 12 := by omega
     rcases h13 with rfl | rfl | rfl | rfl | rfl | rfl | rfl | rfl | rfl | rfl | rfl | rfl | rfl <;> rfl
    have cx : W.cell? ⟨gg, x, none⟩ = some (.int .i64 (f x)) := hcs.own.flat_at hfx
    have hxL : (x : Int) < 13 := by omega
    have HCW := hid hcs
    have HDW := hid hD
    have HQQ := hid hq
    have hDne : D ≠ T5 := fun e => by have h1 := hcs.b5; rw [← e, hD] at h1; cases h1
    have HDN := hid hDne
    clear hcs hD hr' hfx hq hDne
    have HFIN := hid (fun (q' : Bool) (W' : World) (hb : Below W.heap.size W W') (he : (false && (pre ++ [(⟨x, hx13⟩ : Fin 13)]).all fun x => f x.val == f' x.val) = q') =>
     show (KeepsFrom w1.heap.size W (W'.setCell ⟨T5, 0, none⟩ (.bool q')) ∧ On (fun k => k < w1.heap.size ∧ k ≠ T5) W (W'.setCell ⟨T5, 0, none⟩ (.bool q')) ∧ CsK f f' g g' m1 m2 w T5 (T5 + 1) w0.heap.size false (.slice (some ⟨gg, 0, none⟩) 13 vc) (pre ++ [(⟨x, hx13⟩ : Fin 13)]) (W'.setCell ⟨T5, 0, none⟩ (.bool q')) ∧ (W'.setCell ⟨T5, 0, none⟩ (.bool q')).heap[D]? = some (.deferred (some []))) from by
      have h' := HCW.out.below hb
      refine ⟨((keeps_below hb).trans (KeepsOthers.setCell _ _ _)).from _, ((On.of_below hb (fun k hk => Nat.lt_of_lt_of_le hk.1 hwW)).setCell (p := ⟨T5, 0, none⟩) (fun h => h.2 rfl) _), ?_, ?_⟩
      ·unfold CsK
       rw [he]
       exact ⟨blk_other h'.ba (p := ⟨T5, 0, none⟩) (by dsimp only; omega) _, blk_other h'.bb (p := ⟨T5, 0, none⟩) (by dsimp only; omega) _, blk_set h'.b5 0 _, blk_other h'.b6 (p := ⟨T5, 0, none⟩) (by dsimp only; omega) _, owns_at h'.own h'.b5 (by decide) 0 _, h'.bel.setCell (p := ⟨T5, 0, none⟩) (by dsimp only; omega) _, by simpa [World.setCell] using h'.sz⟩
      ·exact (Below.heap_setCell _ _ _ _ HDN.out).trans ((hb.block _ (blk_lt HDW.out)).trans HDW.out))
    clear hlW hwW
    obtain ⟨V, hV⟩ : ∃ V, V = W.drew := ⟨_, rfl⟩
    have HVV := hid hV
    have v5 : V.cell? ⟨T5, 0, none⟩ = some (.bool q) := by rw [hV]; exact c5
    have v5f : V.frozen? ⟨T5, 0, none⟩ = false := by rw [hV]; exact f5
    have v6 : V.cell? ⟨T5 + 1, 0, none⟩ = some (.slice (some ⟨gg, 0, none⟩) 13 vc) := by rw [hV]; exact c6
    have vc' : V.cell? ⟨w.heap.size + 1, x, none⟩ = some (.int .i64 (f' x)) := by rw [hV]; exact hc
    have vx : V.cell? ⟨gg, x, none⟩ = some (.int .i64 (f x)) := by rw [hV]; exact cx
    have m5 : T5 < V.heap.size := by rw [hV]; exact l5
    have HBV := hid (show Below W.heap.size W V by rw [hV]; exact below_drewN (Below.refl _ _) 1)
    clear hV c5 f5 c6 hc cx
    gi_wp2
    cases q with
    | true =>
     by_cases hfe : f x = f' x
     ·have HFE := hid hfe
      have HBQ := hid (show (f' x == f x) = true by rw [hfe]; exact beq_self_eq_true _)
      clear hfe
      refine wpIn_region_store (spV [.bool true, .bool true, .pointer (some ⟨w.heap.size + 1, x, none⟩), .pointer (some ⟨w.heap.size + 1, x, none⟩), .int .i64 (f' x), .slice (some ⟨gg, 0, none⟩) 13 vc, .int .i64 (x : Nat), .pointer (some ⟨gg, x, none⟩), .int .i64 (f x), .bool true, .bool true]) 11 V HVV.out (by kernel_rfl) rfl (by kernel_rfl) (by kernel_rfl) (by kernel_rfl) ?_ ?_
      ·refine ⟨?_, ?_, ?_, ?_, ?_, ?_, ?_, ?_, ?_, ?_, ?_, fun h => absurd h (by decide), trivial⟩
       ·intro _ a' hdep hoth K hK
        rw [if_pos (guard_none rfl)]
        have t5 := hoth 5 (notDst_at (by kernel_rfl))
        simp only [List.getElem?_toArray, List.getElem?_cons_succ, List.getElem?_cons_zero] at t5
        clear hdep hoth
        refine ⟨fun _ h => (by cases h), ?_⟩
        go_simp
        exact hK
       ·intro _ a' hdep hoth K hK
        rw [if_pos (guard_none rfl)]
        have g0 : a'.tmps[35]? = some (.bool true) := hdep ⟨0, .data⟩ (by simp) rfl 35 rfl (by simp)
        clear hdep hoth
        refine ⟨fun _ h => (by cases h), ?_⟩
        go_simp
        exact hK
       ·intro _ a' hdep hoth K hK
        have gg' : a'.tmps[36]? = some (.bool true) := hdep ⟨1, .guard⟩ (by simp) rfl 36 rfl (by simp)
        rw [guard_is rfl rfl gg']
        rw [if_pos (by decide)]
        have t10 := hoth 10 (notDst_at (by kernel_rfl))
        simp only [List.getElem?_toArray, List.getElem?_cons_succ, List.getElem?_cons_zero] at t10
        clear hdep hoth
        refine ⟨fun _ h => (by cases h), ?_⟩
        go_simp
        exact hK
       ·intro _ a' hdep hoth K hK
        have gg' : a'.tmps[36]? = some (.bool true) := hdep ⟨1, .guard⟩ (by simp) rfl 36 rfl (by simp)
        rw [guard_is rfl rfl gg']
        rw [if_pos (by decide)]
        have g2 : a'.tmps[37]? = some (.pointer (some ⟨w.heap.size + 1, x, none⟩)) := hdep ⟨2, .data⟩ (by simp) rfl 37 rfl (by simp)
        clear hdep hoth
        refine ⟨fun _ h => (by cases h), ?_⟩
        go_simp
        exact hK
       ·intro _ a' hdep hoth K hK
        have gg' : a'.tmps[36]? = some (.bool true) := hdep ⟨1, .guard⟩ (by simp) rfl 36 rfl (by simp)
        rw [guard_is rfl rfl gg']
        rw [if_pos (by decide)]
        have g3 : a'.tmps[38]? = some (.pointer (some ⟨w.heap.size + 1, x, none⟩)) := hdep ⟨3, .data⟩ (by simp) rfl 38 rfl (by simp)
        clear hdep hoth
        refine ⟨fun _ h => (by cases h), ?_⟩
        go_simp
        exact hK
       ·intro _ a' hdep hoth K hK
        have gg' : a'.tmps[36]? = some (.bool true) := hdep ⟨1, .guard⟩ (by simp) rfl 36 rfl (by simp)
        rw [guard_is rfl rfl gg']
        rw [if_pos (by decide)]
        have t6 := hoth 6 (notDst_at (by kernel_rfl))
        simp only [List.getElem?_toArray, List.getElem?_cons_succ, List.getElem?_cons_zero] at t6
        clear hdep hoth
        refine ⟨fun _ h => (by cases h), ?_⟩
        go_simp
        exact hK
       ·intro _ a' hdep hoth K hK
        have gg' : a'.tmps[36]? = some (.bool true) := hdep ⟨1, .guard⟩ (by simp) rfl 36 rfl (by simp)
        rw [guard_is rfl rfl gg']
        rw [if_pos (by decide)]
        have t9 := hoth 9 (notDst_at (by kernel_rfl))
        simp only [List.getElem?_toArray, List.getElem?_cons_succ, List.getElem?_cons_zero] at t9
        clear hdep hoth
        refine ⟨fun _ h => (by cases h), ?_⟩
        go_simp
        exact hK
       ·intro _ a' hdep hoth K hK
        have gg' : a'.tmps[36]? = some (.bool true) := hdep ⟨1, .guard⟩ (by simp) rfl 36 rfl (by simp)
        rw [guard_is rfl rfl gg']
        rw [if_pos (by decide)]
        have g5 : a'.tmps[40]? = some (.slice (some ⟨gg, 0, none⟩) 13 vc) := hdep ⟨5, .data⟩ (by simp) rfl 40 rfl (by simp)
        have g6 : a'.tmps[41]? = some (.int .i64 (x : Nat)) := hdep ⟨6, .data⟩ (by simp) rfl 41 rfl (by simp)
        clear hdep hoth
        refine ⟨fun _ h => (by cases h), ?_⟩
        go_simp
        exact hK
       ·intro _ a' hdep hoth K hK
        have gg' : a'.tmps[36]? = some (.bool true) := hdep ⟨1, .guard⟩ (by simp) rfl 36 rfl (by simp)
        rw [guard_is rfl rfl gg']
        rw [if_pos (by decide)]
        have g7 : a'.tmps[42]? = some (.pointer (some ⟨gg, x, none⟩)) := hdep ⟨7, .data⟩ (by simp) rfl 42 rfl (by simp)
        clear hdep hoth
        refine ⟨fun _ h => (by cases h), ?_⟩
        go_simp
        exact hK
       ·intro _ a' hdep hoth K hK
        have gg' : a'.tmps[36]? = some (.bool true) := hdep ⟨1, .guard⟩ (by simp) rfl 36 rfl (by simp)
        rw [guard_is rfl rfl gg']
        rw [if_pos (by decide)]
        have g4 : a'.tmps[39]? = some (.int .i64 (f' x)) := hdep ⟨4, .data⟩ (by simp) rfl 39 rfl (by simp)
        have g8 : a'.tmps[43]? = some (.int .i64 (f x)) := hdep ⟨8, .data⟩ (by simp) rfl 43 rfl (by simp)
        have hbq := HBQ.out
        clear hdep hoth
        refine ⟨fun _ h => (by cases h), ?_⟩
        go_simp
        exact hK
       ·intro _ a' hdep hoth K hK
        rw [if_pos (guard_none rfl)]
        have g1 : a'.tmps[36]? = some (.bool true) := hdep ⟨1, .data⟩ (by simp) rfl 36 rfl (by simp)
        have g9 : a'.tmps[44]? = some (.bool true) := hdep ⟨9, .data⟩ (by simp) rfl 44 rfl (by simp)
        clear hdep hoth
        refine ⟨fun _ h => (by cases h), ?_⟩
        go_simp
        exact hK
      ·intro K hK
       unfold wpOpIn
       simp only [List.getElem?_toArray, List.getElem?_cons_succ, List.getElem?_cons_zero]
       rw [if_pos (guard_none rfl)]
       simp only [actOf, dstAt, spV, List.getD_cons_zero, List.getD_cons_succ, if_true, List.getElem?_toArray, List.getElem?_cons_succ, List.getElem?_cons_zero, Option.bind_some, Act.put, List.setIfInBounds_toArray, List.set_cons_zero, List.set_cons_succ]
       refine ⟨fun _ h => (by cases h), ?_⟩
       go_simp
       refine hK _ _ ?_
       gi_wp2
       refine HFIN.out true V HBV.out ?_
       rw [List.all_append, ← Bool.and_assoc, HQQ.out]
       simp [HFE.out]
     ·have HFE := hid hfe
      have HBQ := hid (show (f' x == f x) = false by simpa using fun e : f' x = f x => hfe e.symm)
      clear hfe
      refine wpIn_region_store (spV [.bool true, .bool true, .pointer (some ⟨w.heap.size + 1, x, none⟩), .pointer (some ⟨w.heap.size + 1, x, none⟩), .int .i64 (f' x), .slice (some ⟨gg, 0, none⟩) 13 vc, .int .i64 (x : Nat), .pointer (some ⟨gg, x, none⟩), .int .i64 (f x), .bool false, .bool false]) 11 V HVV.out (by kernel_rfl) rfl (by kernel_rfl) (by kernel_rfl) (by kernel_rfl) ?_ ?_
      ·refine ⟨?_, ?_, ?_, ?_, ?_, ?_, ?_, ?_, ?_, ?_, ?_, fun h => absurd h (by decide), trivial⟩
       ·intro _ a' hdep hoth K hK
        rw [if_pos (guard_none rfl)]
        have t5 := hoth 5 (notDst_at (by kernel_rfl))
        simp only [List.getElem?_toArray, List.getElem?_cons_succ, List.getElem?_cons_zero] at t5
        clear hdep hoth
        refine ⟨fun _ h => (by cases h), ?_⟩
        go_simp
        exact hK
       ·intro _ a' hdep hoth K hK
        rw [if_pos (guard_none rfl)]
        have g0 : a'.tmps[35]? = some (.bool true) := hdep ⟨0, .data⟩ (by simp) rfl 35 rfl (by simp)
        clear hdep hoth
        refine ⟨fun _ h => (by cases h), ?_⟩
        go_simp
        exact hK
       ·intro _ a' hdep hoth K hK
        have gg' : a'.tmps[36]? = some (.bool true) := hdep ⟨1, .guard⟩ (by simp) rfl 36 rfl (by simp)
        rw [guard_is rfl rfl gg']
        rw [if_pos (by decide)]
        have t10 := hoth 10 (notDst_at (by kernel_rfl))
        simp only [List.getElem?_toArray, List.getElem?_cons_succ, List.getElem?_cons_zero] at t10
        clear hdep hoth
        refine ⟨fun _ h => (by cases h), ?_⟩
        go_simp
        exact hK
       ·intro _ a' hdep hoth K hK
        have gg' : a'.tmps[36]? = some (.bool true) := hdep ⟨1, .guard⟩ (by simp) rfl 36 rfl (by simp)
        rw [guard_is rfl rfl gg']
        rw [if_pos (by decide)]
        have g2 : a'.tmps[37]? = some (.pointer (some ⟨w.heap.size + 1, x, none⟩)) := hdep ⟨2, .data⟩ (by simp) rfl 37 rfl (by simp)
        clear hdep hoth
        refine ⟨fun _ h => (by cases h), ?_⟩
        go_simp
        exact hK
       ·intro _ a' hdep hoth K hK
        have gg' : a'.tmps[36]? = some (.bool true) := hdep ⟨1, .guard⟩ (by simp) rfl 36 rfl (by simp)
        rw [guard_is rfl rfl gg']
        rw [if_pos (by decide)]
        have g3 : a'.tmps[38]? = some (.pointer (some ⟨w.heap.size + 1, x, none⟩)) := hdep ⟨3, .data⟩ (by simp) rfl 38 rfl (by simp)
        clear hdep hoth
        refine ⟨fun _ h => (by cases h), ?_⟩
        go_simp
        exact hK
       ·intro _ a' hdep hoth K hK
        have gg' : a'.tmps[36]? = some (.bool true) := hdep ⟨1, .guard⟩ (by simp) rfl 36 rfl (by simp)
        rw [guard_is rfl rfl gg']
        rw [if_pos (by decide)]
        have t6 := hoth 6 (notDst_at (by kernel_rfl))
        simp only [List.getElem?_toArray, List.getElem?_cons_succ, List.getElem?_cons_zero] at t6
        clear hdep hoth
        refine ⟨fun _ h => (by cases h), ?_⟩
        go_simp
        exact hK
       ·intro _ a' hdep hoth K hK
        have gg' : a'.tmps[36]? = some (.bool true) := hdep ⟨1, .guard⟩ (by simp) rfl 36 rfl (by simp)
        rw [guard_is rfl rfl gg']
        rw [if_pos (by decide)]
        have t9 := hoth 9 (notDst_at (by kernel_rfl))
        simp only [List.getElem?_toArray, List.getElem?_cons_succ, List.getElem?_cons_zero] at t9
        clear hdep hoth
        refine ⟨fun _ h => (by cases h), ?_⟩
        go_simp
        exact hK
       ·intro _ a' hdep hoth K hK
        have gg' : a'.tmps[36]? = some (.bool true) := hdep ⟨1, .guard⟩ (by simp) rfl 36 rfl (by simp)
        rw [guard_is rfl rfl gg']
        rw [if_pos (by decide)]
        have g5 : a'.tmps[40]? = some (.slice (some ⟨gg, 0, none⟩) 13 vc) := hdep ⟨5, .data⟩ (by simp) rfl 40 rfl (by simp)
        have g6 : a'.tmps[41]? = some (.int .i64 (x : Nat)) := hdep ⟨6, .data⟩ (by simp) rfl 41 rfl (by simp)
        clear hdep hoth
        refine ⟨fun _ h => (by cases h), ?_⟩
        go_simp
        exact hK
       ·intro _ a' hdep hoth K hK
        have gg' : a'.tmps[36]? = some (.bool true) := hdep ⟨1, .guard⟩ (by simp) rfl 36 rfl (by simp)
        rw [guard_is rfl rfl gg']
        rw [if_pos (by decide)]
        have g7 : a'.tmps[42]? = some (.pointer (some ⟨gg, x, none⟩)) := hdep ⟨7, .data⟩ (by simp) rfl 42 rfl (by simp)
        clear hdep hoth
        refine ⟨fun _ h => (by cases h), ?_⟩
        go_simp
        exact hK
       ·intro _ a' hdep hoth K hK
        have gg' : a'.tmps[36]? = some (.bool true) := hdep ⟨1, .guard⟩ (by simp) rfl 36 rfl (by simp)
        rw [guard_is rfl rfl gg']
        rw [if_pos (by decide)]
        have g4 : a'.tmps[39]? = some (.int .i64 (f' x)) := hdep ⟨4, .data⟩ (by simp) rfl 39 rfl (by simp)
        have g8 : a'.tmps[43]? = some (.int .i64 (f x)) := hdep ⟨8, .data⟩ (by simp) rfl 43 rfl (by simp)
        have hbq := HBQ.out
        clear hdep hoth
        refine ⟨fun _ h => (by cases h), ?_⟩
        go_simp
        exact hK
       ·intro _ a' hdep hoth K hK
        rw [if_pos (guard_none rfl)]
        have g1 : a'.tmps[36]? = some (.bool true) := hdep ⟨1, .data⟩ (by simp) rfl 36 rfl (by simp)
        have g9 : a'.tmps[44]? = some (.bool false) := hdep ⟨9, .data⟩ (by simp) rfl 44 rfl (by simp)
        clear hdep hoth
        refine ⟨fun _ h => (by cases h), ?_⟩
        go_simp
        exact hK
      ·intro K hK
       unfold wpOpIn
       simp only [List.getElem?_toArray, List.getElem?_cons_succ, List.getElem?_cons_zero]
       rw [if_pos (guard_none rfl)]
       simp only [actOf, dstAt, spV, List.getD_cons_zero, List.getD_cons_succ, if_true, List.getElem?_toArray, List.getElem?_cons_succ, List.getElem?_cons_zero, Option.bind_some, Act.put, List.setIfInBounds_toArray, List.set_cons_zero, List.set_cons_succ]
       refine ⟨fun _ h => (by cases h), ?_⟩
       go_simp
       refine hK _ _ ?_
       gi_wp2
       refine HFIN.out false V HBV.out ?_
       rw [List.all_append, ← Bool.and_assoc, HQQ.out]
       simp [HFE.out]
    | false =>
     refine wpIn_region_store (spV [.bool false, .bool false, undef, undef, undef, undef, undef, undef, undef, undef, .bool false]) 11 V HVV.out (by kernel_rfl) rfl (by kernel_rfl) (by kernel_rfl) (by kernel_rfl) ?_ ?_
     ·refine ⟨?_, ?_, ?_, ?_, ?_, ?_, ?_, ?_, ?_, ?_, ?_, fun h => absurd h (by decide), trivial⟩
      ·intro _ a' hdep hoth K hK
       rw [if_pos (guard_none rfl)]
       have t5 := hoth 5 (notDst_at (by kernel_rfl))
       simp only [List.getElem?_toArray, List.getElem?_cons_succ, List.getElem?_cons_zero] at t5
       clear hdep hoth
       refine ⟨fun _ h => (by cases h), ?_⟩
       go_simp
       exact hK
      ·intro _ a' hdep hoth K hK
       rw [if_pos (guard_none rfl)]
       have g0 : a'.tmps[35]? = some (.bool false) := hdep ⟨0, .data⟩ (by simp) rfl 35 rfl (by simp)
       clear hdep hoth
       refine ⟨fun _ h => (by cases h), ?_⟩
       go_simp
       exact hK
      ·intro _ a' hdep hoth K hK
       have gg' : a'.tmps[36]? = some (.bool false) := hdep ⟨1, .guard⟩ (by simp) rfl 36 rfl (by simp)
       rw [guard_is rfl rfl gg']
       rw [if_neg (by decide)]
       exact ⟨fun _ h => (by cases h), hK⟩
      ·intro _ a' hdep hoth K hK
       have gg' : a'.tmps[36]? = some (.bool false) := hdep ⟨1, .guard⟩ (by simp) rfl 36 rfl (by simp)
       rw [guard_is rfl rfl gg']
       rw [if_neg (by decide)]
       exact ⟨fun _ h => (by cases h), hK⟩
      ·intro _ a' hdep hoth K hK
       have gg' : a'.tmps[36]? = some (.bool false) := hdep ⟨1, .guard⟩ (by simp) rfl 36 rfl (by simp)
       rw [guard_is rfl rfl gg']
       rw [if_neg (by decide)]
       exact ⟨fun _ h => (by cases h), hK⟩
      ·intro _ a' hdep hoth K hK
       have gg' : a'.tmps[36]? = some (.bool false) := hdep ⟨1, .guard⟩ (by simp) rfl 36 rfl (by simp)
       rw [guard_is rfl rfl gg']
       rw [if_neg (by decide)]
       exact ⟨fun _ h => (by cases h), hK⟩
      ·intro _ a' hdep hoth K hK
       have gg' : a'.tmps[36]? = some (.bool false) := hdep ⟨1, .guard⟩ (by simp) rfl 36 rfl (by simp)
       rw [guard_is rfl rfl gg']
       rw [if_neg (by decide)]
       exact ⟨fun _ h => (by cases h), hK⟩
      ·intro _ a' hdep hoth K hK
       have gg' : a'.tmps[36]? = some (.bool false) := hdep ⟨1, .guard⟩ (by simp) rfl 36 rfl (by simp)
       rw [guard_is rfl rfl gg']
       rw [if_neg (by decide)]
       exact ⟨fun _ h => (by cases h), hK⟩
      ·intro _ a' hdep hoth K hK
       have gg' : a'.tmps[36]? = some (.bool false) := hdep ⟨1, .guard⟩ (by simp) rfl 36 rfl (by simp)
       rw [guard_is rfl rfl gg']
       rw [if_neg (by decide)]
       exact ⟨fun _ h => (by cases h), hK⟩
      ·intro _ a' hdep hoth K hK
       have gg' : a'.tmps[36]? = some (.bool false) := hdep ⟨1, .guard⟩ (by simp) rfl 36 rfl (by simp)
       rw [guard_is rfl rfl gg']
       rw [if_neg (by decide)]
       exact ⟨fun _ h => (by cases h), hK⟩
      ·intro _ a' hdep hoth K hK
       rw [if_pos (guard_none rfl)]
       have g1 : a'.tmps[36]? = some (.bool false) := hdep ⟨1, .data⟩ (by simp) rfl 36 rfl (by simp)
       clear hdep hoth
       refine ⟨fun _ h => (by cases h), ?_⟩
       go_simp
       exact hK
     ·intro K hK
      unfold wpOpIn
      simp only [List.getElem?_toArray, List.getElem?_cons_succ, List.getElem?_cons_zero]
      rw [if_pos (guard_none rfl)]
      simp only [actOf, dstAt, spV, List.getD_cons_zero, List.getD_cons_succ, if_true, List.getElem?_toArray, List.getElem?_cons_succ, List.getElem?_cons_zero, Option.bind_some, Act.put, List.setIfInBounds_toArray, List.set_cons_zero, List.set_cons_succ]
      refine ⟨fun _ h => (by cases h), ?_⟩
      go_simp
      refine hK _ _ ?_
      gi_wp2
      refine HFIN.out false V HBV.out ?_
      rw [List.all_append, ← Bool.and_assoc, HQQ.out]
      rfl
  
   case done =>
    rintro D2 ys X hD2 hys ⟨hcs, hDf⟩ hK2
    subst hys
    unfold CsK at hcs
    rw [all13] at hcs
    have hrq := HS0.out
    rw [hrq] at hcs
    have c5 : X.cell? ⟨T5, 0, none⟩ = some (.bool r) := blk_cell hcs.b5 0
    have l5 := blk_lt hcs.b5
    have HBX := hid hcs.bel
    have HD := hid hDf
    have HK2 := hid hK2
    have hne : D2 ≠ D := by omega
    have hle : w.heap.size ≤ D ∧ w.heap.size ≤ D2 := ⟨Nat.le_trans HBW0.out.size hD, Nat.le_trans (Nat.le_trans HBW0.out.size hsz1) hD2⟩
    clear hcs hrq hDf hK2
    go_wp2
    refine ⟨by simp, .inl ⟨_, _, rfl, run_takeDeferred HK2.out, ?_⟩⟩
    refine ⟨by simp, .inl ⟨_, _, rfl, run_takeDeferred ((World.putObj_heap_other (Ne.symm hne)).trans HD.out), ?_⟩⟩
    exact ⟨_, results_tmp rfl _ _ _, rfl, below_put (below_put HBX.out hle.2 _) hle.1 _⟩
end Go.Proofs.YtgcajfglidflnaaGreatDoor

/- brain.Same: exact. Printed by gn_bsm.py. -/
namespace Go.Proofs.YtgcajfglidflnaaGreatDoor
open Go.RowKit Go.Shelf
attribute [-go_sem] loadVar run_equalIn_agg
attribute [local go_sem] load_other2

set_option maxRecDepth 100000 in
set_option maxHeartbeats 2000000 in
theorem bsame_any (A B : BrainV) (m1 i1 k1 m2 i2 k2 : Value) (w : World) (hm1 : RowOf 1 encI w m1 A.M) (hi1 : RowOf 4 encIn w i1 A.I) (hk1 : RowOf 8 encKp w k1 A.K) (hm2 : RowOf 1 encI w m2 B.M) (hi2 : RowOf 4 encIn w i2 B.I) (hk2 : RowOf 8 encKp w k2 B.K) :
  Calls Tryz.prog 27 #[.agg (brT A.f A.g m1 i1 k1), .agg (brT B.f B.g m2 i2 k2)] w fun e w' => e = .returned (.bool (sameB A B)) ∧ Below w.heap.size w w' := by
 obtain ⟨ia, ic, rfl, ip1, ip2, ip3, hio1⟩ := hi1.open
 obtain ⟨ja, jc, rfl, jp1, jp2, jp3, hio2⟩ := hi2.open
 obtain ⟨ka, kc, rfl, kp1, kp2, kp3, hko1⟩ := hk1.open
 obtain ⟨la, lc, rfl, lp1, lp2, lp3, hko2⟩ := hk2.open
 have HQI1 := hid hi1
 have HQI2 := hid hi2
 have HQK1 := hid hk1
 have HQK2 := hid hk2
 obtain ⟨ni, hni⟩ : ∃ n, B.I.length = n := ⟨_, rfl⟩
 obtain ⟨nk, hnk⟩ : ∃ n, B.K.length = n := ⟨_, rfl⟩
 rw [hni] at jp1 jp3 hio2 hi2 HQI2 ⊢
 rw [hnk] at lp1 lp3 hko2 hk2 HQK2 ⊢
 obtain ⟨W1, hW1⟩ : ∃ W1, W1 = (w.alloc (.cells (brT A.f A.g m1 (.slice ia A.I.length ic) (.slice ka A.K.length kc)) 33)).alloc (.cells (brT B.f B.g m2 (.slice ja ni jc) (.slice la nk lc)) 33) := ⟨_, rfl⟩
 have hb1 : Below w.heap.size w W1 := by rw [hW1]; exact ((Below.refl _ _).alloc (Nat.le_refl _) _).alloc (by simp) _
 have n1 : BB W1 w.heap.size (brT A.f A.g m1 (.slice ia A.I.length ic) (.slice ka A.K.length kc)) := by rw [hW1]; exact blk_alloc (heap_new _ _) _
 have n2 : BB W1 (w.heap.size + 1) (brT B.f B.g m2 (.slice ja ni jc) (.slice la nk lc)) := by rw [hW1]; exact heap_new2 _ _ _
 have hz : W1.heap.size = w.heap.size + 2 := by rw [hW1]; simp
 obtain ⟨r, hr⟩ : ∃ r, sameB A B = r := ⟨_, rfl⟩
 rw [hr]
 have HR := hid hr
 obtain ⟨a0, ha0⟩ : ∃ a, A.f 0 = a := ⟨_, rfl⟩
 obtain ⟨b0, hb0⟩ : ∃ a, B.f 0 = a := ⟨_, rfl⟩
 obtain ⟨a1, ha1⟩ : ∃ a, A.f 1 = a := ⟨_, rfl⟩
 obtain ⟨b1, hbb1⟩ : ∃ a, B.f 1 = a := ⟨_, rfl⟩
 obtain ⟨ga, hga⟩ : ∃ a, A.g 2 = a := ⟨_, rfl⟩
 obtain ⟨gb, hgb⟩ : ∃ a, B.g 2 = a := ⟨_, rfl⟩
 have HW1 := hid hW1
 have N1 := hid n1
 have N2 := hid n2
 have HB1 := hid hb1
 have HIO1 := hid hio1
 have HIO2 := hid hio2
 have HKO1 := hid hko1
 have HKO2 := hid hko2
 have HA0 := hid ha0
 have HB0 := hid hb0
 have HA1 := hid ha1
 have HBB1 := hid hbb1
 have HGA := hid hga
 have HGB := hid hgb
 have HNI := hid hni
 have HNK := hid hnk
 have HM1 := hid (hm1.below hb1)
 have HM2 := hid (hm2.below hb1)
 have hl1 : w.heap.size < W1.heap.size := by omega
 have hl2 : w.heap.size + 1 < W1.heap.size := by omega
 have x0 : W1.cell? ⟨w.heap.size, 0, none⟩ = some (.int .i64 a0) := by rw [← ha0]; exact blk_cell n1 0
 have x1 : W1.cell? ⟨w.heap.size, 1, none⟩ = some (.int .i64 a1) := by rw [← ha1]; exact blk_cell n1 1
 have x2 : W1.cell? ⟨w.heap.size, 2, none⟩ = some (.bool ga) := by rw [← hga]; exact blk_cell n1 2
 have y0 : W1.cell? ⟨w.heap.size + 1, 0, none⟩ = some (.int .i64 b0) := by rw [← hb0]; exact blk_cell n2 0
 have y1 : W1.cell? ⟨w.heap.size + 1, 1, none⟩ = some (.int .i64 b1) := by rw [← hbb1]; exact blk_cell n2 1
 have y2 : W1.cell? ⟨w.heap.size + 1, 2, none⟩ = some (.bool gb) := by rw [← hgb]; exact blk_cell n2 2
 have lm1 := load_mid n1
 have lm2 := load_mid n2
 rw [hW1] at x0 x1 x2 y0 y1 y2 hl1 hl2 lm1 lm2
 clear hm1 hi1 hk1 hm2 hi2 hk2 hio1 hio2 hko1 hko2 n1 n2 hb1 hr ha0 hb0 ha1 hbb1 hga hgb hni hnk hW1
 by_cases h0 : a0 = b0
 rotate_left
 ·have q0 : (a0 == b0) = false := by simpa using h0
  obtain rfl : r = false := sameB_no HR.out (fun e => h0 (by rw [← HA0.out, ← HB0.out]; exact e.1))
  clear h0
  go_enter Tryz.func27, Tryz.ntmps27
  go_wp2
  go_ret
  rw [← HW1.out]
  exact ⟨rfl, HB1.out⟩
 subst h0
 by_cases h0 : a1 = b1
 rotate_left
 ·have q0 : (a1 == b1) = false := by simpa using h0
  obtain rfl : r = false := sameB_no HR.out (fun e => h0 (by rw [← HA1.out, ← HBB1.out]; exact e.2.1))
  clear h0
  go_enter Tryz.func27, Tryz.ntmps27
  go_wp2
  go_ret
  rw [← HW1.out]
  exact ⟨rfl, HB1.out⟩
 subst h0
 by_cases h0 : ga = gb
 rotate_left
 ·obtain rfl : r = false := sameB_no HR.out (fun e => h0 (by rw [← HGA.out, ← HGB.out]; exact e.2.2.1))
  obtain rfl : gb = !ga := by cases ga <;> cases gb <;> simp_all
  clear h0
  go_enter Tryz.func27, Tryz.ntmps27
  go_wp2
  go_ret
  rw [← HW1.out]
  exact ⟨rfl, HB1.out⟩
 subst h0
 obtain ⟨s, hs⟩ : ∃ s, sameC (fun i => A.f (i + 3)) (A.g 16) A.M (fun i => B.f (i + 3)) (B.g 16) B.M = s := ⟨_, rfl⟩
 have HS := hid hs
 have HC := hid (csame_any _ _ _ _ _ _ _ _ s hs W1 HM1.out HM2.out)
 clear hs
 go_enter Tryz.func27, Tryz.ntmps27
 go_wp2_with fail
 rw [← HW1.out]
 refine HC.out.mono ?_
 rintro e V ⟨rfl, hb⟩
 have HBV := hid (HB1.out.trans (hb.mono HB1.out.size))
 have D1 := hid (N1.out.below hb (blk_lt N1.out))
 have D2 := hid (N2.out.below hb (blk_lt N2.out))
 have l1 := blk_lt D1.out
 have l2 := blk_lt D2.out
 clear hb x0 x1 x2 y0 y1 y2 lm1 lm2 hl1 hl2
 cases s with
 | false =>
  obtain rfl : r = false := sameB_no HR.out (fun e => by have := e.2.2.2.1; rw [HS.out] at this; cases this)
  go_wp2
  go_ret
  exact ⟨rfl, HBV.out⟩
 | true =>
  have x20 : V.cell? ⟨w.heap.size, 20, none⟩ = some (.int .u8 (A.f 20)) := blk_cell D1.out 20
  have x21 : V.cell? ⟨w.heap.size, 21, none⟩ = some (.int .i64 (A.f 21)) := blk_cell D1.out 21
  have x22 : V.cell? ⟨w.heap.size, 22, none⟩ = some (.int .i64 (A.f 22)) := blk_cell D1.out 22
  have x23 : V.cell? ⟨w.heap.size, 23, none⟩ = some (.int .i64 (A.f 23)) := blk_cell D1.out 23
  have x24 : V.cell? ⟨w.heap.size, 24, none⟩ = some (.bool (A.g 24)) := blk_cell D1.out 24
  have x25 : V.cell? ⟨w.heap.size, 25, none⟩ = some (.int .i64 (A.f 25)) := blk_cell D1.out 25
  have x26 : V.cell? ⟨w.heap.size, 26, none⟩ = some (.int .i64 (A.f 26)) := blk_cell D1.out 26
  have y20 : V.cell? ⟨w.heap.size + 1, 20, none⟩ = some (.int .u8 (B.f 20)) := blk_cell D2.out 20
  have y21 : V.cell? ⟨w.heap.size + 1, 21, none⟩ = some (.int .i64 (B.f 21)) := blk_cell D2.out 21
  have y22 : V.cell? ⟨w.heap.size + 1, 22, none⟩ = some (.int .i64 (B.f 22)) := blk_cell D2.out 22
  have y23 : V.cell? ⟨w.heap.size + 1, 23, none⟩ = some (.int .i64 (B.f 23)) := blk_cell D2.out 23
  have y24 : V.cell? ⟨w.heap.size + 1, 24, none⟩ = some (.bool (B.g 24)) := blk_cell D2.out 24
  have y25 : V.cell? ⟨w.heap.size + 1, 25, none⟩ = some (.int .i64 (B.f 25)) := blk_cell D2.out 25
  have y26 : V.cell? ⟨w.heap.size + 1, 26, none⟩ = some (.int .i64 (B.f 26)) := blk_cell D2.out 26
  have x18 : V.cell? ⟨w.heap.size, 18, none⟩ = some (.slice ia A.I.length ic) := blk_cell D1.out 18
  have x19 : V.cell? ⟨w.heap.size, 19, none⟩ = some (.slice ka A.K.length kc) := blk_cell D1.out 19
  have y18 : V.cell? ⟨w.heap.size + 1, 18, none⟩ = some (.slice ja ni jc) := blk_cell D2.out 18
  have y19 : V.cell? ⟨w.heap.size + 1, 19, none⟩ = some (.slice la nk lc) := blk_cell D2.out 19
  have hne := eqlrfE_run ⟨A.f 20, A.f 21, A.f 22, A.f 23, A.g 24, A.f 25, A.f 26⟩ ⟨B.f 20, B.f 21, B.f 22, B.f 23, B.g 24, B.f 25, B.f 26⟩
  dsimp only at hne
  by_cases h0 : refOf A = refOf B
  rotate_left
  ·rw [show rfEB ⟨A.f 20, A.f 21, A.f 22, A.f 23, A.g 24, A.f 25, A.f 26⟩ ⟨B.f 20, B.f 21, B.f 22, B.f 23, B.g 24, B.f 25, B.f 26⟩ = false by rw [Bool.eq_false_iff]; intro e; exact h0 (rfEB_iff.1 e)] at hne
   obtain rfl : r = false := sameB_no HR.out (fun e => h0 e.2.2.2.2.1)
   clear h0
   go_wp2
   go_ret
   exact ⟨rfl, HBV.out⟩
  rw [show rfEB ⟨A.f 20, A.f 21, A.f 22, A.f 23, A.g 24, A.f 25, A.f 26⟩ ⟨B.f 20, B.f 21, B.f 22, B.f 23, B.g 24, B.f 25, B.f 26⟩ = true from rfEB_iff.2 h0] at hne
  have HRF := hid h0
  clear h0
  have HIA := hid (show RowOf 4 encIn V (.slice ia A.I.length ic) A.I from HQI1.out.below HBV.out)
  have HIB := hid (show RowOf 4 encIn V (.slice ja ni jc) B.I from HQI2.out.below HBV.out)
  obtain ⟨si, hsi⟩ : ∃ q, decide (A.I = B.I) = q := ⟨_, rfl⟩
  have HSI := hid hsi
  have HEI := hid (equalN_any _ _ A.I B.I si hsi V HIA.out HIB.out)
  clear hsi
  go_wp2_with fail
  refine HEI.out.mono ?_
  rintro e V2 ⟨rfl, hb2⟩
  have HBV2 := hid (HBV.out.trans (hb2.mono HBV.out.size))
  have k1 := D1.out.below hb2 l1
  have k2 := D2.out.below hb2 l2
  have z19 : V2.cell? ⟨w.heap.size, 19, none⟩ = some (.slice ka A.K.length kc) := blk_cell k1 19
  have u19 : V2.cell? ⟨w.heap.size + 1, 19, none⟩ = some (.slice la nk lc) := blk_cell k2 19
  have m1l := blk_lt k1
  have m2l := blk_lt k2
  clear hb2 k1 k2 x18 x19 y18 y19 x20 x21 x22 x23 x24 x25 x26 y20 y21 y22 y23 y24 y25 y26 hne l1 l2
  cases si with
  | false =>
   obtain rfl : r = false := sameB_no HR.out (fun e => by have := HSI.out; rw [decide_eq_false_iff_not] at this; exact this e.2.2.2.2.2.1)
   go_wp2
   go_ret
   exact ⟨rfl, HBV2.out⟩
  | true =>
   have HKA := hid (show RowOf 8 encKp V2 (.slice ka A.K.length kc) A.K from HQK1.out.below HBV2.out)
   have HKB := hid (show RowOf 8 encKp V2 (.slice la nk lc) B.K from HQK2.out.below HBV2.out)
   obtain ⟨sk, hsk⟩ : ∃ q, decide (A.K = B.K) = q := ⟨_, rfl⟩
   have HSK := hid hsk
   have HEK := hid (equalK_any _ _ A.K B.K sk hsk V2 HKA.out HKB.out)
   clear hsk
   go_wp2_with fail
   refine HEK.out.mono ?_
   rintro e V3 ⟨rfl, hb3⟩
   have HBV3 := hid (HBV2.out.trans (hb3.mono HBV2.out.size))
   clear hb3
   obtain rfl : r = sk := by
    rw [← HR.out, ← HSK.out, Bool.eq_iff_iff, sameB_iff_parts, decide_eq_true_eq]
    exact ⟨fun e => e.2.2.2.2.2.2, fun e => ⟨by rw [HA0.out, HB0.out], by rw [HA1.out, HBB1.out], by rw [HGA.out, HGB.out], HS.out, HRF.out, of_decide_eq_true HSI.out, e⟩⟩
   go_wp2
   go_ret
   exact ⟨rfl, HBV3.out⟩
end Go.Proofs.YtgcajfglidflnaaGreatDoor
