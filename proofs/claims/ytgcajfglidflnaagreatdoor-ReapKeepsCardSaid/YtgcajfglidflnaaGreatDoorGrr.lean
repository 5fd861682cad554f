import Derived.Test.YtgcajfglidflnaaGreatDoorCut
import Derived.Test.YtgcajfglidflnaaGreatDoorGtm
/- A region whose operations only make memory, some of them guarded: whatever order they come up in, one walk an operation. -/
namespace Go
open RowKit Shelf
section
variable {P : Program} {ops : Array Oper} {Q : Exit → Act → World → Prop}

/-- Each operation waits for earlier ones alone. -/
def lowOps (ops : Array Oper) : Bool := (List.range ops.size).all fun i => match ops[i]? with
 | some o => o.after.all fun e => !Region.binds .any e || decide (e.on < i)
 | none => true
theorem lowOps_at (h : lowOps ops = true) {i : Nat} {o : Oper} (ho : ops[i]? = some o) : ∀ e ∈ o.after, Region.binds .any e = true → e.on < i := by
 have hlt : i < ops.size := (Array.getElem?_eq_some_iff.1 ho).1
 have := List.all_eq_true.1 h i (List.mem_range.2 hlt)
 simp only [ho] at this
 intro e he hb
 have := Array.all_eq_true_iff_forall_mem.1 this e he
 simpa [hb] using this
/-- What is to be shown of one operation: .. -/
def GuardStep (P : Program) (ops : Array Oper) (Q : Exit → Act → World → Prop) (a0 : Act) (w0 : World) (sp : Nat → Value → World → Prop) (i : Nat) (o : Oper) : Prop :=
 ∀ (a : Act) (w : World), Below w0.heap.size w0 w →
  (∀ e ∈ o.after, Region.binds .any e = true → ∃ v, (∀ d, dstAt ops e.on = some d → d < a0.tmps.size → a.tmps[d]? = some v) ∧ sp e.on v w) →
  (∀ t, (∀ j, j < ops.size → dstAt ops j ≠ some t) → a.tmps[t]? = a0.tmps[t]?) →
  ∀ K : Act → World → Prop, (∀ v w', Below w.heap.size w w' → sp i v w' → K (a.put o.dst v) w') → if Region.wanted o (yielded ops a.tmps) = true then o.wp P a w K Q else K (a.put o.dst undef) w
theorem guard_none {o : Oper} {a : Act} (hg : o.guard = none) : Region.wanted o (yielded ops a.tmps) = true := by simp [Region.wanted, hg]
theorem guard_is {o : Oper} {a : Act} {j : Nat} {b c : Bool} {d : Tmp} (hg : o.guard = some (j, b)) (hd : dstAt ops j = some d) (ha : a.tmps[d]? = some (.bool c)) : Region.wanted o (yielded ops a.tmps) = (c == b) := by
 unfold dstAt at hd
 simp [Region.wanted, hg, yielded, hd, ha]
theorem all_listedG (h : lowOps ops = true) {lp : Array Bool} (hl : lp.size = ops.size) (hr : Region.ready .any ops lp = []) : ∀ i, i < ops.size → lp.getD i false = true := by
 intro i
 induction i using Nat.strongRecOn with
 | ind i ih =>
  intro hi
  cases hq : lp.getD i false with
  | true => rfl
  | false =>
   exfalso
   have ho : ops[i]? = some ops[i] := Array.getElem?_eq_some_iff.2 ⟨hi, rfl⟩
   have hm : i ∈ Region.ready .any ops lp := by
    rw [mem_ready]
    refine ⟨?_, ops[i], ho, fun e he hb => ih e.on (lowOps_at h ho e he hb) (by have := lowOps_at h ho e he hb; omega)⟩
    have hil : i < lp.size := by omega
    simp only [Array.getD, hil, dif_pos] at hq ⊢
    exact hq
   rw [hr] at hm
   cases hm

theorem wpAnyH_growG (a0 : Act) (w0 : World) (sp : Nat → Value → World → Prop) (hsp : ∀ i v w w', sp i v w → Below w.heap.size w w' → sp i v w') (hd : apartDst ops = true) (hp : lowOps ops = true)
  (hstep : ∀ i o, ops[i]? = some o → GuardStep P ops Q a0 w0 sp i o)
  (hend : ∀ (vs : Nat → Value) (w : World), Below w0.heap.size w0 w → (∀ j, j < ops.size → sp j (vs j) w) → Q .normal (actOf ops vs (fun _ => true) a0 ops.size) w) :
  ∀ (fuel : Nat) (lp : Array Bool) (vs : Nat → Value) (w : World), lp.size = ops.size → left ops.size (fun j => lp.getD j false) ≤ fuel → Below w0.heap.size w0 w → (∀ j, j < ops.size → lp.getD j false = true → sp j (vs j) w) →
   wpAnyH P .any ops Q (fun _ => True) fuel lp (actOf ops vs (fun j => lp.getD j false) a0 ops.size) w := by
 have hfin : ∀ (lp : Array Bool) (vs : Nat → Value) (w : World), (∀ j, j < ops.size → lp.getD j false = true) → Below w0.heap.size w0 w → (∀ j, j < ops.size → lp.getD j false = true → sp j (vs j) w) → Q .normal (actOf ops vs (fun j => lp.getD j false) a0 ops.size) w := by
  intro lp vs w hall hb hs
  rw [actOf_congr (l' := fun _ => true) (vs' := vs) fun j hj => ⟨hall j hj, fun _ => rfl⟩]
  exact hend vs w hb fun j hj => hs j hj (hall j hj)
 intro fuel
 induction fuel with
 | zero =>
  intro lp vs w hl hle hb hs
  have hall := left_none (Nat.le_zero.1 hle)
  refine ⟨?_, hfin lp vs w hall hb hs⟩
  cases hr : Region.ready .any ops lp with
  | nil => rfl
  | cons x xs =>
   exfalso
   have hx : x ∈ Region.ready .any ops lp := by rw [hr]; exact List.mem_cons_self ..
   obtain ⟨h0, o, ho, _⟩ := mem_ready.1 hx
   have hxm := (Array.getElem?_eq_some_iff.1 ho).1
   have h1 := hall x hxm
   have hxl : x < lp.size := by omega
   simp only [Array.getD, hxl, dif_pos] at h0 h1
   rw [h0] at h1
   cases h1
 | succ fuel ih =>
  intro lp vs w hl hle hb hs
  refine ⟨fun hr => hfin lp vs w (all_listedG hp hl hr) hb hs, fun i hi => ?_⟩
  obtain ⟨h0, o, ho, hall⟩ := mem_ready.1 hi
  have him := (Array.getElem?_eq_some_iff.1 ho).1
  have hil : i < lp.size := by omega
  have hli : lp.getD i false = false := by simp only [Array.getD, hil, dif_pos] at h0 ⊢; exact h0
  have hdi : dstAt ops i = o.dst := by unfold dstAt; rw [ho]; rfl
  have hset : ∀ j, (lp.setIfInBounds i true).getD j false = (j == i || lp.getD j false) := by
   intro j
   by_cases h : j = i
   ·subst h; simp [hil]
   ·have : i ≠ j := fun e => h e.symm
    have hb : (j == i) = false := by simpa using h
    rw [getD_set_ne false this, hb, Bool.false_or]
  have hlow := lowOps_at hp ho
  unfold wpOp
  simp only [ho]
  have hgo := hstep i o ho (actOf ops vs (fun j => lp.getD j false) a0 ops.size) w hb (fun e he hbd => by
   have hel := hall e he hbd
   have heo : e.on < ops.size := by have := hlow e he hbd; omega
   exact ⟨vs e.on, fun d hd' hds => actOf_at hd hd' hel hds heo (Nat.le_refl _), hs e.on heo hel⟩) (fun t ht => actOf_other ht) (fun a' w' => True ∧ wpAnyH P .any ops Q (fun _ => True) fuel (lp.setIfInBounds i true) a' w') (fun v w' hbw hv => ⟨trivial, ?_⟩)
  ·split
   ·rename_i hw
    rw [if_pos hw] at hgo
    exact .inl hgo
   ·rename_i hw
    rw [if_neg hw] at hgo
    exact hgo
  ·rw [← hdi, actOf_put hd v hli him (Nat.le_refl _)]
   have hcg := actOf_congr (ops := ops) (a := a0) (vs := fun j => if j = i then v else vs j) (vs' := fun j => if j = i then v else vs j) (l := fun j => j == i || lp.getD j false) (l' := fun j => (lp.setIfInBounds i true).getD j false) (m := ops.size) fun j _ => ⟨(hset j).symm, fun _ => rfl⟩
   rw [hcg]
   refine ih _ _ w' (by simp [hl]) ?_ (hb.trans (hbw.mono hb.size)) fun j hj hlj => ?_
   ·have := left_less (m := ops.size) (l := fun j => lp.getD j false) (l' := fun j => (lp.setIfInBounds i true).getD j false) him hli hset
    omega
   ·by_cases h : j = i
    ·subst h
     simpa using hv
    ·rw [hset j] at hlj
     have hbj : (j == i) = false := by simpa using h
     rw [hbj, Bool.false_or] at hlj
     show sp j (if j = i then v else vs j) w'
     rw [if_neg h]
     exact hsp j _ w w' (hs j hj hlj) hbw
/-- The whole: all come up; then the rest. -/
theorem wpAnyH_grownG {l : List Oper} {a0 : Act} {w0 : World} (sp : Nat → Value → World → Prop) (hsp : ∀ i v w w', sp i v w → Below w.heap.size w w' → sp i v w') (hd : apartDst l.toArray = true) (hp : lowOps l.toArray = true)
  (hstep : AllAt (GuardStep P l.toArray Q a0 w0 sp) 0 l)
  (hend : ∀ (vs : Nat → Value) (w : World), Below w0.heap.size w0 w → (∀ j, j < l.length → sp j (vs j) w) → Q .normal (actOf l.toArray vs (fun _ => true) a0 l.length) w) {m : Nat} (hm : l.length = m) :
  wpAnyH P .any l.toArray Q (fun _ => True) m (Array.replicate m false) a0 w0 := by
 subst hm
 have e : ∀ m, actOf l.toArray (fun _ => undef) (fun j => (Array.replicate l.length false).getD j false) a0 m = a0 := by
  intro m
  induction m with
  | zero => rfl
  | succ m ih =>
   unfold actOf
   rw [if_neg (by simp [Array.getD]), ih]
 have := wpAnyH_growG (P := P) (Q := Q) a0 w0 sp hsp hd hp (fun i o ho => by have := hstep.at i o (by simpa using ho); simpa using this) (by simpa using hend) l.length (Array.replicate l.length false) (fun _ => undef) w0 (by simp) (by unfold left; exact Nat.le_trans (List.length_filter_le _ _) (by simp)) (Below.refl _ _) (fun j _ h => by simp [Array.getD] at h)
 rwa [e] at this
end
end Go

/- herdref13.Find, herdref13.Token. Printed by gn_rft.py. -/
namespace Go.Proofs.YtgcajfglidflnaaGreatDoor
open Go.RowKit Go.Shelf
attribute [-go_sem] loadVar
attribute [local go_sem] load_other

set_option maxRecDepth 100000 in
set_option maxHeartbeats 1000000 in
theorem rfind13_any (B : BrainV) (v : Value) (t : Int) (w : World) (h : BrIs w B v) :
  Calls Tryz.prog 13 #[v, .int .i64 t] w fun e w' => e = .returned (.int .i64 (idxL B.K (fun x => x.id == t))) ∧ Below w.heap.size w w' := by
 obtain ⟨ma, mc, ia, ic, ka, kc, rfl, hm, hi, hk⟩ := h.open
 obtain ⟨_, _, he, p1, p2, p3, hop⟩ := hk.open
 cases he
 obtain ⟨W1, hW1⟩ : ∃ W1, W1 = w.alloc (.cells (brT B.f B.g (.slice ma B.M.length mc) (.slice ia B.I.length ic) (.slice ka B.K.length kc)) 33) := ⟨_, rfl⟩
 have hb1 : Below w.heap.size w W1 := by rw [hW1]; exact (Below.refl _ _).alloc (Nat.le_refl _) _
 have n1 : BB W1 w.heap.size (brT B.f B.g (.slice ma B.M.length mc) (.slice ia B.I.length ic) (.slice ka B.K.length kc)) := by rw [hW1]; exact heap_new _ _
 have x0 : W1.cell? ⟨w.heap.size, 19, none⟩ = some (.slice ka B.K.length kc) := blk_cell n1 19
 have hl1 := blk_lt n1
 obtain ⟨r, hr⟩ : ∃ r, idxL B.K (fun x => x.id == t) = r := ⟨_, rfl⟩
 rw [hr]
 have HR := hid hr
 have HB1 := hid hb1
 have HOP := hid hop
 have HW1 := hid hW1
 have X0 := hid x0
 clear h hm hi hk hop n1 hb1 hr x0 hW1
 go_enter Tryz.func13, Tryz.ntmps13
 go_wp2
 rw [← HW1.out]
 go_loopw [5] (fun i wr => ∃ k : Nat, k ≤ B.K.length ∧ i = .int .i64 k ∧ (∀ y ∈ B.K.take k, (y.id == t) = false) ∧ Below W1.heap.size W1 wr) (fun i _ => B.K.length - (intOf i).toNat)
 case atStart => exact ⟨0, Nat.zero_le _, rfl, (fun x hx => by simp at hx), Below.refl _ _⟩
 case round =>
  obtain ⟨k, hk, rfl, hno, hB⟩ := hrel
  have HNO := hid hno
  have HB := hid hB
  have HBW := hid (HB1.out.trans (hB.mono HB1.out.size))
  have z0 := cell_below X0.out hB
  have lr1 : w.heap.size < wr.heap.size := Nat.lt_of_lt_of_le hl1 hB.size
  clear hno hB
  by_cases hlt : k < B.K.length
  ·obtain ⟨b1, o1, rfl, hb1, hr1⟩ := HOP.out (by omega)
   obtain ⟨x, hx⟩ := get_lt hlt
   obtain ⟨g0, _, _, _, _, _, _, _⟩ := rowK (hr1.below HBW.out hb1) hx
   have hkL : (k : Int) < (B.K.length : Int) := by omega
   have hb1w : b1 < wr.heap.size := Nat.lt_of_lt_of_le hb1 HBW.out.size
   have HX := hid hx
   obtain ⟨u, hu⟩ : ∃ u, x.id = u := ⟨_, rfl⟩
   have HU := hid hu
   rw [hu] at g0
   clear hx hr1 hu
   by_cases hut : u = t
   ·have d1 : (u == t) = true := by simpa using hut
    have HE := hid (show idxL B.K (fun x => x.id == t) = (k : Int) from idxL_at HX.out (by rw [HU.out]; exact d1) HNO.out)
    obtain rfl : r = (k : Int) := by rw [← HR.out]; exact HE.out
    clear hut
    go_wp2
    go_ret
    exact ⟨rfl, HBW.out⟩
   ·have d1 : (u == t) = false := by simpa using hut
    have HN := hid (idxL_next HX.out HNO.out (by rw [HU.out]; exact d1))
    clear hut
    go_wp2
    go_roundw
    case rel => exact ⟨k + 1, by omega, by go_num, HN.out, HB.out⟩
    case measure => simp [intOf]; omega
  ·obtain rfl : k = B.K.length := by omega
   have HE := hid (show idxL B.K (fun x => x.id == t) = -1 from idxL_no (by have := HNO.out; rwa [List.take_length] at this))
   obtain rfl : r = -1 := by rw [← HR.out]; exact HE.out
   go_wp2
   go_ret
   exact ⟨rfl, HBW.out⟩
theorem rfind13_at (B : BrainV) (v : Value) (t r : Int) (hr : idxL B.K (fun x => x.id == t) = r) (w : World) (h : BrIs w B v) :
  Calls Tryz.prog 13 #[v, .int .i64 t] w fun e w' => e = .returned (.int .i64 r) ∧ Below w.heap.size w w' := by
 rw [← hr]; exact rfind13_any B v t w h
set_option maxRecDepth 100000 in
set_option maxHeartbeats 1000000 in
theorem rtoken13_any (B : BrainV) (v : Value) (t : Int) (w : World) (h : BrIs w B v) :
  Calls Tryz.prog 63 #[v, .int .i64 t] w fun e w' => e = .returned (.int .i64 (idxL B.I (fun x => x.token == t))) ∧ Below w.heap.size w w' := by
 obtain ⟨ma, mc, ia, ic, ka, kc, rfl, hm, hi, hk⟩ := h.open
 obtain ⟨_, _, he, p1, p2, p3, hop⟩ := hi.open
 cases he
 obtain ⟨W1, hW1⟩ : ∃ W1, W1 = w.alloc (.cells (brT B.f B.g (.slice ma B.M.length mc) (.slice ia B.I.length ic) (.slice ka B.K.length kc)) 33) := ⟨_, rfl⟩
 have hb1 : Below w.heap.size w W1 := by rw [hW1]; exact (Below.refl _ _).alloc (Nat.le_refl _) _
 have n1 : BB W1 w.heap.size (brT B.f B.g (.slice ma B.M.length mc) (.slice ia B.I.length ic) (.slice ka B.K.length kc)) := by rw [hW1]; exact heap_new _ _
 have x0 : W1.cell? ⟨w.heap.size, 18, none⟩ = some (.slice ia B.I.length ic) := blk_cell n1 18
 have hl1 := blk_lt n1
 obtain ⟨r, hr⟩ : ∃ r, idxL B.I (fun x => x.token == t) = r := ⟨_, rfl⟩
 rw [hr]
 have HR := hid hr
 have HB1 := hid hb1
 have HOP := hid hop
 have HW1 := hid hW1
 have X0 := hid x0
 clear h hm hi hk hop n1 hb1 hr x0 hW1
 go_enter Tryz.func63, Tryz.ntmps63
 go_wp2
 rw [← HW1.out]
 go_loopw [5] (fun i wr => ∃ k : Nat, k ≤ B.I.length ∧ i = .int .i64 k ∧ (∀ y ∈ B.I.take k, (y.token == t) = false) ∧ Below W1.heap.size W1 wr) (fun i _ => B.I.length - (intOf i).toNat)
 case atStart => exact ⟨0, Nat.zero_le _, rfl, (fun x hx => by simp at hx), Below.refl _ _⟩
 case round =>
  obtain ⟨k, hk, rfl, hno, hB⟩ := hrel
  have HNO := hid hno
  have HB := hid hB
  have HBW := hid (HB1.out.trans (hB.mono HB1.out.size))
  have z0 := cell_below X0.out hB
  have lr1 : w.heap.size < wr.heap.size := Nat.lt_of_lt_of_le hl1 hB.size
  clear hno hB
  by_cases hlt : k < B.I.length
  ·obtain ⟨b1, o1, rfl, hb1, hr1⟩ := HOP.out (by omega)
   obtain ⟨x, hx⟩ := get_lt hlt
   obtain ⟨g0, _, _, _⟩ := rowI (hr1.below HBW.out hb1) hx
   have hkL : (k : Int) < (B.I.length : Int) := by omega
   have hb1w : b1 < wr.heap.size := Nat.lt_of_lt_of_le hb1 HBW.out.size
   have HX := hid hx
   obtain ⟨u, hu⟩ : ∃ u, x.token = u := ⟨_, rfl⟩
   have HU := hid hu
   rw [hu] at g0
   clear hx hr1 hu
   by_cases hut : u = t
   ·have d1 : (u == t) = true := by simpa using hut
    have HE := hid (show idxL B.I (fun x => x.token == t) = (k : Int) from idxL_at HX.out (by rw [HU.out]; exact d1) HNO.out)
    obtain rfl : r = (k : Int) := by rw [← HR.out]; exact HE.out
    clear hut
    go_wp2
    go_ret
    exact ⟨rfl, HBW.out⟩
   ·have d1 : (u == t) = false := by simpa using hut
    have HN := hid (idxL_next HX.out HNO.out (by rw [HU.out]; exact d1))
    clear hut
    go_wp2
    go_roundw
    case rel => exact ⟨k + 1, by omega, by go_num, HN.out, HB.out⟩
    case measure => simp [intOf]; omega
  ·obtain rfl : k = B.I.length := by omega
   have HE := hid (show idxL B.I (fun x => x.token == t) = -1 from idxL_no (by have := HNO.out; rwa [List.take_length] at this))
   obtain rfl : r = -1 := by rw [← HR.out]; exact HE.out
   go_wp2
   go_ret
   exact ⟨rfl, HBW.out⟩
theorem rtoken13_at (B : BrainV) (v : Value) (t r : Int) (hr : idxL B.I (fun x => x.token == t) = r) (w : World) (h : BrIs w B v) :
  Calls Tryz.prog 63 #[v, .int .i64 t] w fun e w' => e = .returned (.int .i64 r) ∧ Below w.heap.size w w' := by
 rw [← hr]; exact rtoken13_any B v t w h
end Go.Proofs.YtgcajfglidflnaaGreatDoor
