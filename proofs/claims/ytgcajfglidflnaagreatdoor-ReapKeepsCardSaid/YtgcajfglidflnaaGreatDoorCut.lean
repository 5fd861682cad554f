import Derived.Deep.RegionHeld
import Derived.Test.YtgcajfglidflnaaGreatDoorBrA
/- A region that is cut at its phase: the operations from m on wait for all ahead of them. -/
namespace Go
section
variable {P : Program} {ops : Array Oper} {Q : Exit → Act → World → Prop} {S : World → Prop}

/-- Behind the first m operations: whatever order the others come up in. -/
def cutQ (P : Program) (ops : Array Oper) (Q : Exit → Act → World → Prop) (m r : Nat) : Exit → Act → World → Prop
 | .normal, a, w => ∀ f, r ≤ f → wpAny P .any ops Q f (Array.replicate m true ++ Array.replicate r false) a w
 | e, a, w => Q e a w

/-- The first m operations wait for earlier ones alone; and each of them is waited for by a later one of them, or by all behind them. -/
def cuts (ops : Array Oper) (m : Nat) : Bool :=
 ((List.range m).all fun i => match ops[i]? with
  | some o => (o.after.all fun e => !Region.binds .any e || decide (e.on < i)) && (match o.guard with | some g => decide (g.1 < m) | none => true)
  | none => true) &&
 (List.range m).all fun j => ((List.range m).any fun k => decide (j < k) && waits ops k j) || (List.range (ops.size - m)).all fun d => waits ops (m + d) j
where
 waits (ops : Array Oper) (k j : Nat) : Bool := match ops[k]? with
  | some o => o.after.any fun e => Region.binds .any e && e.on == j
  | none => false

theorem cuts_low {m : Nat} (h : cuts ops m = true) {i : Nat} {o : Oper} (ho : ops[i]? = some o) (hi : i < m) : (∀ e ∈ o.after, Region.binds .any e = true → e.on < i) ∧ (∀ g, o.guard = some g → g.1 < m) := by
 unfold cuts at h
 rw [Bool.and_eq_true] at h
 have := List.all_eq_true.1 h.1 i (List.mem_range.2 hi)
 simp only [ho, Bool.and_eq_true] at this
 refine ⟨fun e he hb => ?_, fun g hg => ?_⟩
 ·have := Array.all_eq_true_iff_forall_mem.1 this.1 e he
  simp only [hb, Bool.not_true, Bool.false_or, decide_eq_true_eq] at this
  exact this
 ·have := this.2
  rw [hg] at this
  simpa using this

theorem waits_at {k j : Nat} (h : cuts.waits ops k j = true) : ∃ o, ops[k]? = some o ∧ ∃ e ∈ o.after, Region.binds .any e = true ∧ e.on = j := by
 unfold cuts.waits at h
 cases ho : ops[k]? with
 | none => rw [ho] at h; cases h
 | some o =>
  rw [ho] at h
  obtain ⟨e, he, hb⟩ := Array.any_eq_true'.1 h
  simp only [Bool.and_eq_true, beq_iff_eq] at hb
  exact ⟨o, rfl, e, he, hb⟩

theorem cuts_high {m : Nat} (h : cuts ops m = true) {j : Nat} (hj : j < m) : (∃ k, j < k ∧ k < m ∧ ∃ o, ops[k]? = some o ∧ ∃ e ∈ o.after, Region.binds .any e = true ∧ e.on = j) ∨
  ∀ i o, m ≤ i → ops[i]? = some o → ∃ e ∈ o.after, Region.binds .any e = true ∧ e.on = j := by
 unfold cuts at h
 rw [Bool.and_eq_true] at h
 have := List.all_eq_true.1 h.2 j (List.mem_range.2 hj)
 rcases Bool.or_eq_true_iff.1 this with h1 | h1
 ·obtain ⟨k, hk, hw⟩ := List.any_eq_true.1 h1
  rw [Bool.and_eq_true, decide_eq_true_eq] at hw
  exact .inl ⟨k, hw.1, List.mem_range.1 hk, waits_at hw.2⟩
 ·refine .inr fun i o hi ho => ?_
  have hlt : i < ops.size := (Array.getElem?_eq_some_iff.1 ho).1
  have := List.all_eq_true.1 h1 (i - m) (List.mem_range.2 (by omega))
  rw [show m + (i - m) = i by omega] at this
  obtain ⟨o', ho', he⟩ := waits_at this
  rw [ho] at ho'
  cases ho'
  exact he

/-- What is listed has come behind all that it waits for. -/
def downTo (ops : Array Oper) (m : Nat) (lp : Array Bool) : Prop :=
 ∀ (k : Nat) (o : Oper), k < m → ops[k]? = some o → lp.getD k false = true → ∀ e ∈ o.after, Region.binds .any e = true → lp.getD e.on false = true

theorem cut_all {m : Nat} {pre : Array Oper} (hp : ∀ i, i < m → pre[i]? = ops[i]?) (hps : pre.size = m) (hc : cuts ops m = true) {lp : Array Bool} (hl : lp.size = m) (hr : Region.ready .any pre lp = []) : lp = Array.replicate m true := by
 have hall : ∀ i, i < m → lp.getD i false = true := by
  intro i
  induction i using Nat.strongRecOn with
  | ind i ih =>
   intro hi
   cases hq : lp.getD i false with
   | true => rfl
   | false =>
    exfalso
    have h0 : i < pre.size := by omega
    have ho : pre[i]? = some pre[i] := Array.getElem?_eq_some_iff.2 ⟨h0, rfl⟩
    have hm : i ∈ Region.ready .any pre lp := by
     rw [mem_ready]
     refine ⟨?_, pre[i], ho, fun e he hb => ?_⟩
     ·have hil : i < lp.size := by omega
      simp only [Array.getD, hil, dif_pos] at hq ⊢
      exact hq
     ·have h1 := (cuts_low hc ((hp i hi) ▸ ho) hi).1 e he hb
      exact ih e.on h1 (by omega)
    rw [hr] at hm
    cases hm
 apply Array.ext
 ·simp [hl]
 ·intro i h1 h2
  have := hall i (by omega)
  simp only [Array.getD, h1, dif_pos] at this
  simpa using this

theorem getD_front {m r : Nat} {lp : Array Bool} (hl : lp.size = m) (d : Bool) {i : Nat} (hi : i < m) : (lp ++ Array.replicate r false).getD i d = lp.getD i d := by
 have : i < lp.size := by omega
 rw [Array.getD_eq_getD_getElem?, Array.getD_eq_getD_getElem?, Array.getElem?_append_left this]

theorem cut_ready {m r : Nat} {pre : Array Oper} (hp : ∀ i, i < m → pre[i]? = ops[i]?) (hc : cuts ops m = true) {lp : Array Bool} (hl : lp.size = m) (hd : downTo ops m lp) {i : Nat} (h : i ∈ Region.ready .any ops (lp ++ Array.replicate r false)) : (i < m ∧ i ∈ Region.ready .any pre lp) ∨ ∀ j, j < m → lp.getD j false = true := by
 obtain ⟨h0, o, ho, hall⟩ := mem_ready.1 h
 rcases Nat.lt_or_ge i m with hi | hi
 ·refine .inl ⟨hi, mem_ready.2 ⟨?_, o, (hp i hi).trans ho, fun e he hb => ?_⟩⟩
  ·rw [getD_front hl true hi] at h0; exact h0
  ·have h1 := (cuts_low hc ho hi).1 e he hb
   have := hall e he hb
   rw [getD_front hl false (by omega)] at this
   exact this
 ·refine .inr fun j hj => ?_
  have hrec : ∀ n j, j < m → m - j ≤ n → lp.getD j false = true := by
   intro n
   induction n with
   | zero => intro j hj hn; omega
   | succ n ih =>
    intro j hj hn
    rcases cuts_high hc hj with ⟨k, h1, h2, o', ho', e, he, hb, rfl⟩ | h1
    ·exact hd k o' h2 ho' (ih k h2 (by omega)) e he hb
    ·obtain ⟨e, he, hb, rfl⟩ := h1 i o hi ho
     have := hall e he hb
     rw [getD_front hl false hj] at this
     exact this
  exact hrec (m - j) j hj (Nat.le_refl _)

theorem ready_front {m r : Nat} {pre : Array Oper} (hp : ∀ i, i < m → pre[i]? = ops[i]?) (hc : cuts ops m = true) {lp : Array Bool} (hl : lp.size = m) (hps : pre.size = m) {i : Nat} (h : i ∈ Region.ready .any pre lp) : i ∈ Region.ready .any ops (lp ++ Array.replicate r false) := by
 obtain ⟨h0, o, ho, hall⟩ := mem_ready.1 h
 have hi : i < m := by have := (Array.getElem?_eq_some_iff.1 ho).1; omega
 refine mem_ready.2 ⟨?_, o, (hp i hi).symm.trans ho, fun e he hb => ?_⟩
 ·rw [getD_front hl true hi]; exact h0
 ·have h1 := (cuts_low hc ((hp i hi).symm.trans ho) hi).1 e he hb
  rw [getD_front hl false (by omega)]
  exact hall e he hb

theorem upon_cut {m r : Nat} {o : Oper} {a : Act} {w : World} {K K' : Act → World → Prop} (hK : ∀ a w, K a w → K' a w) (h : o.wp P a w K (cutQ P ops Q m r)) : o.wp P a w K' Q := by
 have lets : LetsOut (cutQ P ops Q m r) → LetsOut Q := fun ⟨a, w, h⟩ => ⟨a, w, h⟩
 unfold Oper.wp at *
 generalize (execOp a.eval o).run P w = res at *
 cases res with
 | ok n w' =>
  cases n <;> simp only [Oper.upon] at h ⊢ <;>
   first
    | exact hK _ _ h
    | exact Calls.mono h (fun e w'' he => by cases e <;> first | exact hK _ _ he | exact lets he | exact he)
    | exact Rows.mono h (fun _ _ he => hK _ _ he)
 | halt x w' => cases x <;> simp only [Oper.upon] at h ⊢ <;> exact h

theorem wanted_cut {m : Nat} {pre : Array Oper} (hp : ∀ i, i < m → pre[i]? = ops[i]?) {o : Oper} (hg : ∀ g, o.guard = some g → g.1 < m) (tmps : Array Value) : Region.wanted o (yielded pre tmps) = Region.wanted o (yielded ops tmps) := by
 unfold Region.wanted
 cases hq : o.guard with
 | none => rfl
 | some g =>
  obtain ⟨j, b⟩ := g
  have := hp j (hg _ hq)
  simp only [yielded, this]

theorem wpAny_cut {m r : Nat} {pre : Array Oper} (hp : ∀ i, i < m → pre[i]? = ops[i]?) (hps : pre.size = m) (hc : cuts ops m = true) :
  ∀ (fuel : Nat) (lp : Array Bool) (a : Act) (w : World), lp.size = m → downTo ops m lp → wpAnyH P .any pre (cutQ P ops Q m r) S fuel lp a w → ∀ f, fuel + r ≤ f → wpAny P .any ops Q f (lp ++ Array.replicate r false) a w := by
 intro fuel
 induction fuel with
 | zero =>
  intro lp a w hl hd H f hf
  obtain ⟨hr, hq⟩ := H
  rw [cut_all hp hps hc hl hr]
  exact hq f (by omega)
 | succ fuel ih =>
  intro lp a w hl hd H f hf
  cases hr : Region.ready .any pre lp with
  | nil =>
   have hq := H.1 hr
   rw [cut_all hp hps hc hl hr]
   exact hq f (by omega)
  | cons x xs =>
   obtain ⟨f', rfl⟩ : ∃ f', f = f' + 1 := ⟨f - 1, by omega⟩
   have hx : x ∈ Region.ready .any pre lp := by rw [hr]; exact List.mem_cons_self ..
   refine ⟨fun h0 => ?_, fun i hi => ?_⟩
   ·have := ready_front (r := r) hp hc hl hps hx
    rw [h0] at this
    cases this
   ·rcases cut_ready hp hc hl hd hi with ⟨him, hin⟩ | hall
    ·have h1 := H.2 i hin
     have hd' : downTo ops m (lp.setIfInBounds i true) := by
      intro k o hk ho ht e he hb
      by_cases hik : i = k
      ·subst hik
       obtain ⟨_, o', ho', hall⟩ := mem_ready.1 hin
       rw [hp i him, ho] at ho'
       cases ho'
       exact getD_set_true (hall e he hb)
      ·rw [getD_set_ne false hik] at ht
       exact getD_set_true (hd k o hk ho ht e he hb)
     have hset : (lp ++ Array.replicate r false).setIfInBounds i true = lp.setIfInBounds i true ++ Array.replicate r false := by
      rw [Array.setIfInBounds_append_left (by omega)]
     unfold wpOp at h1 ⊢
     rw [hp i him] at h1
     cases ho : ops[i]? with
     | none => exact absurd (mem_ready.1 hin).2 (by rw [hp i him, ho]; simp)
     | some o =>
      rw [ho] at h1
      have hg := (cuts_low hc ho him).2
      simp only [wanted_cut hp hg] at h1
      show if Region.wanted o (yielded ops a.tmps) = true then _ else _
      have next : ∀ a' w', (S w' ∧ wpAnyH P .any pre (cutQ P ops Q m r) S fuel (lp.setIfInBounds i true) a' w') → wpAny P .any ops Q f' ((lp ++ Array.replicate r false).setIfInBounds i true) a' w' := fun a' w' h => by
       rw [hset]
       exact ih _ a' w' (by simp [hl]) hd' h.2 f' (by omega)
      split
      ·rename_i hw
       rw [if_pos hw] at h1
       exact h1.imp (upon_cut next) (fun h => ⟨h.1, let ⟨a, w, h⟩ := h.2; ⟨a, w, h⟩⟩)
      ·rename_i hw
       rw [if_neg hw] at h1
       exact next _ _ h1
    ·exfalso
     have hxm : x < m := by obtain ⟨_, o, ho, _⟩ := mem_ready.1 hx; have := (Array.getElem?_eq_some_iff.1 ho).1; omega
     have h1 := (mem_ready.1 hx).1
     have h2 := hall x hxm
     have hxl : x < lp.size := by omega
     simp only [Array.getD, hxl, dif_pos] at h1 h2
     rw [h1] at h2
     cases h2

/-- A region that draws, cut: its first m operations under S, then the rest. -/
theorem wp_region_cut {id : Nat} {a : Act} {w : World} {l : List Oper} (m r : Nat) (S : World → Prop) (hm : P.follows .mixedOrders = true) (hn : l.length = m + r) (hc : cuts l.toArray m = true)
  (h : wpAnyH P .any (l.take m).toArray (cutQ P l.toArray Q m r) S m (Array.replicate m false) a w.drew) : (Code.region id l.toArray true).wp P Q a w := by
 refine wp_region_any hm ?_
 have hp : ∀ i, i < m → (l.take m).toArray[i]? = l.toArray[i]? := fun i hi => by simp [hi]
 have hps : (l.take m).toArray.size = m := by simp; omega
 have := wpAny_cut hp hps hc m (Array.replicate m false) a w.drew (by simp) (fun k o hk _ ht => by simp [hk] at ht) h (m + r) (Nat.le_refl _)
 have e : Array.replicate m false ++ Array.replicate r false = Array.replicate l.toArray.size false := by
  rw [Array.replicate_append_replicate]; simp [hn]
 rw [e] at this
 have es : l.toArray.size = m + r := by simp [hn]
 rw [es] at this ⊢
 exact this
/-- Behind the first m: the rest, by S again. -/
theorem cutQ_held {m r : Nat} {a : Act} {w : World} (S : World → Prop) (h : ∀ f, wpAnyH P .any ops Q S (f + r) (Array.replicate m true ++ Array.replicate r false) a w) : cutQ P ops Q m r .normal a w := fun f hf => by
 have := wpAny_of_held _ _ _ _ (h (f - r))
 rwa [Nat.sub_add_cancel hf] at this
end
end Go

/- A region whose operations only make memory: whatever order they come up in, one walk an operation. -/
namespace Go
open RowKit Shelf
section
variable {P : Program} {ops : Array Oper} {Q : Exit → Act → World → Prop}

/-- Where an operation's value goes. -/
def dstAt (ops : Array Oper) (i : Nat) : Option Tmp := (ops[i]?).bind (·.dst)
/-- The frame when the operations l have come up, with the values vs. -/
def actOf (ops : Array Oper) (vs : Nat → Value) (l : Nat → Bool) (a : Act) : Nat → Act
 | 0 => a
 | m + 1 => if l m = true then (actOf ops vs l a m).put (dstAt ops m) (vs m) else actOf ops vs l a m
/-- No two operations write one slot. -/
def apartDst (ops : Array Oper) : Bool := (List.range ops.size).all fun i => (List.range ops.size).all fun j => i == j || match dstAt ops i with
 | some d => dstAt ops j != some d
 | none => true
theorem apartDst_at (h : apartDst ops = true) {i j : Nat} (hi : i < ops.size) (hj : j < ops.size) (hne : i ≠ j) : ∀ d, dstAt ops i = some d → dstAt ops j ≠ some d := by
 intro d hd
 have := List.all_eq_true.1 (List.all_eq_true.1 h i (List.mem_range.2 hi)) j (List.mem_range.2 hj)
 simpa [hne, hd] using this
theorem actOf_congr {vs vs' : Nat → Value} {l l' : Nat → Bool} {a : Act} {m : Nat} (h : ∀ j, j < m → l j = l' j ∧ (l j = true → vs j = vs' j)) : actOf ops vs l a m = actOf ops vs' l' a m := by
 induction m with
 | zero => rfl
 | succ m ihm =>
  obtain ⟨h1, h2⟩ := h m (Nat.lt_succ_self m)
  have ih := ihm fun j hj => h j (Nat.lt_succ_of_lt hj)
  unfold actOf
  rw [← h1, ih]
  by_cases hl : l m = true
  ·rw [if_pos hl, if_pos hl, h2 hl]
  ·rw [if_neg hl, if_neg hl]
theorem actOf_put (hd : apartDst ops = true) {vs : Nat → Value} {l : Nat → Bool} {a : Act} {i : Nat} (v : Value) (hl : l i = false) : ∀ {m : Nat}, i < m → m ≤ ops.size →
  (actOf ops vs l a m).put (dstAt ops i) v = actOf ops (fun j => if j = i then v else vs j) (fun j => j == i || l j) a m
 | m + 1, him, hm => by
  by_cases h : i = m
  ·subst h
   have e := actOf_congr (ops := ops) (a := a) (vs := vs) (vs' := fun j => if j = i then v else vs j) (l := l) (l' := fun j => j == i || l j) (m := i) fun j hj => by
    have : ¬ j = i := by omega
    simp [this]
   unfold actOf
   rw [hl]
   simp only [Bool.false_eq_true, if_false, beq_self_eq_true, Bool.true_or, if_true]
   rw [e]
  ·have ih := actOf_put hd (vs := vs) (l := l) (a := a) (i := i) v hl (m := m) (by omega) (by omega)
   have hmi : ¬ m = i := fun e => h e.symm
   have hb : (m == i) = false := by simpa using hmi
   unfold actOf
   simp only [hb, Bool.false_or, if_neg hmi]
   split
   ·rw [← ih, Act.put_comm _ _ _ (apartDst_at hd (by omega) (by omega) hmi)]
   ·exact ih
theorem actOf_defers {vs : Nat → Value} {l : Nat → Bool} {a : Act} : ∀ m : Nat, (actOf ops vs l a m).tmps.size = a.tmps.size
 | 0 => rfl
 | m + 1 => by
  have ih := actOf_defers (vs := vs) (l := l) (a := a) m
  unfold actOf
  split
  ·cases dstAt ops m <;> simpa [Act.put] using ih
  ·exact ih
theorem actOf_at (hd : apartDst ops = true) {vs : Nat → Value} {l : Nat → Bool} {a : Act} {j : Nat} {d : Tmp} (hj : dstAt ops j = some d) (hl : l j = true) (hs : d < a.tmps.size) : ∀ {m : Nat}, j < m → m ≤ ops.size → (actOf ops vs l a m).tmps[d]? = some (vs j)
 | m + 1, hjm, hm => by
  by_cases h : j = m
  ·subst h
   unfold actOf
   rw [if_pos hl, hj]
   have := actOf_defers (ops := ops) (vs := vs) (l := l) (a := a) j
   simp only [Act.put]
   rw [Array.getElem?_setIfInBounds_self_of_lt (by rw [this]; exact hs)]
  ·have ih := actOf_at hd (vs := vs) (l := l) (a := a) hj hl hs (m := m) (by omega) (by omega)
   unfold actOf
   split
   ·have hne := apartDst_at hd (i := j) (j := m) (by omega) (by omega) h d hj
    unfold Act.put
    split
    ·rename_i d' hd'
     have : d' ≠ d := fun e => hne (by rw [hd', e])
     rw [Array.getElem?_setIfInBounds_ne this]
     exact ih
    ·exact ih
   ·exact ih
theorem actOf_other {vs : Nat → Value} {l : Nat → Bool} {a : Act} {t : Nat} : ∀ {m : Nat}, (∀ j, j < m → dstAt ops j ≠ some t) → (actOf ops vs l a m).tmps[t]? = a.tmps[t]?
 | 0, _ => rfl
 | m + 1, h => by
  have ih := actOf_other (vs := vs) (l := l) (a := a) (m := m) fun j hj => h j (Nat.lt_succ_of_lt hj)
  have hm := h m (Nat.lt_succ_self m)
  unfold actOf
  split
  ·unfold Act.put
   split
   ·rename_i d' hd'
    have : d' ≠ t := fun e => hm (by rw [hd', e])
    rw [Array.getElem?_setIfInBounds_ne this]
    exact ih
   ·exact ih
  ·exact ih

/-- No operation writes a slot. -/
def notDst (ops : Array Oper) (t : Nat) : Bool := (List.range ops.size).all fun j => dstAt ops j != some t
theorem notDst_at {t : Nat} (h : notDst ops t = true) : ∀ j, j < ops.size → dstAt ops j ≠ some t := by
 intro j hj
 have := List.all_eq_true.1 h j (List.mem_range.2 hj)
 simpa using this
/-- How many have not come up. -/
def left (m : Nat) (l : Nat → Bool) : Nat := ((List.range m).filter fun j => !l j).length
theorem left_none {m : Nat} {l : Nat → Bool} (h : left m l = 0) : ∀ j, j < m → l j = true := by
 intro j hj
 unfold left at h
 have := List.eq_nil_of_length_eq_zero h
 rw [List.filter_eq_nil_iff] at this
 simpa using this j (List.mem_range.2 hj)
theorem left_less {m : Nat} {l l' : Nat → Bool} {i : Nat} (hi : i < m) (h0 : l i = false) (h1 : ∀ j, l' j = (j == i || l j)) : left m l' < left m l := by
 unfold left
 have : ((List.range m).filter fun j => !l' j) = ((List.range m).filter fun j => !l j).filter fun j => j != i := by
  rw [List.filter_filter]
  refine List.filter_congr fun j _ => ?_
  rw [h1]
  cases hj : (j == i) <;> simp [bne, hj]
 rw [this]
 refine List.length_filter_lt_length_iff_exists.2 ⟨i, ?_, by simp⟩
 rw [List.mem_filter]
 exact ⟨List.mem_range.2 hi, by simp [h0]⟩

/-- One goal an operation. -/
def AllAt (R : Nat → Oper → Prop) : Nat → List Oper → Prop
 | _, [] => True
 | k, o :: l => R k o ∧ AllAt R (k + 1) l
theorem AllAt.at {R : Nat → Oper → Prop} {l : List Oper} : ∀ {k : Nat}, AllAt R k l → ∀ i o, l[i]? = some o → R (k + i) o := by
 induction l with
 | nil => intro k _ i o ho; simp at ho
 | cons x l ih =>
  intro k h i o ho
  cases i with
  | zero =>
   have e : x = o := by simpa using ho
   rw [← e]
   exact h.1
  | succ i =>
   have := ih h.2 i o (by simpa using ho)
   rwa [show k + 1 + i = k + (i + 1) by omega] at this
end
end Go
