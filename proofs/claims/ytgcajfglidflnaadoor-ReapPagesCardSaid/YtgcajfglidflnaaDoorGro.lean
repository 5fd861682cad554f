/- A region whose operations only make memory: whatever order they come up in, one walk an operation. -/
import Derived.Test.YtgcajfglidflnaaDoorCut
import Derived.Test.YtgcajfglidflnaaDoorBrA
namespace Go
open RowKit Shelf
section
variable {P : Program} {ops : Array Oper} {Q : Exit → Act → World → Prop}

/-- Where an operation's value goes. -/
def dstAt (ops : Array Oper) (i : Nat) : Option Tmp := (ops[i]?).bind (·.dst)
/-- The frame when the operations l have come up, with the values vs. -/
def actOf (ops : Array Oper) (vs : Nat → Value) (l : Nat → Bool) (a : Act) : Nat → Act
  | 0 => a
  | m + 1 => if l m = true then (actOf ops vs l a m).put (dstAt ops m) (vs m) else actOf ops vs l a m
/-- No two operations write one slot. -/
def apartDst (ops : Array Oper) : Bool := (List.range ops.size).all fun i => (List.range ops.size).all fun j => i == j || match dstAt ops i with
  | some d => dstAt ops j != some d
  | none => true
theorem apartDst_at (h : apartDst ops = true) {i j : Nat} (hi : i < ops.size) (hj : j < ops.size) (hne : i ≠ j) : ∀ d, dstAt ops i = some d → dstAt ops j ≠ some d := by
  intro d hd
  have := List.all_eq_true.1 (List.all_eq_true.1 h i (List.mem_range.2 hi)) j (List.mem_range.2 hj)
  simpa [hne, hd] using this
theorem actOf_congr {vs vs' : Nat → Value} {l l' : Nat → Bool} {a : Act} {m : Nat} (h : ∀ j, j < m → l j = l' j ∧ (l j = true → vs j = vs' j)) : actOf ops vs l a m = actOf ops vs' l' a m := by
  induction m with
  | zero => rfl
  | succ m ihm =>
    obtain ⟨h1, h2⟩ := h m (Nat.lt_succ_self m)
    have ih := ihm fun j hj => h j (Nat.lt_succ_of_lt hj)
    unfold actOf
    rw [← h1, ih]
    by_cases hl : l m = true
    · rw [if_pos hl, if_pos hl, h2 hl]
    · rw [if_neg hl, if_neg hl]
theorem actOf_put (hd : apartDst ops = true) {vs : Nat → Value} {l : Nat → Bool} {a : Act} {i : Nat} (v : Value) (hl : l i = false) : ∀ {m : Nat}, i < m → m ≤ ops.size →
    (actOf ops vs l a m).put (dstAt ops i) v = actOf ops (fun j => if j = i then v else vs j) (fun j => j == i || l j) a m
  | m + 1, him, hm => by
    by_cases h : i = m
    · subst h
      have e := actOf_congr (ops := ops) (a := a) (vs := vs) (vs' := fun j => if j = i then v else vs j) (l := l) (l' := fun j => j == i || l j) (m := i) fun j hj => by
        have : ¬ j = i := by omega
        simp [this]
      unfold actOf
      rw [hl]
      simp only [Bool.false_eq_true, if_false, beq_self_eq_true, Bool.true_or, if_true]
      rw [e]
    · have ih := actOf_put hd (vs := vs) (l := l) (a := a) (i := i) v hl (m := m) (by omega) (by omega)
      have hmi : ¬ m = i := fun e => h e.symm
      have hb : (m == i) = false := by simpa using hmi
      unfold actOf
      simp only [hb, Bool.false_or, if_neg hmi]
      split
      · rw [← ih, Act.put_comm _ _ _ (apartDst_at hd (by omega) (by omega) hmi)]
      · exact ih
theorem actOf_defers {vs : Nat → Value} {l : Nat → Bool} {a : Act} : ∀ m : Nat, (actOf ops vs l a m).tmps.size = a.tmps.size
  | 0 => rfl
  | m + 1 => by
    have ih := actOf_defers (vs := vs) (l := l) (a := a) m
    unfold actOf
    split
    · cases dstAt ops m <;> simpa [Act.put] using ih
    · exact ih
theorem actOf_at (hd : apartDst ops = true) {vs : Nat → Value} {l : Nat → Bool} {a : Act} {j : Nat} {d : Tmp} (hj : dstAt ops j = some d) (hl : l j = true) (hs : d < a.tmps.size) : ∀ {m : Nat}, j < m → m ≤ ops.size → (actOf ops vs l a m).tmps[d]? = some (vs j)
  | m + 1, hjm, hm => by
    by_cases h : j = m
    · subst h
      unfold actOf
      rw [if_pos hl, hj]
      have := actOf_defers (ops := ops) (vs := vs) (l := l) (a := a) j
      simp only [Act.put]
      rw [Array.getElem?_setIfInBounds_self_of_lt (by rw [this]; exact hs)]
    · have ih := actOf_at hd (vs := vs) (l := l) (a := a) hj hl hs (m := m) (by omega) (by omega)
      unfold actOf
      split
      · have hne := apartDst_at hd (i := j) (j := m) (by omega) (by omega) h d hj
        unfold Act.put
        split
        · rename_i d' hd'
          have : d' ≠ d := fun e => hne (by rw [hd', e])
          rw [Array.getElem?_setIfInBounds_ne this]
          exact ih
        · exact ih
      · exact ih
theorem actOf_other {vs : Nat → Value} {l : Nat → Bool} {a : Act} {t : Nat} : ∀ {m : Nat}, (∀ j, j < m → dstAt ops j ≠ some t) → (actOf ops vs l a m).tmps[t]? = a.tmps[t]?
  | 0, _ => rfl
  | m + 1, h => by
    have ih := actOf_other (vs := vs) (l := l) (a := a) (m := m) fun j hj => h j (Nat.lt_succ_of_lt hj)
    have hm := h m (Nat.lt_succ_self m)
    unfold actOf
    split
    · unfold Act.put
      split
      · rename_i d' hd'
        have : d' ≠ t := fun e => hm (by rw [hd', e])
        rw [Array.getElem?_setIfInBounds_ne this]
        exact ih
      · exact ih
    · exact ih

/-- No operation writes a slot. -/
def notDst (ops : Array Oper) (t : Nat) : Bool := (List.range ops.size).all fun j => dstAt ops j != some t
theorem notDst_at {t : Nat} (h : notDst ops t = true) : ∀ j, j < ops.size → dstAt ops j ≠ some t := by
  intro j hj
  have := List.all_eq_true.1 h j (List.mem_range.2 hj)
  simpa using this
/-- How many have not come up. -/
def left (m : Nat) (l : Nat → Bool) : Nat := ((List.range m).filter fun j => !l j).length
theorem left_none {m : Nat} {l : Nat → Bool} (h : left m l = 0) : ∀ j, j < m → l j = true := by
  intro j hj
  unfold left at h
  have := List.eq_nil_of_length_eq_zero h
  rw [List.filter_eq_nil_iff] at this
  simpa using this j (List.mem_range.2 hj)
theorem left_less {m : Nat} {l l' : Nat → Bool} {i : Nat} (hi : i < m) (h0 : l i = false) (h1 : ∀ j, l' j = (j == i || l j)) : left m l' < left m l := by
  unfold left
  have : ((List.range m).filter fun j => !l' j) = ((List.range m).filter fun j => !l j).filter fun j => j != i := by
    rw [List.filter_filter]
    refine List.filter_congr fun j _ => ?_
    rw [h1]
    cases hj : (j == i) <;> simp [bne, hj]
  rw [this]
  refine List.length_filter_lt_length_iff_exists.2 ⟨i, ?_, by simp⟩
  rw [List.mem_filter]
  exact ⟨List.mem_range.2 hi, by simp [h0]⟩

/-- What is to be shown of one operation: in whatever frame in which those that it waits for have their values. -/
def GrowStep (P : Program) (ops : Array Oper) (Q : Exit → Act → World → Prop) (a0 : Act) (w0 : World) (sp : Nat → Value → World → Prop) (i : Nat) (o : Oper) : Prop :=
  ∀ (a : Act) (w : World), Below w0.heap.size w0 w →
    (∀ e ∈ o.after, Region.binds .any e = true → ∃ v, (∀ d, dstAt ops e.on = some d → d < a0.tmps.size → a.tmps[d]? = some v) ∧ sp e.on v w) →
    (∀ t, (∀ j, j < ops.size → dstAt ops j ≠ some t) → a.tmps[t]? = a0.tmps[t]?) →
    ∀ K : Act → World → Prop, (∀ v w', Below w.heap.size w w' → sp i v w' → K (a.put o.dst v) w') → o.wp P a w K Q

/-- No operation is guarded; each waits for earlier ones alone. -/
def plainOps (ops : Array Oper) : Bool := (List.range ops.size).all fun i => match ops[i]? with
  | some o => o.guard.isNone && o.after.all fun e => !Region.binds .any e || decide (e.on < i)
  | none => true
theorem plainOps_at (h : plainOps ops = true) {i : Nat} {o : Oper} (ho : ops[i]? = some o) : o.guard = none ∧ ∀ e ∈ o.after, Region.binds .any e = true → e.on < i := by
  have hlt : i < ops.size := (Array.getElem?_eq_some_iff.1 ho).1
  have := List.all_eq_true.1 h i (List.mem_range.2 hlt)
  simp only [ho, Bool.and_eq_true, Option.isNone_iff_eq_none] at this
  refine ⟨this.1, fun e he hb => ?_⟩
  have := Array.all_eq_true_iff_forall_mem.1 this.2 e he
  simpa [hb] using this
theorem all_listed (h : plainOps ops = true) {lp : Array Bool} (hl : lp.size = ops.size) (hr : Region.ready .any ops lp = []) : ∀ i, i < ops.size → lp.getD i false = true := by
  intro i
  induction i using Nat.strongRecOn with
  | ind i ih =>
    intro hi
    cases hq : lp.getD i false with
    | true => rfl
    | false =>
      exfalso
      have ho : ops[i]? = some ops[i] := Array.getElem?_eq_some_iff.2 ⟨hi, rfl⟩
      have hm : i ∈ Region.ready .any ops lp := by
        rw [mem_ready]
        refine ⟨?_, ops[i], ho, fun e he hb => ih e.on ((plainOps_at h ho).2 e he hb) (by have := (plainOps_at h ho).2 e he hb; omega)⟩
        have hil : i < lp.size := by omega
        simp only [Array.getD, hil, dif_pos] at hq ⊢
        exact hq
      rw [hr] at hm
      cases hm

theorem wpAnyH_grow (a0 : Act) (w0 : World) (sp : Nat → Value → World → Prop) (hsp : ∀ i v w w', sp i v w → Below w.heap.size w w' → sp i v w') (hd : apartDst ops = true) (hp : plainOps ops = true)
    (hstep : ∀ i o, ops[i]? = some o → GrowStep P ops Q a0 w0 sp i o)
    (hend : ∀ (vs : Nat → Value) (w : World), Below w0.heap.size w0 w → (∀ j, j < ops.size → sp j (vs j) w) → Q .normal (actOf ops vs (fun _ => true) a0 ops.size) w) :
    ∀ (fuel : Nat) (lp : Array Bool) (vs : Nat → Value) (w : World), lp.size = ops.size → left ops.size (fun j => lp.getD j false) ≤ fuel → Below w0.heap.size w0 w → (∀ j, j < ops.size → lp.getD j false = true → sp j (vs j) w) →
      wpAnyH P .any ops Q (fun _ => True) fuel lp (actOf ops vs (fun j => lp.getD j false) a0 ops.size) w := by
  have hfin : ∀ (lp : Array Bool) (vs : Nat → Value) (w : World), (∀ j, j < ops.size → lp.getD j false = true) → Below w0.heap.size w0 w → (∀ j, j < ops.size → lp.getD j false = true → sp j (vs j) w) → Q .normal (actOf ops vs (fun j => lp.getD j false) a0 ops.size) w := by
    intro lp vs w hall hb hs
    rw [actOf_congr (l' := fun _ => true) (vs' := vs) fun j hj => ⟨hall j hj, fun _ => rfl⟩]
    exact hend vs w hb fun j hj => hs j hj (hall j hj)
  intro fuel
  induction fuel with
  | zero =>
    intro lp vs w hl hle hb hs
    have hall := left_none (Nat.le_zero.1 hle)
    refine ⟨?_, hfin lp vs w hall hb hs⟩
    cases hr : Region.ready .any ops lp with
    | nil => rfl
    | cons x xs =>
      exfalso
      have hx : x ∈ Region.ready .any ops lp := by rw [hr]; exact List.mem_cons_self ..
      obtain ⟨h0, o, ho, _⟩ := mem_ready.1 hx
      have hxm := (Array.getElem?_eq_some_iff.1 ho).1
      have h1 := hall x hxm
      have hxl : x < lp.size := by omega
      simp only [Array.getD, hxl, dif_pos] at h0 h1
      rw [h0] at h1
      cases h1
  | succ fuel ih =>
    intro lp vs w hl hle hb hs
    refine ⟨fun hr => hfin lp vs w (all_listed hp hl hr) hb hs, fun i hi => ?_⟩
    obtain ⟨h0, o, ho, hall⟩ := mem_ready.1 hi
    have him := (Array.getElem?_eq_some_iff.1 ho).1
    have hil : i < lp.size := by omega
    have hli : lp.getD i false = false := by simp only [Array.getD, hil, dif_pos] at h0 ⊢; exact h0
    have hdi : dstAt ops i = o.dst := by unfold dstAt; rw [ho]; rfl
    have hset : ∀ j, (lp.setIfInBounds i true).getD j false = (j == i || lp.getD j false) := by
      intro j
      by_cases h : j = i
      · subst h; simp [hil]
      · have : i ≠ j := fun e => h e.symm
        have hb : (j == i) = false := by simpa using h
        rw [getD_set_ne false this, hb, Bool.false_or]
    obtain ⟨hg, hlow⟩ := plainOps_at hp ho
    unfold wpOp
    simp only [ho]
    have hw : Region.wanted o (yielded ops (actOf ops vs (fun j => lp.getD j false) a0 ops.size).tmps) = true := by simp [Region.wanted, hg]
    rw [if_pos hw]
    refine .inl (hstep i o ho _ w hb (fun e he hbd => ?_) (fun t ht => actOf_other ht) _ fun v w' hbw hv => ⟨trivial, ?_⟩)
    · have hel := hall e he hbd
      have heo : e.on < ops.size := by have := hlow e he hbd; omega
      exact ⟨vs e.on, fun d hd' hds => actOf_at hd hd' hel hds heo (Nat.le_refl _), hs e.on heo hel⟩
    · rw [← hdi, actOf_put hd v hli him (Nat.le_refl _)]
      have hcg := actOf_congr (ops := ops) (a := a0) (vs := fun j => if j = i then v else vs j) (vs' := fun j => if j = i then v else vs j) (l := fun j => j == i || lp.getD j false) (l' := fun j => (lp.setIfInBounds i true).getD j false) (m := ops.size) fun j _ => ⟨(hset j).symm, fun _ => rfl⟩
      rw [hcg]
      refine ih _ _ w' (by simp [hl]) ?_ (hb.trans (hbw.mono hb.size)) fun j hj hlj => ?_
      · have := left_less (m := ops.size) (l := fun j => lp.getD j false) (l' := fun j => (lp.setIfInBounds i true).getD j false) him hli hset
        omega
      · by_cases h : j = i
        · subst h
          simpa using hv
        · rw [hset j] at hlj
          have hbj : (j == i) = false := by simpa using h
          rw [hbj, Bool.false_or] at hlj
          show sp j (if j = i then v else vs j) w'
          rw [if_neg h]
          exact hsp j _ w w' (hs j hj hlj) hbw
/-- One goal an operation. -/
def AllAt (R : Nat → Oper → Prop) : Nat → List Oper → Prop
  | _, [] => True
  | k, o :: l => R k o ∧ AllAt R (k + 1) l
theorem AllAt.at {R : Nat → Oper → Prop} {l : List Oper} : ∀ {k : Nat}, AllAt R k l → ∀ i o, l[i]? = some o → R (k + i) o := by
  induction l with
  | nil => intro k _ i o ho; simp at ho
  | cons x l ih =>
    intro k h i o ho
    cases i with
    | zero =>
      have e : x = o := by simpa using ho
      rw [← e]
      exact h.1
    | succ i =>
      have := ih h.2 i o (by simpa using ho)
      rwa [show k + 1 + i = k + (i + 1) by omega] at this
/-- The whole: all come up; then the rest. -/
theorem wpAnyH_grown {l : List Oper} {a0 : Act} {w0 : World} (sp : Nat → Value → World → Prop) (hsp : ∀ i v w w', sp i v w → Below w.heap.size w w' → sp i v w') (hd : apartDst l.toArray = true) (hp : plainOps l.toArray = true)
    (hstep : AllAt (GrowStep P l.toArray Q a0 w0 sp) 0 l)
    (hend : ∀ (vs : Nat → Value) (w : World), Below w0.heap.size w0 w → (∀ j, j < l.length → sp j (vs j) w) → Q .normal (actOf l.toArray vs (fun _ => true) a0 l.length) w) {m : Nat} (hm : l.length = m) :
    wpAnyH P .any l.toArray Q (fun _ => True) m (Array.replicate m false) a0 w0 := by
  subst hm
  have e : ∀ m, actOf l.toArray (fun _ => undef) (fun j => (Array.replicate l.length false).getD j false) a0 m = a0 := by
    intro m
    induction m with
    | zero => rfl
    | succ m ih =>
      unfold actOf
      rw [if_neg (by simp [Array.getD]), ih]
  have := wpAnyH_grow (P := P) (Q := Q) a0 w0 sp hsp hd hp (fun i o ho => by have := hstep.at i o (by simpa using ho); simpa using this) (by simpa using hend) l.length (Array.replicate l.length false) (fun _ => undef) w0 (by simp) (by unfold left; exact Nat.le_trans (List.length_filter_le _ _) (by simp)) (Below.refl _ _) (fun j _ h => by simp [Array.getD] at h)
  rwa [e] at this
end
end Go
