import Derived.Test.YtgcajfglidflnaaGreatDoorRcm
import Derived.Deep.RegionLaw
import Derived.Test.YtgcajfglidflnaaGreatDoorGrr
import Derived.Test.YtgcajfglidflnaaGreatDoorGtm
/- append of a row, as one step of a region that draws. -/
namespace Go.Proofs.YtgcajfglidflnaaGreatDoor
open Go.RowKit Go.Shelf
/-- The cells of a slice of the call's own. -/
theorem Owns.flat_at {α : Type} {k : Nat} {e : TypeId} {enc : α → List Value} {W : World} {base g n c : Nat} {l : List α} (h : Owns k e enc W base (.slice (some ⟨g, 0, none⟩) n c) l) {j : Nat} {u : Value} (hj : (l.flatMap enc)[j]? = some u) : W.cell? ⟨g, j, none⟩ = some u := by
 obtain ⟨cur, h1, h2, h3, h4, h5, h6, h7⟩ := h.blk
 rw [blk_cell h1]
 rw [← h7, List.getElem?_take] at hj
 split at hj
 ·simpa using hj
 ·cases hj

/-- 'append' of a row to a slice of the call's own, as one step of a region that draws. -/
theorem step_append_src {α : Type} {k : Nat} {enc : α → List Value} {P : Program} {ops : Array Oper} {o : Oper} {a : Act} {w : World} {K : Act → World → Prop} {Q : Exit → Act → World → Prop} {E : Prop}
  (hgd : o.guard = none) (s x : Operand) (t : TypeId) (ho : o.op = Op.call { callee := Callee.builtin Builtin.append, args := #[s, x], argTypes := #[t, t] })
  (base : Nat) (e : TypeId) (i : TypeInfo) (z : Value) (bytes : Nat) (ht : P.underlying t = some (.slice e)) (hi : P.info? e = some i) (hz : i.zero = some z)
  (hsize : i.size = k) (hby : i.bytes = bytes) (hzs : z.cells.size = k) (hsz : 0 < k) (hk : ∀ x, (enc x).length = k)
  (v : Value) (l : List α) (hs : a.eval s = v) (hown : Owns k e enc w base v l)
  (ad : Addr) (m : List α) (ml mc : Nat) (hx : a.eval x = .slice (some ad) ml mc) (hml : ml = m.length) (hone : ∀ u ∈ m.flatMap enc, u.oneCell' = true) (hnew : ∀ (j : Nat) u, (m.flatMap enc)[j]? = some u → w.cell? (ad.add j) = some u)
  (h63 : l.length + ml ≤ maxLen) (hbytes : (l.length + ml) * bytes ≤ 140737488355328) (hbase : base ≤ w.heap.size)
  (h : ∀ v' w', Owns k e enc w' base v' (l ++ m) → Below base w w' → w.grownBy w' v.ownBlock → K (a.put o.dst v') w') :
  if Region.wanted o (yielded ops a.tmps) = true then Oper.wp P o a w K Q else E := by
 subst hml
 have hw : Region.wanted o (yielded ops a.tmps) = true := by simp [Region.wanted, hgd]
 rw [if_pos hw]
 obtain ⟨v', w', hrun, r1, r2, r3⟩ := run_append_own (P := P) w base t o.type e i z k bytes ht hi hz hsize hby hzs hsz v l.length _ hown ad m.length mc (m.flatMap enc) (flat_len hk m) hnew hone h63 hbytes hbase
 unfold Oper.wp
 simp [execOp, ho, resolve, invoke, builtin, hs, hx, hrun, Result.andThen]
 refine h v' w' ?_ (below_own r2 hbase (fun g e => (Owns.block hown g e).1)) r2
 unfold Owns
 rw [List.length_append, List.flatMap_append]
 exact r1
theorem add_lit (b o j : Nat) : ((⟨b, o, none⟩ : Addr).add j) = ⟨b, o + j, none⟩ := by unfold Addr.add; split <;> simp_all
/-- .. the row being one that memory holds. -/
theorem step_append_row {α : Type} {k : Nat} {enc : α → List Value} {P : Program} {ops : Array Oper} {o : Oper} {a : Act} {w : World} {K : Act → World → Prop} {Q : Exit → Act → World → Prop} {E : Prop}
  (hgd : o.guard = none) (s x : Operand) (t : TypeId) (ho : o.op = Op.call { callee := Callee.builtin Builtin.append, args := #[s, x], argTypes := #[t, t] })
  (base : Nat) (e : TypeId) (i : TypeInfo) (z : Value) (bytes : Nat) (ht : P.underlying t = some (.slice e)) (hi : P.info? e = some i) (hz : i.zero = some z)
  (hsize : i.size = k) (hby : i.bytes = bytes) (hzs : z.cells.size = k) (hsz : 0 < k) (hk : ∀ x, (enc x).length = k)
  (v : Value) (l : List α) (hs : a.eval s = v) (hown : Owns k e enc w base v l)
  (sv : Value) (m : List α) (hx : a.eval x = sv) (hone : ∀ y ∈ m, ∀ u ∈ enc y, u.oneCell' = true) (hr : RowOf k enc w sv m)
  (h63 : l.length + m.length ≤ maxLen) (hbytes : (l.length + m.length) * bytes ≤ 140737488355328) (hbase : base ≤ w.heap.size)
  (h : ∀ v' w', Owns k e enc w' base v' (l ++ m) → Below base w w' → w.grownBy w' v.ownBlock → K (a.put o.dst v') w') :
  if Region.wanted o (yielded ops a.tmps) = true then Oper.wp P o a w K Q else E := by
 have hw : Region.wanted o (yielded ops a.tmps) = true := by simp [Region.wanted, hgd]
 rcases hr with ⟨ad, c, rfl, rfl, hac, hcm⟩ | ⟨h0, b, off, c, rfl, h1, h2, hb, hrow⟩
 ·cases ad with
  | none =>
   obtain rfl := hac rfl
   rw [if_pos hw]
   have hrun := run_append_owned_none (P := P) (w := w) base t o.type e i k ht hi v _ _ hown
   unfold Oper.wp
   simp [execOp, ho, resolve, invoke, builtin, hs, hx, hrun, Result.andThen]
   exact h v w (by simpa using hown) (Below.refl _ _) ⟨rfl, rfl, rfl, Nat.le_refl _, fun _ _ _ => rfl⟩
  | some ad =>
   exact step_append_src hgd s x t ho base e i z bytes ht hi hz hsize hby hzs hsz hk v l hs hown ad [] 0 c hx rfl (by simp) (by simp) h63 hbytes hbase h
 ·refine step_append_src hgd s x t ho base e i z bytes ht hi hz hsize hby hzs hsz hk v l hs hown ⟨b, off, none⟩ m m.length c hx rfl ?_ ?_ h63 hbytes hbase h
  ·intro u hu
   obtain ⟨y, hy, hu⟩ := List.mem_flatMap.1 hu
   exact hone y hy u hu
  ·intro j u hj
   have hlt : j < m.length * k := by rw [← flat_len hk m]; exact (List.getElem?_eq_some_iff.1 hj).1
   have hq : j / k < m.length := Nat.div_lt_of_lt_mul (by rw [Nat.mul_comm]; exact hlt)
   obtain ⟨y, hy⟩ := get_lt hq
   have hf := flat_get hk m (j / k) y hy (j % k) (Nat.mod_lt _ hsz)
   have hjj : j / k * k + j % k = j := by rw [Nat.mul_comm]; exact Nat.div_add_mod j k
   rw [hjj, hj] at hf
   have := hrow (j / k) y hy (j % k) u hf.symm
   rw [add_lit, ← this]
   congr 2
   omega
end Go.Proofs.YtgcajfglidflnaaGreatDoor

/- A region whose operations make memory, write in place to rows of its own, or are guarded: whatever order they come up in, one walk an operation. -/
namespace Go
open RowKit Shelf
section
variable {P : Program} {ops : Array Oper} {Q : Exit → Act → World → Prop}

/-- What is to be shown of one operation; R says what it does to the world. -/
def GrowD (P : Program) (ops : Array Oper) (Q : Exit → Act → World → Prop) (a0 : Act) (w0 : World) (sp : Nat → Value → World → Prop) (R : Nat → World → World → Prop) (i : Nat) (o : Oper) : Prop :=
 ∀ (a : Act) (w : World), Below w0.heap.size w0 w →
  (∀ e ∈ o.after, Region.binds .any e = true → ∃ v, (∀ d, dstAt ops e.on = some d → d < a0.tmps.size → a.tmps[d]? = some v) ∧ sp e.on v w) →
  (∀ t, (∀ j, j < ops.size → dstAt ops j ≠ some t) → a.tmps[t]? = a0.tmps[t]?) →
  ∀ K : Act → World → Prop, (∀ v w', Below w0.heap.size w0 w' → R i w w' → sp i v w' → K (a.put o.dst v) w') → if Region.wanted o (yielded ops a.tmps) = true then o.wp P a w K Q else K (a.put o.dst undef) w
/-- What lies ahead of what. -/
def ancOk (ops : Array Oper) (anc : Nat → Nat → Bool) : Bool :=
 (List.range ops.size).all fun i => (List.range ops.size).all fun j => !anc i j || match ops[j]? with
  | some o => o.after.any fun e => Region.binds .any e && decide (e.on < j) && (e.on == i || anc i e.on)
  | none => false
theorem ancOk_dep {anc : Nat → Nat → Bool} (h : ancOk ops anc = true) {i j : Nat} (hi : i < ops.size) (hj : j < ops.size) (ha : anc i j = true) : ∃ o, ops[j]? = some o ∧ ∃ e ∈ o.after, Region.binds .any e = true ∧ e.on < j ∧ (e.on = i ∨ anc i e.on = true) := by
 have := List.all_eq_true.1 (List.all_eq_true.1 h i (List.mem_range.2 hi)) j (List.mem_range.2 hj)
 have ho : ops[j]? = some ops[j] := Array.getElem?_eq_some_iff.2 ⟨hj, rfl⟩
 simp only [ha, Bool.not_true, Bool.false_or, ho] at this
 rw [Array.any_eq_true'] at this
 obtain ⟨e, he, hq⟩ := this
 simp only [Bool.and_eq_true, Bool.or_eq_true, decide_eq_true_eq, beq_iff_eq] at hq
 exact ⟨_, ho, e, he, hq.1.1, hq.1.2, hq.2⟩
theorem ancOk_at {anc : Nat → Nat → Bool} (h : ancOk ops anc = true) {lp : Array Bool} (hcl : ∀ j o, ops[j]? = some o → lp.getD j false = true → ∀ e ∈ o.after, Region.binds .any e = true → lp.getD e.on false = true) {i : Nat} (hi : i < ops.size) :
  ∀ j, j < ops.size → anc i j = true → lp.getD j false = true → lp.getD i false = true := by
 intro j
 induction j using Nat.strongRecOn with
 | ind j ih =>
  intro hj ha hl
  obtain ⟨o, ho, e, he, hb, hlt, hor⟩ := ancOk_dep h hi hj ha
  have hle := hcl j _ ho hl e he hb
  rcases hor with h1 | h1
  ·rw [← h1]; exact hle
  ·exact ih e.on hlt (by omega) h1 hle
/-- Who ends another's word is the only one that waits for it. -/
def aliveOk (ops : Array Oper) (alive : Nat → Nat → Bool) : Bool :=
 (List.range ops.size).all fun k => match ops[k]? with
  | some o => o.after.all fun e => !Region.binds .any e || (List.range ops.size).all fun i => alive i e.on || i == k
  | none => true
theorem aliveOk_at {alive : Nat → Nat → Bool} (h : aliveOk ops alive = true) {k : Nat} {o : Oper} (ho : ops[k]? = some o) : ∀ e ∈ o.after, Region.binds .any e = true → ∀ i, i < ops.size → i ≠ k → alive i e.on = true := by
 have hlt : k < ops.size := (Array.getElem?_eq_some_iff.1 ho).1
 have := List.all_eq_true.1 h k (List.mem_range.2 hlt)
 simp only [ho] at this
 intro e he hb i hi hne
 have := Array.all_eq_true_iff_forall_mem.1 this e he
 simp only [hb, Bool.not_true, Bool.false_or] at this
 have := List.all_eq_true.1 this i (List.mem_range.2 hi)
 simpa [hne] using this

theorem wpAnyH_growD (a0 : Act) (w0 : World) (sp : Nat → Value → World → Prop) (R : Nat → World → World → Prop) (alive anc : Nat → Nat → Bool)
  (hsp : ∀ i j v w w', i ≠ j → alive i j = true → anc i j = false → (∀ k, k < ops.size → anc k i = true → alive k j = true) → sp j v w → R i w w' → sp j v w') (hd : apartDst ops = true) (hp : lowOps ops = true) (hal : aliveOk ops alive = true) (han : ancOk ops anc = true)
  (hstep : ∀ i o, ops[i]? = some o → GrowD P ops Q a0 w0 sp R i o)
  (hend : ∀ (vs : Nat → Value) (w : World), Below w0.heap.size w0 w → (∀ j, j < ops.size → (∀ i, i < ops.size → alive i j = true) → sp j (vs j) w) → Q .normal (actOf ops vs (fun _ => true) a0 ops.size) w) :
  ∀ (fuel : Nat) (lp : Array Bool) (vs : Nat → Value) (w : World), lp.size = ops.size → left ops.size (fun j => lp.getD j false) ≤ fuel → Below w0.heap.size w0 w →
   (∀ j o, ops[j]? = some o → lp.getD j false = true → ∀ e ∈ o.after, Region.binds .any e = true → lp.getD e.on false = true) →
   (∀ j, j < ops.size → lp.getD j false = true → (∀ i, i < ops.size → lp.getD i false = true → alive i j = true) → sp j (vs j) w) →
   wpAnyH P .any ops Q (fun _ => True) fuel lp (actOf ops vs (fun j => lp.getD j false) a0 ops.size) w := by
 have hfin : ∀ (lp : Array Bool) (vs : Nat → Value) (w : World), (∀ j, j < ops.size → lp.getD j false = true) → Below w0.heap.size w0 w → (∀ j, j < ops.size → lp.getD j false = true → (∀ i, i < ops.size → lp.getD i false = true → alive i j = true) → sp j (vs j) w) → Q .normal (actOf ops vs (fun j => lp.getD j false) a0 ops.size) w := by
  intro lp vs w hall hb hs
  rw [actOf_congr (l' := fun _ => true) (vs' := vs) fun j hj => ⟨hall j hj, fun _ => rfl⟩]
  exact hend vs w hb fun j hj ha => hs j hj (hall j hj) fun i hi _ => ha i hi
 intro fuel
 induction fuel with
 | zero =>
  intro lp vs w hl hle hb _ hs
  have hall := left_none (Nat.le_zero.1 hle)
  refine ⟨?_, hfin lp vs w hall hb hs⟩
  cases hr : Region.ready .any ops lp with
  | nil => rfl
  | cons x xs =>
   exfalso
   have hx : x ∈ Region.ready .any ops lp := by rw [hr]; exact List.mem_cons_self ..
   obtain ⟨h0, o, ho, _⟩ := mem_ready.1 hx
   have hxm := (Array.getElem?_eq_some_iff.1 ho).1
   have h1 := hall x hxm
   have hxl : x < lp.size := by omega
   simp only [Array.getD, hxl, dif_pos] at h0 h1
   rw [h0] at h1
   cases h1
 | succ fuel ih =>
  intro lp vs w hl hle hb hcl hs
  refine ⟨fun hr => hfin lp vs w (all_listedG hp hl hr) hb hs, fun i hi => ?_⟩
  obtain ⟨h0, o, ho, hall⟩ := mem_ready.1 hi
  have him := (Array.getElem?_eq_some_iff.1 ho).1
  have hil : i < lp.size := by omega
  have hli : lp.getD i false = false := by simp only [Array.getD, hil, dif_pos] at h0 ⊢; exact h0
  have hdi : dstAt ops i = o.dst := by unfold dstAt; rw [ho]; rfl
  have hset : ∀ j, (lp.setIfInBounds i true).getD j false = (j == i || lp.getD j false) := by
   intro j
   by_cases h : j = i
   ·subst h; simp [hil]
   ·have : i ≠ j := fun e => h e.symm
    have hb : (j == i) = false := by simpa using h
    rw [getD_set_ne false this, hb, Bool.false_or]
  have hlow := lowOps_at hp ho
  unfold wpOp
  simp only [ho]
  have hgo := hstep i o ho (actOf ops vs (fun j => lp.getD j false) a0 ops.size) w hb (fun e he hbd => by
   have hel := hall e he hbd
   have heo : e.on < ops.size := by have := hlow e he hbd; omega
   exact ⟨vs e.on, fun d hd' hds => actOf_at hd hd' hel hds heo (Nat.le_refl _), hs e.on heo hel fun i' hi' hli' => aliveOk_at hal ho e he hbd i' hi' (fun h => by rw [h, hli] at hli'; cases hli')⟩) (fun t ht => actOf_other ht) (fun a' w' => True ∧ wpAnyH P .any ops Q (fun _ => True) fuel (lp.setIfInBounds i true) a' w') (fun v w' hbw hR hv => ⟨trivial, ?_⟩)
  ·split
   ·rename_i hw
    rw [if_pos hw] at hgo
    exact .inl hgo
   ·rename_i hw
    rw [if_neg hw] at hgo
    exact hgo
  ·rw [← hdi, actOf_put hd v hli him (Nat.le_refl _)]
   have hcg := actOf_congr (ops := ops) (a := a0) (vs := fun j => if j = i then v else vs j) (vs' := fun j => if j = i then v else vs j) (l := fun j => j == i || lp.getD j false) (l' := fun j => (lp.setIfInBounds i true).getD j false) (m := ops.size) fun j _ => ⟨(hset j).symm, fun _ => rfl⟩
   rw [hcg]
   refine ih _ _ w' (by simp [hl]) ?_ hbw (fun j oj hoj hlj e he hbd => ?_) fun j hj hlj hal2 => ?_
   ·have := left_less (m := ops.size) (l := fun j => lp.getD j false) (l' := fun j => (lp.setIfInBounds i true).getD j false) him hli hset
    omega
   ·rw [hset]
    by_cases h : j = i
    ·subst h
     rw [ho] at hoj
     cases hoj
     have := hall e he hbd
     rw [this, Bool.or_true]
    ·rw [hset j] at hlj
     have hbj : (j == i) = false := by simpa using h
     rw [hbj, Bool.false_or] at hlj
     rw [hcl j oj hoj hlj e he hbd, Bool.or_true]
   ·by_cases h : j = i
    ·subst h
     simpa using hv
    ·rw [hset j] at hlj
     have hbj : (j == i) = false := by simpa using h
     rw [hbj, Bool.false_or] at hlj
     show sp j (if j = i then v else vs j) w'
     rw [if_neg h]
     refine hsp i j _ w w' (fun e => h e.symm) (hal2 i him (by rw [hset]; simp)) ?_ (fun k hk hki => ?_) (hs j hj hlj fun i' hi' hli' => hal2 i' hi' (by rw [hset, hli', Bool.or_true])) hR
     ·cases hq : anc i j with
      | false => rfl
      | true =>
       exfalso
       have := ancOk_at han hcl him j hj hq hlj
       rw [hli] at this
       cases this
     ·refine hal2 k hk ?_
      rw [hset]
      obtain ⟨o', ho', e, he, hb', hlt, hor⟩ := ancOk_dep han hk him hki
      rw [ho] at ho'
      cases ho'
      have hle := hall e he hb'
      have hkl : lp.getD k false = true := by
       rcases hor with h1 | h1
       ·rw [← h1]; exact hle
       ·exact ancOk_at han hcl hk e.on (by omega) h1 hle
      rw [hkl, Bool.or_true]
/-- The whole: all come up; then the rest. -/
theorem wpAnyH_grownD {l : List Oper} {a0 : Act} {w0 : World} (sp : Nat → Value → World → Prop) (R : Nat → World → World → Prop) (alive anc : Nat → Nat → Bool)
  (hsp : ∀ i j v w w', i ≠ j → alive i j = true → anc i j = false → (∀ k, k < l.toArray.size → anc k i = true → alive k j = true) → sp j v w → R i w w' → sp j v w') (hd : apartDst l.toArray = true) (hp : lowOps l.toArray = true) (hal : aliveOk l.toArray alive = true) (han : ancOk l.toArray anc = true)
  (hstep : AllAt (GrowD P l.toArray Q a0 w0 sp R) 0 l)
  (hend : ∀ (vs : Nat → Value) (w : World), Below w0.heap.size w0 w → (∀ j, j < l.length → (∀ i, i < l.length → alive i j = true) → sp j (vs j) w) → Q .normal (actOf l.toArray vs (fun _ => true) a0 l.length) w) {m : Nat} (hm : l.length = m) :
  wpAnyH P .any l.toArray Q (fun _ => True) m (Array.replicate m false) a0 w0 := by
 subst hm
 have e : ∀ m, actOf l.toArray (fun _ => undef) (fun j => (Array.replicate l.length false).getD j false) a0 m = a0 := by
  intro m
  induction m with
  | zero => rfl
  | succ m ih =>
   unfold actOf
   rw [if_neg (by simp [Array.getD]), ih]
 have := wpAnyH_growD (P := P) (Q := Q) a0 w0 sp R alive anc hsp hd hp hal han (fun i o ho => by have := hstep.at i o (by simpa using ho); simpa using this) (by simpa using hend) l.length (Array.replicate l.length false) (fun _ => undef) w0 (by simp) (by unfold left; exact Nat.le_trans (List.length_filter_le _ _) (by simp)) (Below.refl _ _) (fun j _ _ h => by simp [Array.getD] at h) (fun j _ h _ => by simp [Array.getD] at h)
 rwa [e] at this
end
/-- A step that leaves all that was. -/
theorem growB {w0 w : World} {o : Oper} {a : Act} {K : Act → World → Prop} {p : Value → World → Prop} (hB : Below w0.heap.size w0 w)
  (hK : ∀ v w', Below w0.heap.size w0 w' → Below w.heap.size w w' → p v w' → K (a.put o.dst v) w') : ∀ v w', Below w.heap.size w w' → p v w' → K (a.put o.dst v) w' :=
 fun v w' hb hs => hK v w' (hB.trans (hb.mono hB.size)) hb hs
end Go

/- A region whose operations make memory and append: what its operations leave, as lists. -/
namespace Go.Proofs.YtgcajfglidflnaaGreatDoor
open Go.RowKit Go.Shelf

def relD (apps : List Nat) (Wr : World → World → Prop) (appsE : List Nat) (We : World → World → Prop) (i : Nat) : World → World → Prop := cond (apps.contains i) Wr (cond (appsE.contains i) We (fun w w' => Below w.heap.size w w'))
def aliveD (ends : List (Nat × Nat)) (i j : Nat) : Bool := !ends.contains (i, j)
def ancD (ancs : List (Nat × Nat)) (i j : Nat) : Bool := ancs.contains (i, j)
def StaysW (Wr : World → World → Prop) (p : Value → World → Prop) : Prop := ∀ v w w', p v w → Wr w w' → p v w'
def AllW (Wr : World → World → Prop) (l : List (Value → World → Prop)) : List Nat → Prop
 | [] => True
 | j :: s => StaysW Wr (l.getD j fun _ _ => True) ∧ AllW Wr l s
theorem AllW.at {Wr : World → World → Prop} {l : List (Value → World → Prop)} : ∀ {s : List Nat}, AllW Wr l s → ∀ j ∈ s, StaysW Wr (l.getD j fun _ _ => True)
 | _ :: _, h, j, hj => by
  rcases List.mem_cons.1 hj with rfl | hj
  ·exact h.1
  ·exact AllW.at h.2 j hj
def chkD (n m : Nat) (apps stab : List Nat) (ends ancs : List (Nat × Nat)) : Bool :=
 apps.all fun i => (List.range m).all fun j => i == j || stab.contains j || !aliveD ends i j || ancD ancs i j || (List.range n).any fun k => ancD ancs k i && !aliveD ends k j
theorem chkD_at {n m : Nat} {apps stab : List Nat} {ends ancs : List (Nat × Nat)} (h : chkD n m apps stab ends ancs = true) {i j : Nat} (hi : i ∈ apps) (hj : j < m) (hne : i ≠ j) (ha : aliveD ends i j = true) (hn : ancD ancs i j = false) (hk : ∀ k, k < n → ancD ancs k i = true → aliveD ends k j = true) : j ∈ stab := by
 have := List.all_eq_true.1 (List.all_eq_true.1 h i hi) j (List.mem_range.2 hj)
 have hf : ((List.range n).any fun k => ancD ancs k i && !aliveD ends k j) = false := by
  rw [List.any_eq_false]
  intro k hkn
  cases hq : ancD ancs k i with
  | false => simp
  | true => rw [hk k (List.mem_range.1 hkn) hq]; simp
 have he : (i == j) = false := by simpa using hne
 rw [ha, hn, hf, he] at this
 simp only [Bool.not_true, Bool.or_false, Bool.false_or] at this
 simpa using this
theorem spD {n m : Nat} {l : List (Value → World → Prop)} {apps stab appsE stabE : List Nat} {ends ancs : List (Nat × Nat)} {Wr We : World → World → Prop} (hA : AllStay l) (hW : AllW Wr l stab) (hE : AllW We l stabE)
  (hm : l.length = m) (hchk : chkD n m apps stab ends ancs = true) (hchkE : chkD n m appsE stabE ends ancs = true) :
  ∀ i j v w w', i ≠ j → aliveD ends i j = true → ancD ancs i j = false → (∀ k, k < n → ancD ancs k i = true → aliveD ends k j = true) → spL l j v w → relD apps Wr appsE We i w w' → spL l j v w' := by
 intro i j v w w' hne ha hn hk hs hR
 by_cases hj : j < m
 ·unfold relD at hR
  cases hi : apps.contains i with
  | true =>
   rw [hi] at hR
   exact hW.at j (chkD_at hchk (by simpa using hi) hj hne ha hn hk) v w w' hs hR
  | false =>
   rw [hi] at hR
   cases hi2 : appsE.contains i with
   | true =>
    rw [hi2] at hR
    exact hE.at j (chkD_at hchkE (by simpa using hi2) hj hne ha hn hk) v w w' hs hR
   | false =>
    rw [hi2] at hR
    exact spL_stays hA j v w w' hs hR
 ·unfold spL
  rw [List.getD_eq_getElem?_getD, List.getElem?_eq_none (by omega)]
  trivial
theorem stw_eq (Wr : World → World → Prop) (c : Value) : StaysW Wr fun v _ => v = c := fun _ _ _ h _ => h
theorem stays_owns {α : Type} (k : Nat) (e : TypeId) (enc : α → List Value) (base : Nat) (l : List α) : Stays fun v w => Owns k e enc w base v l := fun _ _ _ h hb => Owns.below h hb
/-- All blocks that hold something stay. -/
def KeptE (w w' : World) : Prop := ∀ (b : Nat) (c : Array Value) (t : TypeId), c.size ≠ 0 → w.heap[b]? = some (.cells c t) → w'.heap[b]? = some (.cells c t)
theorem keptE_of {w w' : World} {g : Nat} {e : TypeId} (hg : w.grownBy w' (some g)) (h0 : w.heap[g]? = some (.cells #[] e)) : KeptE w w' := fun b c t hc hb =>
 (hg.block b (blk_lt hb) (fun h => by cases h; rw [h0] at hb; cases hb; exact hc rfl)).trans hb
/-- An empty row, newly made. -/
def NewRow (e : TypeId) (base : Nat) (v : Value) (w : World) : Prop := ∃ g, v = .slice (some ⟨g, 0, none⟩) 0 0 ∧ base ≤ g ∧ w.heap[g]? = some (.cells #[] e)
theorem stays_newRow (e : TypeId) (base : Nat) : Stays (NewRow e base) := by
 rintro v w w' ⟨g, h1, h2, h3⟩ hb
 exact ⟨g, h1, h2, blk_below h3 hb (blk_lt h3)⟩
theorem newRow_owns {α : Type} {k : Nat} {e : TypeId} {enc : α → List Value} {base g : Nat} {w : World} (hb : base ≤ g) (h : w.heap[g]? = some (.cells #[] e)) : Owns k e enc w base (.slice (some ⟨g, 0, none⟩) 0 0) ([] : List α) :=
 ⟨by simp, .inr ⟨g, 0, #[], rfl, hb, h, Nat.le_refl _, by unfold maxLen; omega, by simp, by simp⟩⟩
/-- A row of one, newly made. -/
def NewOne (e : TypeId) (cs : List Value) (base : Nat) (v : Value) (w : World) : Prop := ∃ g, v = .slice (some ⟨g, 0, none⟩) 1 1 ∧ base ≤ g ∧ w.heap[g]? = some (.cells cs.toArray e)
theorem stays_newOne (e : TypeId) (cs : List Value) (base : Nat) : Stays (NewOne e cs base) := by
 rintro v w w' ⟨g, h1, h2, h3⟩ hb
 exact ⟨g, h1, h2, blk_below h3 hb (blk_lt h3)⟩
theorem stwE_newOne (e : TypeId) (cs : List Value) (base : Nat) (hc : cs.length ≠ 0) : StaysW KeptE (NewOne e cs base) := by
 rintro v w w' ⟨g, h1, h2, h3⟩ hb
 exact ⟨g, h1, h2, hb g _ _ (by simpa using hc) h3⟩
theorem newOne_row {α : Type} {k : Nat} {enc : α → List Value} {e : TypeId} {x : α} {base : Nat} {v : Value} {w : World} (hk : ∀ x, (enc x).length = k) (h : NewOne e (enc x) base v w) : RowOf k enc w v [x] := by
 obtain ⟨g, rfl, _, h3⟩ := h
 exact row_blk (l := [x]) hk (by simpa using h3) (by simp) (show 1 ≤ maxLen by decide)
end Go.Proofs.YtgcajfglidflnaaGreatDoor
