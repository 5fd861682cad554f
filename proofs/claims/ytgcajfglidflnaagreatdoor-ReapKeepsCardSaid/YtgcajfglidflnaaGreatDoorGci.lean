import Derived.Test.YtgcajfglidflnaaGreatDoorEsm
import Derived.Test.YtgcajfglidflnaaGreatDoorGrr
/- A region inside a fence: its first m operations only make memory (some of them guarded), the others wait for all of them. -/
namespace Go
open RowKit Shelf
section
variable {F : Fence} {n : Nat} {P : Program} {ops : Array Oper} {Q : Exit → Act → World → Prop}

def GuardStepIn (F : Fence) (n : Nat) (P : Program) (ops : Array Oper) (Q : Exit → Act → World → Prop) (a0 : Act) (w0 : World) (sp : Nat → Value → World → Prop) (i : Nat) (o : Oper) : Prop :=
 ∀ (a : Act) (w : World), Below w0.heap.size w0 w →
  (∀ e ∈ o.after, Region.binds .any e = true → ∃ v, (∀ d, dstAt ops e.on = some d → d < a0.tmps.size → a.tmps[d]? = some v) ∧ sp e.on v w) →
  (∀ t, (∀ j, j < ops.size → dstAt ops j ≠ some t) → a.tmps[t]? = a0.tmps[t]?) →
  ∀ K : Act → World → Prop, (∀ v w', Below w.heap.size w w' → sp i v w' → K (a.put o.dst v) w') → if Region.wanted o (yielded ops a.tmps) = true then o.wpIn F n P a w K Q else (∀ f, o.about P w a.eval = some f → F.fn f) ∧ K (a.put o.dst undef) w
theorem wpAnyIn_growCut (a0 : Act) (w0 : World) (sp : Nat → Value → World → Prop) (hsp : ∀ i v w w', sp i v w → Below w.heap.size w w' → sp i v w') (m r : Nat) (hm : ops.size = m + r) (hd : apartDst ops = true) (hp : lowOps ops = true) (hc : cuts ops m = true)
  (hstep : ∀ i o, i < m → ops[i]? = some o → GuardStepIn F n P ops Q a0 w0 sp i o)
  (hend : ∀ (vs : Nat → Value) (w : World), Below w0.heap.size w0 w → (∀ j, j < m → sp j (vs j) w) → ∀ f, r ≤ f → wpAnyIn F n P .any ops Q f (Array.replicate m true ++ Array.replicate r false) (actOf ops vs (fun _ => true) a0 m) w) :
  ∀ (fuel : Nat) (lp : Array Bool) (vs : Nat → Value) (w : World), lp.size = m → downTo ops m lp → left m (fun j => lp.getD j false) ≤ fuel → Below w0.heap.size w0 w → (∀ j, j < m → lp.getD j false = true → sp j (vs j) w) →
   ∀ f, fuel + r ≤ f → wpAnyIn F n P .any ops Q f (lp ++ Array.replicate r false) (actOf ops vs (fun j => lp.getD j false) a0 m) w := by
 have hfin : ∀ (lp : Array Bool) (vs : Nat → Value) (w : World), lp.size = m → (∀ j, j < m → lp.getD j false = true) → Below w0.heap.size w0 w → (∀ j, j < m → lp.getD j false = true → sp j (vs j) w) → ∀ f, r ≤ f → wpAnyIn F n P .any ops Q f (lp ++ Array.replicate r false) (actOf ops vs (fun j => lp.getD j false) a0 m) w := by
  intro lp vs w hl hall hb hs f hf
  have he : lp = Array.replicate m true := by
   apply Array.ext
   ·simp [hl]
   ·intro i h1 h2
    have := hall i (by omega)
    simp only [Array.getD, h1, dif_pos] at this
    simpa using this
  rw [actOf_congr (l' := fun _ => true) (vs' := vs) fun j hj => ⟨hall j hj, fun _ => rfl⟩, he]
  exact hend vs w hb (fun j hj => hs j hj (hall j hj)) f hf
 intro fuel
 induction fuel with
 | zero =>
  intro lp vs w hl hdn hle hb hs f hf
  exact hfin lp vs w hl (left_none (Nat.le_zero.1 hle)) hb hs f (by omega)
 | succ fuel ih =>
  intro lp vs w hl hdn hle hb hs f hf
  by_cases hall : ∀ j, j < m → lp.getD j false = true
  ·exact hfin lp vs w hl hall hb hs f (by omega)
  obtain ⟨f', rfl⟩ : ∃ f', f = f' + 1 := ⟨f - 1, by omega⟩
  refine ⟨fun hr => ?_, fun i hi => ?_⟩
  ·exfalso
   refine hall fun j hj => ?_
   have := all_listedG hp (by simp [hl, hm]) hr j (by omega)
   rwa [getD_front hl false hj] at this
  ·rcases cut_ready (pre := ops) (fun _ _ => rfl) hc hl hdn hi with ⟨him, _⟩ | h
   ·obtain ⟨h0, o, ho, hof⟩ := mem_ready.1 hi
    have hil : i < lp.size := by omega
    rw [getD_front hl true him] at h0
    have hli : lp.getD i false = false := by simp only [Array.getD, hil, dif_pos] at h0 ⊢; exact h0
    have hdi : dstAt ops i = o.dst := by unfold dstAt; rw [ho]; rfl
    have hlow := lowOps_at hp ho
    have hset : ∀ j, (lp.setIfInBounds i true).getD j false = (j == i || lp.getD j false) := by
     intro j
     by_cases h : j = i
     ·subst h; simp [hil]
     ·have : i ≠ j := fun e => h e.symm
      have hb : (j == i) = false := by simpa using h
      rw [getD_set_ne false this, hb, Bool.false_or]
    have hsetA : (lp ++ Array.replicate r false).setIfInBounds i true = lp.setIfInBounds i true ++ Array.replicate r false := by
     rw [Array.setIfInBounds_append_left (by omega)]
    have hof' : ∀ e ∈ o.after, Region.binds .any e = true → lp.getD e.on false = true := fun e he hb => by
     have := hof e he hb
     rw [getD_front hl false (by have := hlow e he hb; omega)] at this
     exact this
    have hd' : downTo ops m (lp.setIfInBounds i true) := by
     intro k o' hk ho' ht e he hb
     by_cases hik : i = k
     ·subst hik
      rw [ho] at ho'
      cases ho'
      exact getD_set_true (hof' e he hb)
     ·rw [getD_set_ne false hik] at ht
      exact getD_set_true (hdn k o' hk ho' ht e he hb)
    have hgo := hstep i o him ho (actOf ops vs (fun j => lp.getD j false) a0 m) w hb (fun e he hbd => ⟨vs e.on, fun d hd' hds => actOf_at hd hd' (hof' e he hbd) hds (by have := hlow e he hbd; omega) (by omega), hs e.on (by have := hlow e he hbd; omega) (hof' e he hbd)⟩) (fun t ht => actOf_other fun j hj => ht j (by omega)) (fun a' w' => wpAnyIn F n P .any ops Q f' ((lp ++ Array.replicate r false).setIfInBounds i true) a' w') (fun v w' hbw hv => ?_)
    ·unfold wpOpIn
     simp only [ho]
     exact hgo
    ·rw [← hdi, actOf_put hd v hli him (by omega), hsetA]
     have hcg := actOf_congr (ops := ops) (a := a0) (vs := fun j => if j = i then v else vs j) (vs' := fun j => if j = i then v else vs j) (l := fun j => j == i || lp.getD j false) (l' := fun j => (lp.setIfInBounds i true).getD j false) (m := m) fun j _ => ⟨(hset j).symm, fun _ => rfl⟩
     rw [hcg]
     refine ih _ _ w' (by simp [hl]) hd' ?_ (hb.trans (hbw.mono hb.size)) (fun j hj hlj => ?_) _ (by omega)
     ·have := left_less (m := m) (l := fun j => lp.getD j false) (l' := fun j => (lp.setIfInBounds i true).getD j false) him hli hset
      omega
     ·by_cases h : j = i
      ·subst h
       simpa using hv
      ·rw [hset j] at hlj
       have hbj : (j == i) = false := by simpa using h
       rw [hbj, Bool.false_or] at hlj
       show sp j (if j = i then v else vs j) w'
       rw [if_neg h]
       exact hsp j _ w w' (hs j hj hlj) hbw
   ·exact absurd h hall
/-- The whole region. -/
theorem wpIn_region_growCut {id : Nat} {a : Act} {w : World} {l : List Oper} (m r : Nat) (sp : Nat → Value → World → Prop) (hsp : ∀ i v w w', sp i v w → Below w.heap.size w w' → sp i v w') (hf : P.follows .mixedOrders = true) (hm : l.length = m + r) (hd : apartDst l.toArray = true) (hp : lowOps l.toArray = true) (hc : cuts l.toArray m = true)
  (hstep : AllAt (fun i o => i < m → GuardStepIn F n P l.toArray Q a w.drew sp i o) 0 l)
  (hend : ∀ (vs : Nat → Value) (X : World), Below w.drew.heap.size w.drew X → (∀ j, j < m → sp j (vs j) X) → ∀ f, r ≤ f → wpAnyIn F n P .any l.toArray Q f (Array.replicate m true ++ Array.replicate r false) (actOf l.toArray vs (fun _ => true) a m) X) : (Code.region id l.toArray true).wpIn F n P Q a w := by
 refine wpIn_region_any hf ?_
 have h := wpAnyIn_growCut (F := F) (n := n) (P := P) a w.drew sp hsp m r (by simpa using hm) hd hp hc (fun i o hi ho => by have := hstep.at i o (by simpa using ho); rw [Nat.zero_add] at this; exact this hi) hend m (Array.replicate m false) (fun _ => undef) w.drew (by simp) (fun k o hk _ h => by simp [Array.getD] at h) (by unfold left; exact Nat.le_trans (List.length_filter_le _ _) (by simp)) (Below.refl _ _) (fun j _ h => by simp [Array.getD] at h) l.toArray.size (by simp [hm])
 have e : ∀ k, actOf l.toArray (fun _ => undef) (fun j => (Array.replicate m false).getD j false) a k = a := by
  intro k
  induction k with
  | zero => rfl
  | succ k ih =>
   unfold actOf
   rw [if_neg (by simp [Array.getD]), ih]
 rw [e] at h
 have e2 : Array.replicate m false ++ Array.replicate r false = Array.replicate l.toArray.size false := by
  rw [Array.replicate_append_replicate]; simp [hm]
 rw [e2] at h
 exact h
end
end Go
