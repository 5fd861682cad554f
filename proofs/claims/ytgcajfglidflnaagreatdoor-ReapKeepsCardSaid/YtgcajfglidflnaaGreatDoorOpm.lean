import Derived.Test.YtgcajfglidflnaaGreatDoorAow
import Derived.ProofKit
import Derived.OpenShut
import Derived.Test.YtgcajfglidflnaaGreatDoorRows
import Derived.Test.YtgcajfglidflnaaGreatDoorGtm
import Derived.LaidMore
import Derived.Deep.Slices
import Derived.Stop.Joined
import Derived.Maps.OwnSet
import Derived.Deep.Fields
import Derived.Lib.SmallJoins
import Derived.Test.YtgcajfglidflnaaGreatDoorClo
/- A part of the proofs about open calls: contracts of functions, or plain facts that they want. -/
namespace Go.Proofs.YtgcajfglidflnaaGreatDoor
open Go.ChangeShapes Go.WideShapes Go.ChangeAt Go.RowKit

theorem ownKnob_none : ownKnob Tryz.prog.godebug = none := by kernel_rfl
theorem laidOut_all : laidOutB Tryz.prog = true := by kernel_rfl

/-- What the arguments read as, they read as behind a call that keeps all that was there. -/
theorem trodAll_below {H : Type} {enc : TypeId × Value → H} {W W' : World} (hb : Below W.heap.size W W') : ∀ (ts : List TypeId) (vs : List Value) (ds : List (DataW H)) (ps : List MemPlace),
  (∀ t ∈ ts, Tryz.prog.readableRec t = true ∧ t < Tryz.prog.types.size) → DataW.TrodAll enc Tryz.prog W 0 (fun _ => true) true ts vs ds ps → (∀ x ∈ ps, x.block < W.heap.size) →
  DataW.TrodAll enc Tryz.prog W' 0 (fun b => decide (b < W.heap.size)) true ts vs ds ps := by
 intro ts
 induction ts with
 | nil =>
  intro vs ds ps _ h _
  obtain ⟨rfl, rfl, rfl⟩ := trodAll_nil h
  exact trodAll_mk0
 | cons t ts ih =>
  intro vs ds ps ht h hlt
  obtain ⟨v0, vs0, d0, ds0, p0, q0, rfl, rfl, rfl, h0, r0⟩ := trodAll_cons h
  obtain ⟨h1, h2⟩ := ht t (List.mem_cons_self ..)
  exact trodAll_cons_mk (Below.trod laidOut_all h1 h2 h0 hb (fun x hx => hlt x (List.mem_append_left _ hx)))
   (ih vs0 ds0 q0 (fun t' h' => ht t' (List.mem_cons_of_mem _ h')) r0 (fun x hx => hlt x (List.mem_append_right _ hx)))
end Go.Proofs.YtgcajfglidflnaaGreatDoor

/- The tables of limits and of changes, out of the row's condition. -/
namespace Go.Proofs.YtgcajfglidflnaaGreatDoor
open Go.ChangeShapes Go.WideShapes Go.ChangeAt Go.WideMaps Go.WideElems Go.RowKit Go.Maps

theorem gLimits : Tryz.prog.globalNamed "herd/conf.limits" = some 1 := by kernel_rfl
theorem tLimits : (Tryz.prog.globals[1]?).map (·.type) = some 151 := by kernel_rfl
theorem gChanges : Tryz.prog.globalNamed "herd/brain.changes" = some 0 := by kernel_rfl
theorem tChanges : (Tryz.prog.globals[0]?).map (·.type) = some 145 := by kernel_rfl
section
variable {H : Type} {enc : TypeId × Value → H} {w : World} {base : Nat} {sp : Nat → Bool} {held : Bool}
set_option maxRecDepth 100000 in
theorem read_limit {n : Nat} {cs : List Value} {a b : Int} {p : List MemPlace} (h : DataW.trod enc Tryz.prog w base sp held n 148 cs = some (.agg [.lit (.int .i64 a), .lit (.int .i64 b)], p)) : cs = [.int .i64 a, .int .i64 b] := by
 have hs : Tryz.prog.underlying 148 = some (.struct (Tryz.prog.fieldsOf 148)) := by kernel_rfl
 obtain ⟨ys, m, _, hx, hlen, hyl, hf⟩ := DataW.trod_struct hs h
 rw [show Tryz.prog.cellsOf 148 = 2 by kernel_rfl] at hlen
 rw [show (Tryz.prog.fieldsOf 148).size = 2 by kernel_rfl] at hyl
 match cs, hlen, ys, hyl with
 | [c0, c1], _, [y0, y1], _ =>
  simp only [List.map_cons, List.map_nil, Prod.mk.injEq, DataW.agg.injEq, List.cons.injEq, and_true] at hx
  obtain ⟨⟨e0, e1⟩, _⟩ := hx
  have h0 := hf 0 ((Tryz.prog.fieldsOf 148).getD 0 default) (by kernel_rfl)
  have h1 := hf 1 ((Tryz.prog.fieldsOf 148).getD 1 default) (by kernel_rfl)
  have h0 : DataW.trod enc Tryz.prog w base sp held m 3 [c0] = some y0 := h0
  have h1 : DataW.trod enc Tryz.prog w base sp held m 3 [c1] = some y1 := h1
  obtain ⟨a0, q0, r0, _⟩ := DataW.trod_int Tryz.underlying3 h0
  obtain ⟨a1, q1, r1, _⟩ := DataW.trod_int Tryz.underlying3 h1
  rw [r0] at e0
  rw [r1] at e1
  cases e0
  cases e1
  cases q0
  cases q1
  rfl
set_option maxRecDepth 100000 in
theorem read_bytes {n : Nat} {v : Value} {l : List Int} {p : List MemPlace} (h : DataW.trod enc Tryz.prog w base sp held n 144 [v] = some (.slice (l.map fun x => .lit (.int .u8 x)) [], p)) (h0 : 0 < l.length) (_hm : l.length ≤ 100) : RowOf 1 enc8 w v l := by
 rcases Go.Deep.open_slice Tryz.underlying144 h with ⟨_, hx⟩ | ⟨a, len, cap, m, n, D, Pl, hcs, _, hl, hmx, hmm, hx, hi⟩
 ·simp at hx
 ·have hcs : v = .slice (some a) len cap := by simpa using hcs
  subst hcs
  simp only [Prod.mk.injEq, DataW.slice.injEq] at hx
  obtain ⟨⟨hx, _⟩, _⟩ := hx
  have hlen : l.length = len := by
   have := congrArg List.length hx
   simpa using this
  have hq : ∀ i x, l[i]? = some x → w.cell? (a.add i) = some (.int .u8 x) := by
   intro i x hix
   have hil := lt_get hix
   have him : i < m := by rw [hmm]; split <;> omega
   obtain ⟨cs', hc, ht⟩ := hi i him
   rw [show Tryz.prog.cellsOf 5 = 1 by kernel_rfl, Nat.mul_one] at hc
   obtain ⟨_, hcl, hat⟩ := World.cells?_some hc
   have hD : D i = .lit (.int .u8 x) := by
    have := congrArg (fun l => l[i]?) hx
    simp only [List.getElem?_map, hix, Option.map_some] at this
    rw [List.getElem?_range (by omega)] at this
    simpa using this.symm
   obtain ⟨a0, q0, r0, _⟩ := DataW.trod_int Tryz.underlying5 ht
   simp only [Prod.mk.injEq] at r0
   rw [hD] at r0
   obtain ⟨r0, _⟩ := r0
   cases r0
   subst q0
   have := hat 0 (by simp)
   simpa [Addr.add] using this
  have hsp : a.spot = none := by
   obtain ⟨x, hx⟩ := get_lt h0
   have := hq 0 x hx
   rw [show a.add 0 = a by simp [Addr.add]] at this
   unfold World.cell? at this
   split at this
   ·split at this
    ·cases this
    ·rename_i hs; simpa using hs
   ·cases this
  obtain ⟨ab, ao, asp⟩ := a
  simp only at hsp
  subst hsp
  have hat : RowAt 1 enc8 w ab ao l := by
   intro i x hix j u hj
   cases j with
   | zero =>
    have := hq i x hix
    rw [show ((⟨ab, ao, none⟩ : Addr).add i) = ⟨ab, ao + i, none⟩ by unfold Addr.add; split <;> simp_all] at this
    simp [enc8] at hj
    subst hj
    simpa using this
   | succ j => simp [enc8] at hj
  refine .inr ⟨h0, ab, ao, cap, by rw [hlen], by omega, hmx, ?_, hat⟩
  obtain ⟨x, hx⟩ := get_lt h0
  exact lt_of_cell (hat 0 x hx 0 _ rfl)
end
theorem laid_lim {H : Type} : (Rows.laid_herd_conf_limits : DataW H) = .agg (limL.map fun p => .agg [.lit (.int .i64 p.1), .lit (.int .i64 p.2)]) := rfl
def chD {H : Type} (l : List Int) : DataW H := if l = [] then .nil else .slice (l.map fun x => .lit (.int .u8 x)) []
theorem laid_ch {H : Type} : (Rows.laid_herd_brain_changes : DataW H) = .agg (chL.map chD) := rfl
set_option maxRecDepth 100000 in
theorem tables_of {W : World} (h : laidMetH Tryz.prog [("herd/conf.limits", Rows.laid_herd_conf_limits), ("herd/brain.changes", Rows.laid_herd_brain_changes)] W) : Limits W ∧ Changes W := by
 rw [MakeChecks.laidMetH_plain _ _ _ (by kernel_rfl)] at h
 obtain ⟨ps, ⟨g0, t0, cs0, f0, p0, q0, hg0, ht0, hv0, hd0, ⟨g1, t1, cs1, f1, p1, q1, hg1, ht1, hv1, hd1, _, _⟩, _⟩, _, _⟩ := h
 obtain rfl := Option.some.inj (gLimits.symm.trans hg0)
 obtain rfl := Option.some.inj (tLimits.symm.trans ht0)
 obtain rfl := Option.some.inj (gChanges.symm.trans hg1)
 obtain rfl := Option.some.inj (tChanges.symm.trans ht1)
 constructor
 ·rw [laid_lim] at hd0
  obtain ⟨xs, m, _, hx, hlen, hxl, hat⟩ := DataW.trod_array Tryz.underlying151 hd0
  simp only [Prod.mk.injEq, DataW.agg.injEq] at hx
  have hrow : RowAt 2 encL W 1 0 limL := by
   intro i x hi j v hj
   have hi13 : i < 13 := lt_get hi
   have h1 := hat i hi13
   rw [show Tryz.prog.cellsOf 148 = 2 by kernel_rfl] at h1
   have hxi := congrArg (fun l => l[i]?) hx.1
   simp only [List.getElem?_map, hi, Option.map_some] at hxi
   obtain ⟨y, hy⟩ := get_lt (show i < xs.length by omega)
   rw [hy, Option.map_some, Option.some.injEq] at hxi
   obtain ⟨yd, yp⟩ := y
   dsimp only at hxi
   subst hxi
   rw [hy] at h1
   have hc := read_limit h1
   have hj2 : j < 2 := lt_get hj
   rw [World.var?_cell hg0 hv0]
   have := congrArg (fun l => l[j]?) hc
   simp only [List.getElem?_take, List.getElem?_drop, if_pos hj2] at this
   rw [Nat.zero_add, ← Array.getElem?_toList, this]
   exact hj
  exact ⟨hrow, lt_of_cell (hrow 0 (0, 6) rfl 0 _ rfl)⟩
 ·rw [laid_ch] at hd1
  obtain ⟨xs, m, _, hx, hlen, hxl, hat⟩ := DataW.trod_array Tryz.underlying145 hd1
  simp only [Prod.mk.injEq, DataW.agg.injEq] at hx
  intro i l hi
  have hi11 : i < 11 := lt_get hi
  have h1 := hat i hi11
  rw [show Tryz.prog.cellsOf 144 = 1 by kernel_rfl, Nat.mul_one] at h1
  have hxi := congrArg (fun l => l[i]?) hx.1
  simp only [List.getElem?_map, hi, Option.map_some] at hxi
  obtain ⟨y, hy⟩ := get_lt (show i < xs.length by omega)
  rw [hy, Option.map_some, Option.some.injEq] at hxi
  obtain ⟨yd, yp⟩ := y
  dsimp only at hxi
  subst hxi
  rw [hy] at h1
  have hl11 : cs1.toList.length = 11 := hlen
  obtain ⟨v, hv⟩ := get_lt (l := cs1.toList) (k := i) (by omega)
  have e1 : (cs1.toList.drop i).take 1 = [v] := by
   rw [List.drop_eq_getElem_cons (by omega)]
   rw [List.getElem?_eq_getElem (by omega)] at hv
   cases hv
   rfl
  rw [e1] at h1
  refine ⟨v, by rw [World.var?_cell hg1 hv1, ← Array.getElem?_toList]; exact hv, ?_⟩
  by_cases hl : l = []
  ·subst hl
   rcases Go.Deep.open_slice Tryz.underlying144 h1 with ⟨hx, _⟩ | ⟨a, len, cap, m, n, D, Pl, hcs, _, _, _, _, hx, _⟩
   ·simp at hx
    subst hx
    exact row_nil W
   ·simp [chD] at hx
  ·have hcd : (chD l : DataW Unit) = .slice (l.map fun x => .lit (.int .u8 x)) [] := by unfold chD; rw [if_neg hl]
   rw [hcd] at h1
   exact read_bytes h1 (List.length_pos_iff.2 hl) (by
    have : ∀ l ∈ chL, l.length ≤ 100 := by decide
    exact this l (mem_get hi))
end Go.Proofs.YtgcajfglidflnaaGreatDoor

/- Arguments that are slices of structs, opened: they read as lists. -/
namespace Go.Proofs.YtgcajfglidflnaaGreatDoor
open Go.ChangeShapes Go.WideShapes Go.ChangeAt Go.RowKit Go.Deep Go.Joins
theorem wf_in8 {n : Int} (h : (Lit.int .u8 n).wf = true) : in8 n := bounds_u8 h

theorem list_of {α : Type} {Q : Nat → α → Prop} : ∀ n, (∀ i, i < n → ∃ x, Q i x) → ∃ l : List α, l.length = n ∧ ∀ i x, l[i]? = some x → Q i x
 | 0, _ => ⟨[], rfl, fun i x h => by simp at h⟩
 | n + 1, h => by
  obtain ⟨l, hl, hq⟩ := list_of n (fun i hi => h i (by omega))
  obtain ⟨x, hx⟩ := h n (by omega)
  refine ⟨l ++ [x], by simp [hl], fun i y hy => ?_⟩
  by_cases hi : i < l.length
  ·rw [List.getElem?_append_left hi] at hy; exact hq i y hy
  ·rw [List.getElem?_append_right (by omega)] at hy
   have : i = n := by
    have := (List.getElem?_eq_some_iff.1 hy).1
    simp at this; omega
   subst this
   rw [hl, Nat.sub_self] at hy
   simp at hy; subst hy; exact hx

section
variable {H : Type} {enc : TypeId × Value → H} {w : World}

theorem open_rows {α : Type} {k : Nat} {en : α → List Value} {wf : α → Prop} {t e : TypeId} (ht : Tryz.prog.underlying t = some (.slice e)) (hC : Tryz.prog.cellsOf e = k) (hk0 : 0 < k) (hen : ∀ x, (en x).length = k)
  (hrd : ∀ n cs y, DataW.trod enc Tryz.prog w 0 (fun _ => true) true n e cs = some y → ∃ x, wf x ∧ en x = cs)
  {fuel : Nat} {v : Value} {x : DataW H × List MemPlace} (h : DataW.trod enc Tryz.prog w 0 (fun _ => true) true fuel t [v] = some x) : ∃ l : List α, RowOf k en w v l ∧ ∀ y ∈ l, wf y := by
 rcases open_slice ht h with ⟨h0, _⟩ | ⟨a, len, cap, m, n, D, Pl, hcs, hb, hl, hm, hmm, hx, hi⟩
 ·simp at h0; subst h0; exact ⟨[], RowOf.nil, by simp⟩
 ·simp at hcs
  subst hcs
  simp only [if_true] at hmm
  subst hmm
  obtain ⟨l, hll, hq⟩ := list_of (Q := fun i (y : α) => wf y ∧ ∀ j u, (en y)[j]? = some u → w.cell? ((a.add (i * k)).add j) = some u) len (fun i hil => by
   obtain ⟨cs', hc, htr⟩ := hi i (by omega)
   rw [hC] at hc
   obtain ⟨_, hcl, hat⟩ := World.cells?_some hc
   obtain ⟨y, hwf, rfl⟩ := hrd _ _ _ htr
   refine ⟨y, hwf, fun j u hj => ?_⟩
   have hjk : j < k := by rw [← hen y]; exact (List.getElem?_eq_some_iff.1 hj).1
   rw [hat j hjk, hj])
  refine ⟨l, ?_, fun y hy => ?_⟩
  ·by_cases h0 : 0 < len
   ·have hsp : a.spot = none := by
     obtain ⟨y, hy⟩ := get_lt (show 0 < l.length by omega)
     have hy0 : ∃ u, (en y)[0]? = some u := get_lt (by rw [hen]; exact hk0)
     obtain ⟨u, hu⟩ := hy0
     have := (hq 0 y hy).2 0 u hu
     rw [show ((a.add (0 * k)).add 0) = a by simp [Addr.add]] at this
     unfold World.cell? at this
     split at this
     ·split at this
      ·cases this
      ·rename_i hs; simpa using hs
     ·cases this
    obtain ⟨ab, ao, asp⟩ := a
    simp only at hsp
    subst hsp
    have hat : RowAt k en w ab ao l := by
     intro i y hy j u hj
     have := (hq i y hy).2 j u hj
     rw [Go.Deep.add_add] at this
     rw [← this]
     unfold Addr.add
     split
     ·rename_i hz; simp [Nat.add_assoc, hz]
     ·simp [Nat.add_assoc]
    refine .inr ⟨by omega, ab, ao, m, by rw [hll], by omega, hm, ?_, hat⟩
    obtain ⟨y, hy⟩ := get_lt (show 0 < l.length by omega)
    obtain ⟨u, hu⟩ := get_lt (show 0 < (en y).length by rw [hen]; exact hk0)
    exact lt_of_cell (hat 0 y hy 0 u hu)
   ·have : l = [] := List.eq_nil_of_length_eq_zero (by omega)
    subst this
    have : len = 0 := by omega
    subst this
    exact .inl ⟨_, m, rfl, rfl, (fun h => by cases h), hm⟩
  ·obtain ⟨i, hi'⟩ := List.getElem?_of_mem hy
   exact (hq i y hi').1

theorem field_read {T i ty off n : Nat} {cs : List Value} {ys : List (DataW H × List MemPlace)} (hm : ((Tryz.prog.fieldsOf T)[i]?).map (fun f => (f.type, f.offset)) = some (ty, off)) (hc : Tryz.prog.cellsOf ty = 1) (hyl : ys.length = (Tryz.prog.fieldsOf T).size)
  (hf : ∀ (i : Nat) (f : Field), (Tryz.prog.fieldsOf T)[i]? = some f → DataW.trod enc Tryz.prog w 0 (fun _ => true) true n f.type (List.take (Tryz.prog.cellsOf f.type) (List.drop f.offset cs)) = ys[i]?) :
  ∃ y, DataW.trod enc Tryz.prog w 0 (fun _ => true) true n ty (List.take 1 (List.drop off cs)) = some y := by
 cases hfi : (Tryz.prog.fieldsOf T)[i]? with
 | none => rw [hfi] at hm; cases hm
 | some f =>
  rw [hfi] at hm
  simp only [Option.map_some, Option.some.injEq, Prod.mk.injEq] at hm
  have h := hf i f hfi
  rw [hm.1, hm.2, hc] at h
  have hlt : i < ys.length := by rw [hyl]; exact (Array.getElem?_eq_some_iff.1 hfi).1
  obtain ⟨y, hy⟩ := get_lt hlt
  exact ⟨y, h.trans hy⟩

theorem int_read {n ty : Nat} {q : IntKind} {v : Value} (ht : Tryz.prog.underlying ty = some (.int q)) (h : ∃ y, DataW.trod enc Tryz.prog w 0 (fun _ => true) true n ty [v] = some y) : ∃ a, v = .int q a ∧ (Lit.int q a).wf = true := by
 obtain ⟨y, h⟩ := h
 obtain ⟨a, h1, _, h3⟩ := DataW.trod_int ht h
 simp at h1
 exact ⟨a, h1, h3⟩

theorem field_read_k {T i ty off n k : Nat} {cs : List Value} {ys : List (DataW H × List MemPlace)} (hm : ((Tryz.prog.fieldsOf T)[i]?).map (fun f => (f.type, f.offset)) = some (ty, off)) (hc : Tryz.prog.cellsOf ty = k) (hyl : ys.length = (Tryz.prog.fieldsOf T).size)
  (hf : ∀ (i : Nat) (f : Field), (Tryz.prog.fieldsOf T)[i]? = some f → DataW.trod enc Tryz.prog w 0 (fun _ => true) true n f.type (List.take (Tryz.prog.cellsOf f.type) (List.drop f.offset cs)) = ys[i]?) :
  ∃ y, DataW.trod enc Tryz.prog w 0 (fun _ => true) true n ty (List.take k (List.drop off cs)) = some y := by
 cases hfi : (Tryz.prog.fieldsOf T)[i]? with
 | none => rw [hfi] at hm; cases hm
 | some f =>
  rw [hfi] at hm
  simp only [Option.map_some, Option.some.injEq, Prod.mk.injEq] at hm
  have h := hf i f hfi
  rw [hm.1, hm.2, hc] at h
  have hlt : i < ys.length := by rw [hyl]; exact (Array.getElem?_eq_some_iff.1 hfi).1
  obtain ⟨y, hy⟩ := get_lt hlt
  exact ⟨y, h.trans hy⟩
theorem bool_read {n ty : Nat} {v : Value} (ht : Tryz.prog.underlying ty = some .bool) (h : ∃ y, DataW.trod enc Tryz.prog w 0 (fun _ => true) true n ty [v] = some y) : ∃ a, v = .bool a := by
 obtain ⟨y, h⟩ := h
 obtain ⟨a, h1, _⟩ := DataW.trod_bool ht h
 simp at h1
 exact ⟨a, h1⟩
end
end Go.Proofs.YtgcajfglidflnaaGreatDoor

/- Arguments that are brains, opened. -/
namespace Go.Proofs.YtgcajfglidflnaaGreatDoor
open Go.ChangeShapes Go.WideShapes Go.ChangeAt Go.RowKit Go.Deep Go.Joins

section
variable {H : Type} {enc : TypeId × Value → H} {w : World}
set_option maxRecDepth 100000 in
theorem read_intent (n : Nat) (cs : List Value) (y : DataW H × List MemPlace) (h : DataW.trod enc Tryz.prog w 0 (fun _ => true) true n 54 cs = some y) : ∃ x : IntentV, True ∧ encIn x = cs := by
 have hs : Tryz.prog.underlying 54 = some (.struct (Tryz.prog.fieldsOf 54)) := by kernel_rfl
 obtain ⟨ys, n', hn', hy, hlen, hyl, hf⟩ := DataW.trod_struct hs h
 rw [show Tryz.prog.cellsOf 54 = 4 by kernel_rfl] at hlen
 match cs, hlen with
 | [c0, c1, c2, c3], _ =>
  obtain ⟨a0, rfl, wa0⟩ := int_read Tryz.underlying3 (field_read (T := 54) (i := 0) (ty := 3) (off := 0) (by kernel_rfl) (by kernel_rfl) hyl hf)
  obtain ⟨a1, rfl, wa1⟩ := int_read Tryz.underlying3 (field_read (T := 54) (i := 1) (ty := 3) (off := 1) (by kernel_rfl) (by kernel_rfl) hyl hf)
  obtain ⟨a2, rfl, wa2⟩ := int_read Tryz.underlying3 (field_read (T := 54) (i := 2) (ty := 3) (off := 2) (by kernel_rfl) (by kernel_rfl) hyl hf)
  obtain ⟨a3, rfl⟩ := bool_read Tryz.underlying4 (field_read (T := 54) (i := 3) (ty := 4) (off := 3) (by kernel_rfl) (by kernel_rfl) hyl hf)
  exact ⟨⟨a0, a1, a2, a3⟩, trivial, rfl⟩
set_option maxRecDepth 100000 in
theorem read_kept (n : Nat) (cs : List Value) (y : DataW H × List MemPlace) (h : DataW.trod enc Tryz.prog w 0 (fun _ => true) true n 51 cs = some y) : ∃ x : KeptV, in8 x.phase ∧ encKp x = cs := by
 have hs : Tryz.prog.underlying 51 = some (.struct (Tryz.prog.fieldsOf 51)) := by kernel_rfl
 obtain ⟨ys, n', hn', hy, hlen, hyl, hf⟩ := DataW.trod_struct hs h
 rw [show Tryz.prog.cellsOf 51 = 8 by kernel_rfl] at hlen
 match cs, hlen with
 | [c0, c1, c2, c3, c4, c5, c6, c7], _ =>
  obtain ⟨a0, rfl, wa0⟩ := int_read Tryz.underlying3 (field_read (T := 51) (i := 0) (ty := 3) (off := 0) (by kernel_rfl) (by kernel_rfl) hyl hf)
  obtain ⟨a1, rfl, wa1⟩ := int_read Tryz.underlying3 (field_read (T := 51) (i := 1) (ty := 3) (off := 1) (by kernel_rfl) (by kernel_rfl) hyl hf)
  obtain ⟨a2, rfl, wa2⟩ := int_read Tryz.underlying3 (field_read (T := 51) (i := 2) (ty := 3) (off := 2) (by kernel_rfl) (by kernel_rfl) hyl hf)
  obtain ⟨a3, rfl, wa3⟩ := int_read Tryz.underlying3 (field_read (T := 51) (i := 3) (ty := 3) (off := 3) (by kernel_rfl) (by kernel_rfl) hyl hf)
  obtain ⟨a4, rfl, wa4⟩ := int_read Tryz.underlying5 (field_read (T := 51) (i := 4) (ty := 5) (off := 4) (by kernel_rfl) (by kernel_rfl) hyl hf)
  obtain ⟨a5, rfl, wa5⟩ := int_read Tryz.underlying3 (field_read (T := 51) (i := 5) (ty := 3) (off := 5) (by kernel_rfl) (by kernel_rfl) hyl hf)
  obtain ⟨a6, rfl⟩ := bool_read Tryz.underlying4 (field_read (T := 51) (i := 6) (ty := 4) (off := 6) (by kernel_rfl) (by kernel_rfl) hyl hf)
  obtain ⟨a7, rfl⟩ := bool_read Tryz.underlying4 (field_read (T := 51) (i := 7) (ty := 4) (off := 7) (by kernel_rfl) (by kernel_rfl) hyl hf)
  exact ⟨⟨a0, a1, a2, a3, a4, a5, a6, a7⟩, wf_in8 wa4, rfl⟩
end
end Go.Proofs.YtgcajfglidflnaaGreatDoor

/- Arguments that are brains, opened whole. -/
namespace Go.Proofs.YtgcajfglidflnaaGreatDoor
open Go.ChangeShapes Go.WideShapes Go.ChangeAt Go.RowKit Go.Deep Go.Joins

section
variable {H : Type} {enc : TypeId × Value → H} {w : World}
set_option maxRecDepth 100000 in
theorem open_brain {r : Reach} {base : Nat} {v : Value} {x : DataW H × List MemPlace} (hv : Value.okWide Tryz.prog w r base 33 v) (h : ∃ fu, DataW.trod enc Tryz.prog w 0 (fun _ => true) true fu 33 v.cells.toList = some x) :
  ∃ (f : Nat → Int) (g : Nat → Bool) (mv iv kv : Value) (I : List IntentV) (K : List KeptV) (M : List Int), v = .agg (brT f g mv iv kv) ∧ RowOf 4 encIn w iv I ∧ RowOf 8 encKp w kv K ∧ RowOf 1 encI w mv M ∧ ∀ x ∈ K, in8 x.phase := by
 have hs : Tryz.prog.underlying 33 = some (.struct (Tryz.prog.fieldsOf 33)) := by kernel_rfl
 have hs3 : Tryz.prog.underlying 27 = some (.struct (Tryz.prog.fieldsOf 27)) := by kernel_rfl
 have hs6 : Tryz.prog.underlying 31 = some (.struct (Tryz.prog.fieldsOf 31)) := by kernel_rfl
 obtain ⟨fu, h⟩ := h
 obtain ⟨cs, rfl, hsz⟩ := okWide_struct hs hv
 rw [show Tryz.prog.cellsOf 33 = 27 by kernel_rfl] at hsz
 rw [show (Value.agg cs).cells.toList = cs.toList from rfl] at h
 obtain ⟨ys, n', hn', hy, hlen, hyl, hf⟩ := DataW.trod_struct hs h
 obtain ⟨c0, c1, c2, c3, c4, c5, c6, c7, c8, c9, c10, c11, c12, c13, c14, c15, c16, c17, c18, c19, c20, c21, c22, c23, c24, c25, c26, hcl⟩ := list27 cs.toList (by simpa using hsz)
 obtain rfl : cs = #[c0, c1, c2, c3, c4, c5, c6, c7, c8, c9, c10, c11, c12, c13, c14, c15, c16, c17, c18, c19, c20, c21, c22, c23, c24, c25, c26] := by cases cs; simp only at hcl; rw [hcl]
 obtain ⟨y3, h3⟩ := field_read_k (T := 33) (i := 3) (ty := 27) (off := 3) (k := 15) (by kernel_rfl) (by kernel_rfl) hyl hf
 obtain ⟨ys3, n3, hn3, hy3, hlen3, hyl3, hf3⟩ := DataW.trod_struct hs3 h3
 obtain ⟨y6, h6⟩ := field_read_k (T := 33) (i := 6) (ty := 31) (off := 20) (k := 7) (by kernel_rfl) (by kernel_rfl) hyl hf
 obtain ⟨ys6, n6, hn6, hy6, hlen6, hyl6, hf6⟩ := DataW.trod_struct hs6 h6
 obtain ⟨a0, rfl, _⟩ := int_read Tryz.underlying3 (field_read (T := 33) (i := 0) (ty := 3) (off := 0) (by kernel_rfl) (by kernel_rfl) hyl hf)
 obtain ⟨a1, rfl, _⟩ := int_read Tryz.underlying3 (field_read (T := 33) (i := 1) (ty := 3) (off := 1) (by kernel_rfl) (by kernel_rfl) hyl hf)
 obtain ⟨b2, rfl⟩ := bool_read Tryz.underlying4 (field_read (T := 33) (i := 2) (ty := 4) (off := 2) (by kernel_rfl) (by kernel_rfl) hyl hf)
 obtain ⟨a3, rfl, _⟩ := int_read Tryz.underlying3 (field_read (T := 27) (i := 0) (ty := 3) (off := 0) (by kernel_rfl) (by kernel_rfl) hyl3 hf3)
 obtain ⟨a4, rfl, _⟩ := int_read Tryz.underlying3 (field_read (T := 27) (i := 1) (ty := 3) (off := 1) (by kernel_rfl) (by kernel_rfl) hyl3 hf3)
 obtain ⟨a5, rfl, _⟩ := int_read Tryz.underlying3 (field_read (T := 27) (i := 2) (ty := 3) (off := 2) (by kernel_rfl) (by kernel_rfl) hyl3 hf3)
 obtain ⟨a6, rfl, _⟩ := int_read Tryz.underlying3 (field_read (T := 27) (i := 3) (ty := 3) (off := 3) (by kernel_rfl) (by kernel_rfl) hyl3 hf3)
 obtain ⟨a7, rfl, _⟩ := int_read Tryz.underlying3 (field_read (T := 27) (i := 4) (ty := 3) (off := 4) (by kernel_rfl) (by kernel_rfl) hyl3 hf3)
 obtain ⟨a8, rfl, _⟩ := int_read Tryz.underlying3 (field_read (T := 27) (i := 5) (ty := 3) (off := 5) (by kernel_rfl) (by kernel_rfl) hyl3 hf3)
 obtain ⟨a9, rfl, _⟩ := int_read Tryz.underlying3 (field_read (T := 27) (i := 6) (ty := 3) (off := 6) (by kernel_rfl) (by kernel_rfl) hyl3 hf3)
 obtain ⟨a10, rfl, _⟩ := int_read Tryz.underlying3 (field_read (T := 27) (i := 7) (ty := 3) (off := 7) (by kernel_rfl) (by kernel_rfl) hyl3 hf3)
 obtain ⟨a11, rfl, _⟩ := int_read Tryz.underlying3 (field_read (T := 27) (i := 8) (ty := 3) (off := 8) (by kernel_rfl) (by kernel_rfl) hyl3 hf3)
 obtain ⟨a12, rfl, _⟩ := int_read Tryz.underlying3 (field_read (T := 27) (i := 9) (ty := 3) (off := 9) (by kernel_rfl) (by kernel_rfl) hyl3 hf3)
 obtain ⟨a13, rfl, _⟩ := int_read Tryz.underlying3 (field_read (T := 27) (i := 10) (ty := 3) (off := 10) (by kernel_rfl) (by kernel_rfl) hyl3 hf3)
 obtain ⟨a14, rfl, _⟩ := int_read Tryz.underlying3 (field_read (T := 27) (i := 11) (ty := 3) (off := 11) (by kernel_rfl) (by kernel_rfl) hyl3 hf3)
 obtain ⟨a15, rfl, _⟩ := int_read Tryz.underlying3 (field_read (T := 27) (i := 12) (ty := 3) (off := 12) (by kernel_rfl) (by kernel_rfl) hyl3 hf3)
 obtain ⟨b16, rfl⟩ := bool_read Tryz.underlying4 (field_read (T := 27) (i := 13) (ty := 4) (off := 13) (by kernel_rfl) (by kernel_rfl) hyl3 hf3)
 obtain ⟨a20, rfl, _⟩ := int_read Tryz.underlying5 (field_read (T := 31) (i := 0) (ty := 5) (off := 0) (by kernel_rfl) (by kernel_rfl) hyl6 hf6)
 obtain ⟨a21, rfl, _⟩ := int_read Tryz.underlying3 (field_read (T := 31) (i := 1) (ty := 3) (off := 1) (by kernel_rfl) (by kernel_rfl) hyl6 hf6)
 obtain ⟨a22, rfl, _⟩ := int_read Tryz.underlying3 (field_read (T := 31) (i := 2) (ty := 3) (off := 2) (by kernel_rfl) (by kernel_rfl) hyl6 hf6)
 obtain ⟨a23, rfl, _⟩ := int_read Tryz.underlying3 (field_read (T := 31) (i := 3) (ty := 3) (off := 3) (by kernel_rfl) (by kernel_rfl) hyl6 hf6)
 obtain ⟨b24, rfl⟩ := bool_read Tryz.underlying4 (field_read (T := 31) (i := 4) (ty := 4) (off := 4) (by kernel_rfl) (by kernel_rfl) hyl6 hf6)
 obtain ⟨a25, rfl, _⟩ := int_read Tryz.underlying3 (field_read (T := 31) (i := 5) (ty := 3) (off := 5) (by kernel_rfl) (by kernel_rfl) hyl6 hf6)
 obtain ⟨a26, rfl, _⟩ := int_read Tryz.underlying3 (field_read (T := 31) (i := 6) (ty := 3) (off := 6) (by kernel_rfl) (by kernel_rfl) hyl6 hf6)
 obtain ⟨y14, h14⟩ := field_read (T := 27) (i := 14) (ty := 25) (off := 14) (by kernel_rfl) (by kernel_rfl) hyl3 hf3
 obtain ⟨y4, h4⟩ := field_read (T := 33) (i := 4) (ty := 28) (off := 18) (by kernel_rfl) (by kernel_rfl) hyl hf
 obtain ⟨y5, h5⟩ := field_read (T := 33) (i := 5) (ty := 29) (off := 19) (by kernel_rfl) (by kernel_rfl) hyl hf
 obtain ⟨M, hM, _⟩ := open_rows (k := 1) (en := encI) (wf := fun _ => True) Tryz.underlying25 (by kernel_rfl) (by decide) (fun _ => rfl) (fun n cs y h => by obtain ⟨a, h1, _, _⟩ := DataW.trod_int Tryz.underlying3 h; exact ⟨a, trivial, by simpa [encI] using h1.symm⟩) h14
 obtain ⟨I, hI, _⟩ := open_rows (k := 4) (en := encIn) (wf := fun _ => True) Tryz.underlying28 (by kernel_rfl) (by decide) encIn_len read_intent h4
 obtain ⟨K, hK, hwf⟩ := open_rows (k := 8) (en := encKp) (wf := fun x => in8 x.phase) Tryz.underlying29 (by kernel_rfl) (by decide) encKp_len read_kept h5
 exact ⟨fun i => [a0, a1, 0, a3, a4, a5, a6, a7, a8, a9, a10, a11, a12, a13, a14, a15, 0, 0, 0, 0, a20, a21, a22, a23, 0, a25, a26].getD i 0, fun i => [false, false, b2, false, false, false, false, false, false, false, false, false, false, false, false, false, b16, false, false, false, false, false, false, false, b24, false, false].getD i false, c17, c18, c19, I, K, M, rfl, hI, hK, hM, hwf⟩
end
end Go.Proofs.YtgcajfglidflnaaGreatDoor

/- Arguments that are records, rows of records, opened. -/
namespace Go.Proofs.YtgcajfglidflnaaGreatDoor
open Go.ChangeShapes Go.WideShapes Go.ChangeAt Go.RowKit Go.Deep Go.Joins

section
variable {H : Type} {enc : TypeId × Value → H} {w : World}
end
end Go.Proofs.YtgcajfglidflnaaGreatDoor

/- Arguments that are clouds, opened (of Ocl). -/
namespace Go.Proofs.YtgcajfglidflnaaGreatDoor
open Go.ChangeShapes Go.WideShapes Go.ChangeAt Go.RowKit Go.Deep Go.Joins

section
variable {H : Type} {enc : TypeId × Value → H} {w : World}
set_option maxRecDepth 100000 in
theorem read_box (n : Nat) (cs : List Value) (y : DataW H × List MemPlace) (h : DataW.trod enc Tryz.prog w 0 (fun _ => true) true n 60 cs = some y) : ∃ x : BoxV, True ∧ encBx x = cs := by
 have hs : Tryz.prog.underlying 60 = some (.struct (Tryz.prog.fieldsOf 60)) := by kernel_rfl
 obtain ⟨ys, n', hn', hy, hlen, hyl, hf⟩ := DataW.trod_struct hs h
 rw [show Tryz.prog.cellsOf 60 = 11 by kernel_rfl] at hlen
 match cs, hlen with
 | [c0, c1, c2, c3, c4, c5, c6, c7, c8, c9, c10], _ =>
  obtain ⟨a0, rfl, _⟩ := int_read Tryz.underlying3 (field_read (T := 60) (i := 0) (ty := 3) (off := 0) (by kernel_rfl) (by kernel_rfl) hyl hf)
  obtain ⟨a1, rfl, _⟩ := int_read Tryz.underlying3 (field_read (T := 60) (i := 1) (ty := 3) (off := 1) (by kernel_rfl) (by kernel_rfl) hyl hf)
  obtain ⟨a2, rfl, _⟩ := int_read Tryz.underlying3 (field_read (T := 60) (i := 2) (ty := 3) (off := 2) (by kernel_rfl) (by kernel_rfl) hyl hf)
  obtain ⟨a3, rfl, _⟩ := int_read Tryz.underlying3 (field_read (T := 60) (i := 3) (ty := 3) (off := 3) (by kernel_rfl) (by kernel_rfl) hyl hf)
  obtain ⟨a4, rfl⟩ := bool_read Tryz.underlying4 (field_read (T := 60) (i := 4) (ty := 4) (off := 4) (by kernel_rfl) (by kernel_rfl) hyl hf)
  obtain ⟨a5, rfl⟩ := bool_read Tryz.underlying4 (field_read (T := 60) (i := 5) (ty := 4) (off := 5) (by kernel_rfl) (by kernel_rfl) hyl hf)
  obtain ⟨a6, rfl⟩ := bool_read Tryz.underlying4 (field_read (T := 60) (i := 6) (ty := 4) (off := 6) (by kernel_rfl) (by kernel_rfl) hyl hf)
  obtain ⟨a7, rfl⟩ := bool_read Tryz.underlying4 (field_read (T := 60) (i := 7) (ty := 4) (off := 7) (by kernel_rfl) (by kernel_rfl) hyl hf)
  obtain ⟨a8, rfl, _⟩ := int_read Tryz.underlying5 (field_read (T := 60) (i := 8) (ty := 5) (off := 8) (by kernel_rfl) (by kernel_rfl) hyl hf)
  obtain ⟨a9, rfl, _⟩ := int_read Tryz.underlying3 (field_read (T := 60) (i := 9) (ty := 3) (off := 9) (by kernel_rfl) (by kernel_rfl) hyl hf)
  obtain ⟨a10, rfl, _⟩ := int_read Tryz.underlying3 (field_read (T := 60) (i := 10) (ty := 3) (off := 10) (by kernel_rfl) (by kernel_rfl) hyl hf)
  exact ⟨⟨a0, a1, a2, a3, a4, a5, a6, a7, a8, a9, a10⟩, trivial, rfl⟩
set_option maxRecDepth 100000 in
theorem open_cloud {r : Reach} {base : Nat} {v : Value} {x : DataW H × List MemPlace} (hv : Value.okWide Tryz.prog w r base 24 v) (h : ∃ fu, DataW.trod enc Tryz.prog w 0 (fun _ => true) true fu 24 v.cells.toList = some x) :
  ∃ (C : CloudV) (s : Value), v = .agg (cloudA C s) ∧ RowOf 11 encBx w s C.boxes := by
 have hs : Tryz.prog.underlying 24 = some (.struct (Tryz.prog.fieldsOf 24)) := by kernel_rfl
 obtain ⟨fu, h⟩ := h
 obtain ⟨cs, rfl, hsz⟩ := okWide_struct hs hv
 rw [show Tryz.prog.cellsOf 24 = 5 by kernel_rfl] at hsz
 rw [show (Value.agg cs).cells.toList = cs.toList from rfl] at h
 obtain ⟨ys, n', hn', hy, hlen, hyl, hf⟩ := DataW.trod_struct hs h
 obtain ⟨c0, c1, c2, c3, c4, rfl⟩ : ∃ c0 c1 c2 c3 c4, cs = #[c0, c1, c2, c3, c4] := by
  obtain ⟨l⟩ := cs
  match l, hsz with
  | [c0, c1, c2, c3, c4], _ => exact ⟨c0, c1, c2, c3, c4, rfl⟩
 obtain ⟨y0, h0⟩ := field_read (T := 24) (i := 0) (ty := 22) (off := 0) (by kernel_rfl) (by kernel_rfl) hyl hf
 obtain ⟨a1, rfl, _⟩ := int_read Tryz.underlying3 (field_read (T := 24) (i := 1) (ty := 3) (off := 1) (by kernel_rfl) (by kernel_rfl) hyl hf)
 obtain ⟨a2, rfl, _⟩ := int_read Tryz.underlying3 (field_read (T := 24) (i := 2) (ty := 3) (off := 2) (by kernel_rfl) (by kernel_rfl) hyl hf)
 obtain ⟨a3, rfl, _⟩ := int_read Tryz.underlying3 (field_read (T := 24) (i := 3) (ty := 3) (off := 3) (by kernel_rfl) (by kernel_rfl) hyl hf)
 obtain ⟨a4, rfl⟩ := bool_read Tryz.underlying4 (field_read (T := 24) (i := 4) (ty := 4) (off := 4) (by kernel_rfl) (by kernel_rfl) hyl hf)
 obtain ⟨l, hr, _⟩ := open_rows (k := 11) (en := encBx) (wf := fun _ => True) Tryz.underlying22 (by kernel_rfl) (by decide) encBx_len read_box h0
 exact ⟨⟨l, a1, a2, a3, a4⟩, c0, rfl, hr⟩
end
end Go.Proofs.YtgcajfglidflnaaGreatDoor
