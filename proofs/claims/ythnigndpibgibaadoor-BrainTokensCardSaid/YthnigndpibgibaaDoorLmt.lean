/- The tables of limits and of changes, out of the row's condition. -/
import Derived.Test.YthnigndpibgibaaDoorRows
import Derived.Test.YthnigndpibgibaaDoorVr
import Derived.Test.YthnigndpibgibaaDoorFrm
import Derived.LaidMore
import Derived.Deep.Slices
import Derived.Stop.Joined
import Derived.Maps.OwnSet
namespace Go.Proofs.YthnigndpibgibaaDoor
open Go.ChangeShapes Go.WideShapes Go.ChangeAt Go.WideMaps Go.WideElems Go.RowKit Go.Maps

theorem gLimits : Tryd.prog.globalNamed "herd/conf.limits" = some 0 := by kernel_rfl
theorem tLimits : (Tryd.prog.globals[0]?).map (·.type) = some 93 := by kernel_rfl
theorem gChanges : Tryd.prog.globalNamed "herd/brain.changes" = some 1 := by kernel_rfl
theorem tChanges : (Tryd.prog.globals[1]?).map (·.type) = some 119 := by kernel_rfl
section
variable {H : Type} {enc : TypeId × Value → H} {w : World} {base : Nat} {sp : Nat → Bool} {held : Bool}
set_option maxRecDepth 100000 in
theorem read_limit {n : Nat} {cs : List Value} {a b : Int} {p : List MemPlace} (h : DataW.trod enc Tryd.prog w base sp held n 92 cs = some (.agg [.lit (.int .i64 a), .lit (.int .i64 b)], p)) : cs = [.int .i64 a, .int .i64 b] := by
  have hs : Tryd.prog.underlying 92 = some (.struct (Tryd.prog.fieldsOf 92)) := by kernel_rfl
  obtain ⟨ys, m, _, hx, hlen, hyl, hf⟩ := DataW.trod_struct hs h
  rw [show Tryd.prog.cellsOf 92 = 2 by kernel_rfl] at hlen
  rw [show (Tryd.prog.fieldsOf 92).size = 2 by kernel_rfl] at hyl
  match cs, hlen, ys, hyl with
  | [c0, c1], _, [y0, y1], _ =>
    simp only [List.map_cons, List.map_nil, Prod.mk.injEq, DataW.agg.injEq, List.cons.injEq, and_true] at hx
    obtain ⟨⟨e0, e1⟩, _⟩ := hx
    have h0 := hf 0 ((Tryd.prog.fieldsOf 92).getD 0 default) (by kernel_rfl)
    have h1 := hf 1 ((Tryd.prog.fieldsOf 92).getD 1 default) (by kernel_rfl)
    have h0 : DataW.trod enc Tryd.prog w base sp held m 3 [c0] = some y0 := h0
    have h1 : DataW.trod enc Tryd.prog w base sp held m 3 [c1] = some y1 := h1
    obtain ⟨a0, q0, r0, _⟩ := DataW.trod_int Tryd.underlying3 h0
    obtain ⟨a1, q1, r1, _⟩ := DataW.trod_int Tryd.underlying3 h1
    rw [r0] at e0
    rw [r1] at e1
    cases e0
    cases e1
    cases q0
    cases q1
    rfl
set_option maxRecDepth 100000 in
theorem read_bytes {n : Nat} {v : Value} {l : List Int} {p : List MemPlace} (h : DataW.trod enc Tryd.prog w base sp held n 118 [v] = some (.slice (l.map fun x => .lit (.int .u8 x)) [], p)) (h0 : 0 < l.length) (_hm : l.length ≤ 100) : RowOf 1 enc8 w v l := by
  rcases Go.Deep.open_slice Tryd.underlying118 h with ⟨_, hx⟩ | ⟨a, len, cap, m, n, D, Pl, hcs, _, hl, hmx, hmm, hx, hi⟩
  · simp at hx
  · have hcs : v = .slice (some a) len cap := by simpa using hcs
    subst hcs
    simp only [Prod.mk.injEq, DataW.slice.injEq] at hx
    obtain ⟨⟨hx, _⟩, _⟩ := hx
    have hlen : l.length = len := by
      have := congrArg List.length hx
      simpa using this
    have hq : ∀ i x, l[i]? = some x → w.cell? (a.add i) = some (.int .u8 x) := by
      intro i x hix
      have hil := lt_get hix
      have him : i < m := by rw [hmm]; split <;> omega
      obtain ⟨cs', hc, ht⟩ := hi i him
      rw [show Tryd.prog.cellsOf 5 = 1 by kernel_rfl, Nat.mul_one] at hc
      obtain ⟨_, hcl, hat⟩ := World.cells?_some hc
      have hD : D i = .lit (.int .u8 x) := by
        have := congrArg (fun l => l[i]?) hx
        simp only [List.getElem?_map, hix, Option.map_some] at this
        rw [List.getElem?_range (by omega)] at this
        simpa using this.symm
      obtain ⟨a0, q0, r0, _⟩ := DataW.trod_int Tryd.underlying5 ht
      simp only [Prod.mk.injEq] at r0
      rw [hD] at r0
      obtain ⟨r0, _⟩ := r0
      cases r0
      subst q0
      have := hat 0 (by simp)
      simpa [Addr.add] using this
    have hsp : a.spot = none := by
      obtain ⟨x, hx⟩ := get_lt h0
      have := hq 0 x hx
      rw [show a.add 0 = a by simp [Addr.add]] at this
      unfold World.cell? at this
      split at this
      · split at this
        · cases this
        · rename_i hs; simpa using hs
      · cases this
    obtain ⟨ab, ao, asp⟩ := a
    simp only at hsp
    subst hsp
    have hat : RowAt 1 enc8 w ab ao l := by
      intro i x hix j u hj
      cases j with
      | zero =>
        have := hq i x hix
        rw [show ((⟨ab, ao, none⟩ : Addr).add i) = ⟨ab, ao + i, none⟩ by unfold Addr.add; split <;> simp_all] at this
        simp [enc8] at hj
        subst hj
        simpa using this
      | succ j => simp [enc8] at hj
    refine .inr ⟨h0, ab, ao, cap, by rw [hlen], by omega, hmx, ?_, hat⟩
    obtain ⟨x, hx⟩ := get_lt h0
    exact lt_of_cell (hat 0 x hx 0 _ rfl)
end
theorem laid_lim {H : Type} : (Rows.laid_herd_conf_limits : DataW H) = .agg (limL.map fun p => .agg [.lit (.int .i64 p.1), .lit (.int .i64 p.2)]) := rfl
def chD {H : Type} (l : List Int) : DataW H := if l = [] then .nil else .slice (l.map fun x => .lit (.int .u8 x)) []
theorem laid_ch {H : Type} : (Rows.laid_herd_brain_changes : DataW H) = .agg (chL.map chD) := rfl
set_option maxRecDepth 100000 in
theorem tables_of {W : World} (h : laidMetH Tryd.prog [("herd/conf.limits", Rows.laid_herd_conf_limits), ("herd/brain.changes", Rows.laid_herd_brain_changes)] W) : Limits W ∧ Changes W := by
  rw [MakeChecks.laidMetH_plain _ _ _ (by kernel_rfl)] at h
  obtain ⟨ps, ⟨g0, t0, cs0, f0, p0, q0, hg0, ht0, hv0, hd0, ⟨g1, t1, cs1, f1, p1, q1, hg1, ht1, hv1, hd1, _, _⟩, _⟩, _, _⟩ := h
  obtain rfl := Option.some.inj (gLimits.symm.trans hg0)
  obtain rfl := Option.some.inj (tLimits.symm.trans ht0)
  obtain rfl := Option.some.inj (gChanges.symm.trans hg1)
  obtain rfl := Option.some.inj (tChanges.symm.trans ht1)
  constructor
  · rw [laid_lim] at hd0
    obtain ⟨xs, m, _, hx, hlen, hxl, hat⟩ := DataW.trod_array Tryd.underlying93 hd0
    simp only [Prod.mk.injEq, DataW.agg.injEq] at hx
    have hrow : RowAt 2 encL W 0 0 limL := by
      intro i x hi j v hj
      have hi13 : i < 13 := lt_get hi
      have h1 := hat i hi13
      rw [show Tryd.prog.cellsOf 92 = 2 by kernel_rfl] at h1
      have hxi := congrArg (fun l => l[i]?) hx.1
      simp only [List.getElem?_map, hi, Option.map_some] at hxi
      obtain ⟨y, hy⟩ := get_lt (show i < xs.length by omega)
      rw [hy, Option.map_some, Option.some.injEq] at hxi
      obtain ⟨yd, yp⟩ := y
      dsimp only at hxi
      subst hxi
      rw [hy] at h1
      have hc := read_limit h1
      have hj2 : j < 2 := lt_get hj
      rw [World.var?_cell hg0 hv0]
      have := congrArg (fun l => l[j]?) hc
      simp only [List.getElem?_take, List.getElem?_drop, if_pos hj2] at this
      rw [Nat.zero_add, ← Array.getElem?_toList, this]
      exact hj
    exact ⟨hrow, lt_of_cell (hrow 0 (0, 6) rfl 0 _ rfl)⟩
  · rw [laid_ch] at hd1
    obtain ⟨xs, m, _, hx, hlen, hxl, hat⟩ := DataW.trod_array Tryd.underlying119 hd1
    simp only [Prod.mk.injEq, DataW.agg.injEq] at hx
    intro i l hi
    have hi11 : i < 11 := lt_get hi
    have h1 := hat i hi11
    rw [show Tryd.prog.cellsOf 118 = 1 by kernel_rfl, Nat.mul_one] at h1
    have hxi := congrArg (fun l => l[i]?) hx.1
    simp only [List.getElem?_map, hi, Option.map_some] at hxi
    obtain ⟨y, hy⟩ := get_lt (show i < xs.length by omega)
    rw [hy, Option.map_some, Option.some.injEq] at hxi
    obtain ⟨yd, yp⟩ := y
    dsimp only at hxi
    subst hxi
    rw [hy] at h1
    have hl11 : cs1.toList.length = 11 := hlen
    obtain ⟨v, hv⟩ := get_lt (l := cs1.toList) (k := i) (by omega)
    have e1 : (cs1.toList.drop i).take 1 = [v] := by
      rw [List.drop_eq_getElem_cons (by omega)]
      rw [List.getElem?_eq_getElem (by omega)] at hv
      cases hv
      rfl
    rw [e1] at h1
    refine ⟨v, by rw [World.var?_cell hg1 hv1, ← Array.getElem?_toList]; exact hv, ?_⟩
    by_cases hl : l = []
    · subst hl
      rcases Go.Deep.open_slice Tryd.underlying118 h1 with ⟨hx, _⟩ | ⟨a, len, cap, m, n, D, Pl, hcs, _, _, _, _, hx, _⟩
      · simp at hx
        subst hx
        exact row_nil W
      · simp [chD] at hx
    · have hcd : (chD l : DataW Unit) = .slice (l.map fun x => .lit (.int .u8 x)) [] := by unfold chD; rw [if_neg hl]
      rw [hcd] at h1
      exact read_bytes h1 (List.length_pos_iff.2 hl) (by
        have : ∀ l ∈ chL, l.length ≤ 100 := by decide
        exact this l (mem_get hi))
end Go.Proofs.YthnigndpibgibaaDoor
