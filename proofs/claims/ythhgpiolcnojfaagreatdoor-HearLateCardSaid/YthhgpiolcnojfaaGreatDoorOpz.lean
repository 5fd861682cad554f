/- Arguments of herdlaw22's statements, opened; the three variables that are laid. -/
import Derived.Test.YthhgpiolcnojfaaGreatDoorOpw
import Derived.Test.YthhgpiolcnojfaaGreatDoorIsm
import Derived.Test.YthhgpiolcnojfaaGreatDoorHsm
import Derived.LaidMore
import Derived.Stop.Joined
import Derived.Maps.OwnSet
namespace Go.Proofs.YthhgpiolcnojfaaGreatDoor
open Go.ChangeShapes Go.WideShapes Go.ChangeAt Go.RowKit Go.Deep Go.Joins
section
variable {H : Type} {enc : TypeId × Value → H} {w : World}
set_option maxRecDepth 100000 in
theorem read_call (n : Nat) (cs : List Value) (y : DataW H × List MemPlace) (h : DataW.trod enc Tryz.prog w 0 (fun _ => true) true n 40 cs = some y) : ∃ x : CallV, x.wf ∧ encC x = cs := by
  have hs : Tryz.prog.underlying 40 = some (.struct (Tryz.prog.fieldsOf 40)) := by kernel_rfl
  obtain ⟨ys, n', hn', hy, hlen, hyl, hf⟩ := DataW.trod_struct hs h
  rw [show Tryz.prog.cellsOf 40 = 4 by kernel_rfl] at hlen
  match cs, hlen with
  | [c0, c1, c2, c3], _ =>
    obtain ⟨a0, rfl, w0⟩ := int_read Tryz.underlying3 (field_read (T := 40) (i := 0) (ty := 3) (off := 0) (by kernel_rfl) (by kernel_rfl) hyl hf)
    obtain ⟨a1, rfl, w1⟩ := int_read Tryz.underlying5 (field_read (T := 40) (i := 1) (ty := 5) (off := 1) (by kernel_rfl) (by kernel_rfl) hyl hf)
    obtain ⟨a2, rfl, w2⟩ := int_read Tryz.underlying3 (field_read (T := 40) (i := 2) (ty := 3) (off := 2) (by kernel_rfl) (by kernel_rfl) hyl hf)
    obtain ⟨a3, rfl, w3⟩ := int_read Tryz.underlying3 (field_read (T := 40) (i := 3) (ty := 3) (off := 3) (by kernel_rfl) (by kernel_rfl) hyl hf)
    exact ⟨⟨a0, a1, a2, a3⟩, ⟨wf_in64 w0, wf_in8 w1, wf_in64 w2, wf_in64 w3⟩, rfl⟩

set_option maxRecDepth 100000 in
theorem open_calls {r : Reach} {base : Nat} {v : Value} {x : DataW H × List MemPlace} (hv : Value.okWide Tryz.prog w r base 33 v) (h : ∃ fu, DataW.trod enc Tryz.prog w 0 (fun _ => true) true fu 33 v.cells.toList = some x) :
    ∃ (C : CallsV) (s : Value), C.wf ∧ v = calls C.epoch C.next s ∧ Row12 w s C.opens := by
  have hs : Tryz.prog.underlying 33 = some (.struct (Tryz.prog.fieldsOf 33)) := by kernel_rfl
  obtain ⟨fu, h⟩ := h
  obtain ⟨cs, rfl, hsz⟩ := okWide_struct hs hv
  rw [show Tryz.prog.cellsOf 33 = 3 by kernel_rfl] at hsz
  rw [show (Value.agg cs).cells.toList = cs.toList from rfl] at h
  obtain ⟨ys, n', hn', hy, hlen, hyl, hf⟩ := DataW.trod_struct hs h
  obtain ⟨c0, c1, c2, rfl⟩ : ∃ c0 c1 c2, cs = #[c0, c1, c2] := by
    obtain ⟨l⟩ := cs
    match l, hsz with
    | [c0, c1, c2], _ => exact ⟨c0, c1, c2, rfl⟩
  obtain ⟨a0, rfl, w0⟩ := int_read Tryz.underlying3 (field_read (T := 33) (i := 0) (ty := 3) (off := 0) (by kernel_rfl) (by kernel_rfl) hyl hf)
  obtain ⟨a1, rfl, w1⟩ := int_read Tryz.underlying3 (field_read (T := 33) (i := 1) (ty := 3) (off := 1) (by kernel_rfl) (by kernel_rfl) hyl hf)
  obtain ⟨y2, h2⟩ := field_read (T := 33) (i := 2) (ty := 31) (off := 2) (by kernel_rfl) (by kernel_rfl) hyl hf
  obtain ⟨l, hr, hw⟩ := open_rows (k := 4) (en := encC) Tryz.underlying31 (by kernel_rfl) (by decide) (fun _ => rfl) read_call h2
  exact ⟨⟨a0, a1, l⟩, c2, ⟨wf_in64 w0, wf_in64 w1, hw⟩, rfl, hr⟩
set_option maxRecDepth 100000 in
theorem open_call {r : Reach} {base : Nat} {v : Value} {x : DataW H × List MemPlace} (hv : Value.okWide Tryz.prog w r base 40 v) (h : ∃ fu, DataW.trod enc Tryz.prog w 0 (fun _ => true) true fu 40 v.cells.toList = some x) : ∃ y : CallV, v = encS y ∧ y.wf := by
  have hs : Tryz.prog.underlying 40 = some (.struct (Tryz.prog.fieldsOf 40)) := by kernel_rfl
  obtain ⟨fu, h⟩ := h
  obtain ⟨cs, rfl, hsz⟩ := okWide_struct hs hv
  rw [show (Value.agg cs).cells.toList = cs.toList from rfl] at h
  obtain ⟨e, h1, he⟩ := read_call _ _ _ h
  refine ⟨e, ?_, h1⟩
  obtain ⟨l⟩ := cs
  simp only at he
  rw [← he]
  rfl
theorem slice_read {n ty e : Nat} {v : Value} (ht : Tryz.prog.underlying ty = some (.slice e)) (h : ∃ y, DataW.trod enc Tryz.prog w 0 (fun _ => true) true n ty [v] = some y) : ∃ a m c, v = .slice a m c := by
  obtain ⟨y, h⟩ := h
  rcases open_slice ht h with ⟨h0, _⟩ | ⟨a, len, cap, _, _, _, _, hcs, _⟩
  · simp at h0
    exact ⟨_, _, _, h0⟩
  · simp at hcs
    exact ⟨_, _, _, hcs⟩
set_option maxRecDepth 100000 in
theorem open_tell {r : Reach} {base : Nat} {v : Value} {x : DataW H × List MemPlace} (hv : Value.okWide Tryz.prog w r base 36 v) (h : ∃ fu, DataW.trod enc Tryz.prog w 0 (fun _ => true) true fu 36 v.cells.toList = some x) :
    ∃ (c k d i : Int) (sa : Option Addr) (sn sc : Nat) (m : Bool), v = tellT c k d i (.slice sa sn sc) m ∧ in64 c ∧ in8 k ∧ in8 d ∧ in64 i := by
  have hs : Tryz.prog.underlying 36 = some (.struct (Tryz.prog.fieldsOf 36)) := by kernel_rfl
  obtain ⟨fu, h⟩ := h
  obtain ⟨cs, rfl, hsz⟩ := okWide_struct hs hv
  rw [show Tryz.prog.cellsOf 36 = 6 by kernel_rfl] at hsz
  rw [show (Value.agg cs).cells.toList = cs.toList from rfl] at h
  obtain ⟨ys, n', hn', hy, hlen, hyl, hf⟩ := DataW.trod_struct hs h
  obtain ⟨c0, c1, c2, c3, c4, c5, rfl⟩ : ∃ c0 c1 c2 c3 c4 c5, cs = #[c0, c1, c2, c3, c4, c5] := by
    obtain ⟨l⟩ := cs
    match l, hsz with
    | [c0, c1, c2, c3, c4, c5], _ => exact ⟨c0, c1, c2, c3, c4, c5, rfl⟩
  obtain ⟨a0, rfl, w0⟩ := int_read Tryz.underlying3 (field_read (T := 36) (i := 0) (ty := 3) (off := 0) (by kernel_rfl) (by kernel_rfl) hyl hf)
  obtain ⟨a1, rfl, w1⟩ := int_read Tryz.underlying5 (field_read (T := 36) (i := 1) (ty := 5) (off := 1) (by kernel_rfl) (by kernel_rfl) hyl hf)
  obtain ⟨a2, rfl, w2⟩ := int_read Tryz.underlying5 (field_read (T := 36) (i := 2) (ty := 5) (off := 2) (by kernel_rfl) (by kernel_rfl) hyl hf)
  obtain ⟨a3, rfl, w3⟩ := int_read Tryz.underlying3 (field_read (T := 36) (i := 3) (ty := 3) (off := 3) (by kernel_rfl) (by kernel_rfl) hyl hf)
  obtain ⟨sa, sn, sc, rfl⟩ := slice_read Tryz.underlying34 (field_read (T := 36) (i := 4) (ty := 34) (off := 4) (by kernel_rfl) (by kernel_rfl) hyl hf)
  obtain ⟨a5, rfl⟩ := bool_read Tryz.underlying4 (field_read (T := 36) (i := 5) (ty := 4) (off := 5) (by kernel_rfl) (by kernel_rfl) hyl hf)
  exact ⟨a0, a1, a2, a3, sa, sn, sc, a5, rfl, wf_in64 w0, wf_in8 w1, wf_in8 w2, wf_in64 w3⟩
end
end Go.Proofs.YthhgpiolcnojfaaGreatDoor
namespace Go.Proofs.YthhgpiolcnojfaaGreatDoor
open Go.ChangeShapes Go.WideShapes Go.ChangeAt Go.WideMaps Go.WideElems Go.RowKit Go.Maps
theorem gAsked : Tryz.prog.globalNamed "herd/duty.asked" = some 0 := by kernel_rfl
theorem tAsked : (Tryz.prog.globals[0]?).map (·.type) = some 166 := by kernel_rfl
set_option maxRecDepth 100000 in
theorem tables3 {W : World} (h : laidMetH Tryz.prog [("herd/conf.limits", Rows.laid_herd_conf_limits), ("herd/brain.changes", Rows.laid_herd_brain_changes), ("herd/duty.asked", Rows.laid_herd_duty_asked)] W) : Limits W ∧ Changes W ∧ Asked W := by
  rw [MakeChecks.laidMetH_plain _ _ _ (by kernel_rfl)] at h
  obtain ⟨ps, ⟨g0, t0, cs0, f0, p0, q0, hg0, ht0, hv0, hd0, ⟨g1, t1, cs1, f1, p1, q1, hg1, ht1, hv1, hd1, ⟨g2, t2, cs2, f2, p2, q2, hg2, ht2, hv2, hd2, _, _⟩, _⟩, _⟩, _, _⟩ := h
  obtain rfl := Option.some.inj (gLimits.symm.trans hg0)
  obtain rfl := Option.some.inj (tLimits.symm.trans ht0)
  obtain rfl := Option.some.inj (gChanges.symm.trans hg1)
  obtain rfl := Option.some.inj (tChanges.symm.trans ht1)
  obtain rfl := Option.some.inj (gAsked.symm.trans hg2)
  obtain rfl := Option.some.inj (tAsked.symm.trans ht2)
  refine ⟨?_, ?_, ?_⟩
  · rw [laid_lim] at hd0
    obtain ⟨xs, m, _, hx, hlen, hxl, hat⟩ := DataW.trod_array Tryz.underlying206 hd0
    simp only [Prod.mk.injEq, DataW.agg.injEq] at hx
    have hrow : RowAt 2 encL W 2 0 limL := by
      intro i x hi j v hj
      have hi13 : i < 13 := lt_get hi
      have h1 := hat i hi13
      rw [show Tryz.prog.cellsOf 199 = 2 by kernel_rfl] at h1
      have hxi := congrArg (fun l => l[i]?) hx.1
      simp only [List.getElem?_map, hi, Option.map_some] at hxi
      obtain ⟨y, hy⟩ := get_lt (show i < xs.length by omega)
      rw [hy, Option.map_some, Option.some.injEq] at hxi
      obtain ⟨yd, yp⟩ := y
      dsimp only at hxi
      subst hxi
      rw [hy] at h1
      have hc := read_limit h1
      have hj2 : j < 2 := lt_get hj
      rw [World.var?_cell hg0 hv0]
      have := congrArg (fun l => l[j]?) hc
      simp only [List.getElem?_take, List.getElem?_drop, if_pos hj2] at this
      rw [Nat.zero_add, ← Array.getElem?_toList, this]
      exact hj
    exact ⟨hrow, lt_of_cell (hrow 0 (0, 6) rfl 0 _ rfl)⟩
  · rw [laid_ch] at hd1
    obtain ⟨xs, m, _, hx, hlen, hxl, hat⟩ := DataW.trod_array Tryz.underlying196 hd1
    simp only [Prod.mk.injEq, DataW.agg.injEq] at hx
    intro i l hi
    have hi11 : i < 11 := lt_get hi
    have h1 := hat i hi11
    rw [show Tryz.prog.cellsOf 195 = 1 by kernel_rfl, Nat.mul_one] at h1
    have hxi := congrArg (fun l => l[i]?) hx.1
    simp only [List.getElem?_map, hi, Option.map_some] at hxi
    obtain ⟨y, hy⟩ := get_lt (show i < xs.length by omega)
    rw [hy, Option.map_some, Option.some.injEq] at hxi
    obtain ⟨yd, yp⟩ := y
    dsimp only at hxi
    subst hxi
    rw [hy] at h1
    have hl11 : cs1.toList.length = 11 := hlen
    obtain ⟨v, hv⟩ := get_lt (l := cs1.toList) (k := i) (by omega)
    have e1 : (cs1.toList.drop i).take 1 = [v] := by
      rw [List.drop_eq_getElem_cons (by omega)]
      rw [List.getElem?_eq_getElem (by omega)] at hv
      cases hv
      rfl
    rw [e1] at h1
    refine ⟨v, by rw [World.var?_cell hg1 hv1, ← Array.getElem?_toList]; exact hv, ?_⟩
    by_cases hl : l = []
    · subst hl
      rcases Go.Deep.open_slice Tryz.underlying195 h1 with ⟨hx, _⟩ | ⟨a, len, cap, m, n, D, Pl, hcs, _, _, _, _, hx, _⟩
      · simp at hx
        subst hx
        exact row_nil W
      · simp [chD] at hx
    · have hcd : (chD l : DataW Unit) = .slice (l.map fun x => .lit (.int .u8 x)) [] := by unfold chD; rw [if_neg hl]
      rw [hcd] at h1
      exact read_bytes h1 (List.length_pos_iff.2 hl) (by
        have : ∀ l ∈ chL, l.length ≤ 100 := by decide
        exact this l (mem_get hi))
  · rcases open_map Tryz.underlying166 hd2 with ⟨_, hx⟩ | ⟨bm, es, clock, m, rfl, hcs, hb, _, F, hx⟩
    · simp [Rows.laid_herd_duty_asked] at hx
    simp only [Prod.mk.injEq] at hx
    have hcell : W.cell? ⟨0, 0, none⟩ = some (.map (some bm)) := by
      have := World.var?_cell hg2 hv2 0
      rw [Array.eq_one_of_toList hcs] at this
      simpa using this
    refine ⟨bm, _, hcell, hb, ?_⟩
    intro w' hb' p hp
    have zero : ∀ w : World, (zeroValue 5).run Tryz.prog w = .ok (.int .u8 0) w := fun w => by kernel_rfl
    have wfp : (Lit.int .u8 p).wf = true := WalkArith.wf_u8 hp
    have hown := World.ownsMap_of_fit (R := plainElem Tryz.prog 5) hb' F (fun x _ z hz => elemAt_plainElem_int Tryz.underlying5 hz)
    rw [← hx.1] at hown
    have hl := hown.look_ok (int_keyed Tryz.underlying5) Tryz.underlying166 (zero w') (plainElem_int Tryz.underlying5 (WalkArith.wf_u8 (n := 0) ⟨by decide, by decide⟩)) (keyOf_int_mk Tryz.underlying5 wfp)
    obtain ⟨v, vs, hrun, hv⟩ := hl
    obtain ⟨r, rfl, hr, _⟩ := plainElem_int_inv Tryz.underlying5 hv
    rw [hrun]
    by_cases h3 : p = 3
    · subst h3; cases hr; rfl
    by_cases h5 : p = 5
    · subst h5; cases hr; rfl
    by_cases h8 : p = 8
    · subst h8; cases hr; rfl
    by_cases h10 : p = 10
    · subst h10; cases hr; rfl
    have e1 : askedK p = 0 := by simp [askedK, h3, h5, h8, h10]
    have e2 : askedB p = false := by simp [askedB, h3, h5, h8, h10]
    have e3 : Maps.has (Rows.laid_herd_duty_asked : DataW Unit) (.int .u8 p) = false := by
      simp [Maps.has, Rows.laid_herd_duty_asked, Lit.sameKey, eq_comm, h3, h5, h8, h10]
    have e4 : (Rows.laid_herd_duty_asked : DataW Unit).atKey (.int .u8 p) (.lit (.int .u8 0)) = .lit (.int .u8 0) := by
      simp [DataW.atKey, Rows.laid_herd_duty_asked, List.find?, Lit.sameKey, eq_comm, h3, h5, h8, h10]
    rw [e4] at hr
    cases hr
    rw [e1, e2, e3]
end Go.Proofs.YthhgpiolcnojfaaGreatDoor
