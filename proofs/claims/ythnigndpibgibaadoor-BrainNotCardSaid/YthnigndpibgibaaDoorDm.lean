/- The map of deeds. Printed by gn_deeds.py. -/
import Derived.Test.YthnigndpibgibaaDoorKw
namespace Go.Proofs.YthnigndpibgibaaDoor
open Go.RowKit Go.Shelf

/-- A block is a map from kinds to deeds. -/
def DMap (w : World) (m : Nat) (ds : List (Int × Value)) : Prop :=
  ∃ es clock, w.heap[m]? = some (.map es clock) ∧ es.toList.map (fun e => (e.key, e.val)) = ds.map fun d => (Value.int .u8 d.1, d.2)
theorem DMap.lt {w : World} {m : Nat} {ds : List (Int × Value)} (h : DMap w m ds) : m < w.heap.size := by
  obtain ⟨es, cl, hb, _⟩ := h
  exact (Array.getElem?_eq_some_iff.1 hb).1
theorem DMap.below {w w' : World} {m B : Nat} {ds : List (Int × Value)} (h : DMap w m ds) (hb : Below B w w') (hm : m < B) : DMap w' m ds := by
  obtain ⟨es, cl, hq, h⟩ := h
  exact ⟨es, cl, (hb.block m hm).trans hq, h⟩
theorem findNow_run (k : Int) : ∀ (es : List MapEntry) (ds : List (Int × Value)) (i : Nat), es.map (fun e => (e.key, e.val)) = ds.map (fun d => (Value.int .u8 d.1, d.2)) →
    ∃ r, Instr.findNow (.int .u8) (.int .u8 k) es i = some r ∧ ((∃ j v, r = some (j, v) ∧ ds.lookup k = some v) ∨ r = none ∧ ds.lookup k = none)
  | [], ds, i, h => by
    have : ds = [] := by cases ds <;> simp_all
    subst this
    exact ⟨none, rfl, .inr ⟨rfl, rfl⟩⟩
  | e :: es, [], i, h => by simp at h
  | e :: es, d :: ds, i, h => by
    simp only [List.map_cons, List.cons.injEq, Prod.mk.injEq] at h
    obtain ⟨⟨h1, h2⟩, h3⟩ := h
    obtain ⟨r, hr, hs⟩ := findNow_run k es ds (i + 1) h3
    obtain ⟨d1, d2⟩ := d
    dsimp only at h1 h2
    by_cases hk : k = d1
    · subst hk
      refine ⟨some (i, e.val), by simp [Instr.findNow, Instr.sameNow, h1], .inl ⟨i, e.val, rfl, by simp [List.lookup, h2]⟩⟩
    · have hb : (k == d1) = false := by simpa using hk
      refine ⟨r, by simp [Instr.findNow, Instr.sameNow, h1, hb, hr], ?_⟩
      simpa only [List.lookup, hb] using hs
theorem keyOk8 (em : Bool) (k : Int) (w : World) : (Instr.checkKey em 10000 5 (.int .u8 k)).run Tryd.prog w = .ok () w := by
  have hu : Tryd.prog.underlying 5 = some (.int .u8) := by kernel_rfl
  rw [show (10000 : Nat) = 9999 + 1 from rfl, Instr.checkKey]
  simp only [Sem.run_bind, run_underlying hu, Result.andThen_ok]
  simp
theorem deed_map : Tryd.prog.underlying 99 = some (.map 5 97) := by kernel_rfl
theorem insert_run (k : Int) (v : Value) (w : World) (m : Nat) (ds : List (Int × Value)) (h : DMap w m ds) (hq : ds.lookup k = none) :
    ∃ w', (Instr.mapUpdate 99 (.map (some m)) (.int .u8 k) v).run Tryd.prog w = .ok () w' ∧ DMap w' m (ds ++ [(k, v)]) ∧ w.grownBy w' (some m) := by
  have hu : Tryd.prog.underlying 5 = some (.int .u8) := by kernel_rfl
  have hlt := h.lt
  obtain ⟨es, clock, hb, hk⟩ := h
  have hg : (getObj m).run Tryd.prog w = .ok (.map es clock) w := by simp [getObj, Sem.run, hb]
  obtain ⟨r, hr, hs⟩ := findNow_run k es.toList ds 0 hk
  rcases hs with ⟨j, v', _, h⟩ | ⟨rfl, _⟩
  · rw [hq] at h; cases h
  refine ⟨{ w with heap := w.heap.setIfInBounds m (.map (es.push { key := .int .u8 k, val := v, born := clock }) (clock + 1)) }, ?_, ?_, ?_⟩
  · simp only [Instr.mapUpdate, Sem.run_bind, run_underlying deed_map, Result.andThen_ok, hg, keyOk8, Instr.findKey, run_underlying hu, hr]
    simp [setObj, Sem.run, hb]
  · exact ⟨es.push { key := .int .u8 k, val := v, born := clock }, clock + 1, by simp [hlt], by simp [hk]⟩
  · exact ⟨rfl, rfl, rfl, by simp, fun i hi hne => by simp only [Array.getElem?_setIfInBounds]; rw [if_neg (fun e => hne (by rw [e]))]⟩
def zeroDeed : Value := .agg #[.int .i64 0, .nilFunc]
theorem look_run (k : Int) (w : World) (m : Nat) (ds : List (Int × Value)) (h : DMap w m ds) :
    (Instr.lookup 99 (.map (some m)) (.int .u8 k) true).run Tryd.prog w = .ok (.tuple #[(ds.lookup k).getD zeroDeed, .bool (ds.lookup k).isSome]) w := by
  have hu : Tryd.prog.underlying 5 = some (.int .u8) := by kernel_rfl
  have hz : ∀ w, (zeroValue 97).run Tryd.prog w = .ok zeroDeed w := fun w => by kernel_rfl
  obtain ⟨es, clock, hb, hk⟩ := h
  have hg : (getObj m).run Tryd.prog w = .ok (.map es clock) w := by simp [getObj, Sem.run, hb]
  obtain ⟨r, hr, hs⟩ := findNow_run k es.toList ds 0 hk
  simp only [Instr.lookup, Sem.run_bind, run_underlying deed_map, Result.andThen_ok, hg]
  simp only [Sem.run_pure, Result.andThen_ok, keyOk8, Instr.findKey, Sem.run_bind, run_underlying hu, hr]
  rcases hs with ⟨j, v, rfl, h⟩ | ⟨rfl, h⟩
  · simp [h]
  · simp [h, hz]

/-- The map as it is being laid: what was there lies as it lay; the boxes of what deeds do. -/
structure DInv (W : World) (m : Nat) (w : World) (ds : List (Int × Value)) (cs : List (Nat × FuncId)) : Prop where
  map : DMap w m ds
  hm : W.heap.size ≤ m
  bel : Below W.heap.size W w
  boxes : ∀ c ∈ cs, (W.heap.size ≤ c.1 ∧ c.1 ≠ m) ∧ w.cell? ⟨c.1, 0, none⟩ = some (.func (.func c.2) #[] #[])
theorem DInv.insert {W w w' : World} {m : Nat} {ds ds' : List (Int × Value)} {cs : List (Nat × FuncId)} (h : DInv W m w ds cs) (hd : DMap w' m ds') (hg : w.grownBy w' (some m)) : DInv W m w' ds' cs := by
  refine ⟨hd, h.hm, h.bel.grown hg h.bel.size (fun k e => by cases e; exact h.hm), fun c hc => ⟨(h.boxes c hc).1, ?_⟩⟩
  obtain ⟨h1, h2⟩ := h.boxes c hc
  have hl := lt_of_cell h2
  dsimp only at hl
  exact (World.cell?_of_block (w := w) (hg.block c.1 hl (by simpa using h1.2))).trans h2
theorem DInv.box {W w w' : World} {m : Nat} {ds : List (Int × Value)} {cs : List (Nat × FuncId)} {fd : FuncId} (h : DInv W m w ds cs) (hc : w'.cell? ⟨w.heap.size, 0, none⟩ = some (.func (.func fd) #[] #[])) (hb : Below w.heap.size w w') : DInv W m w' ds ((w.heap.size, fd) :: cs) := by
  refine ⟨h.map.below hb h.map.lt, h.hm, h.bel.trans (hb.mono h.bel.size), fun c hm => ?_⟩
  rcases List.mem_cons.1 hm with rfl | hm
  · exact ⟨⟨h.bel.size, Nat.ne_of_gt h.map.lt⟩, hc⟩
  · exact ⟨(h.boxes c hm).1, cell_below (h.boxes c hm).2 hb⟩
theorem DInv.made (W : World) : DInv W W.heap.size (W.alloc (.map #[] 0)) [] [] :=
  ⟨⟨#[], 0, by show (W.heap.push _)[W.heap.size]? = _; simp, rfl⟩, Nat.le_refl _, (Below.refl _ _).alloc (Nat.le_refl _) _, by simp⟩
theorem wpList_insert {W w : World} {ops : Array Oper} {rest : List Oper} {o : Oper} {a : Act} {Q : Exit → Act → World → Prop} {m : Nat} {ds : List (Int × Value)} {cs : List (Nat × FuncId)} (h : DInv W m w ds cs)
    (hg : o.guard = none) (x k v : Operand) (hop : o.op = Op.insert 99 x k v) (hx : a.eval x = .map (some m)) (kk : Int) (hk : a.eval k = .int .u8 kk) (hno : ds.lookup kk = none)
    (hK : ∀ w', DInv W m w' (ds ++ [(kk, a.eval v)]) cs → wpList Tryd.prog ops Q rest (a.put o.dst undef) w') : wpList Tryd.prog ops Q (o :: rest) a w := by
  refine wpList_plain hg fun K' hK' => ?_
  obtain ⟨w', hrun, r1, r2⟩ := insert_run kk (a.eval v) w m ds h.map hno
  unfold Oper.wp
  simp [execOp, hop, hx, hk, hrun, Result.andThen]
  exact hK' _ _ (hK w' (h.insert r1 r2))

set_option maxRecDepth 100000 in
set_option maxHeartbeats 2000000 in
theorem deeds_any (W : World) : Calls Tryd.prog 57 #[] W fun e W' => ∃ m p6 p7 p9 p10 p5 p12 p13 p14 p15 p16 : Nat, e = .returned (.map (some m)) ∧ DInv W m W' [(1, deedV 0 (.func (.func 65) #[] #[])), (3, deedV 3 (.func (.func 66) #[] #[])), (4, deedV 3 (.func (.func 67) #[] #[])), (8, deedV 5 (.func (.func 68) #[] #[])), (6, deedV 3 (.func (.func 88) #[] #[.pointer (some ⟨p6, 0, none⟩)])), (7, deedV 1 (.func (.func 88) #[] #[.pointer (some ⟨p7, 0, none⟩)])), (9, deedV 2 (.func (.func 88) #[] #[.pointer (some ⟨p9, 0, none⟩)])), (10, deedV 1 (.func (.func 88) #[] #[.pointer (some ⟨p10, 0, none⟩)])), (11, deedV 2 (.func (.func 76) #[] #[])), (5, deedV 1 (.func (.func 90) #[] #[.pointer (some ⟨p5, 0, none⟩)])), (12, deedV 0 (.func (.func 90) #[] #[.pointer (some ⟨p12, 0, none⟩)])), (13, deedV 0 (.func (.func 90) #[] #[.pointer (some ⟨p13, 0, none⟩)])), (14, deedV 1 (.func (.func 90) #[] #[.pointer (some ⟨p14, 0, none⟩)])), (15, deedV 0 (.func (.func 90) #[] #[.pointer (some ⟨p15, 0, none⟩)])), (16, deedV 0 (.func (.func 90) #[] #[.pointer (some ⟨p16, 0, none⟩)]))] [(p16, 83), (p15, 82), (p14, 81), (p13, 80), (p12, 79), (p5, 78), (p10, 75), (p9, 74), (p7, 72), (p6, 70)] := by
  have hmm := @run_makeMap Tryd.prog
  have HM := hid (DInv.made W)
  go_enter Tryd.func57, Tryd.ntmps57
  go_wp2_with (refine wpList_insert HM.out rfl _ _ _ rfl rfl 1 rfl rfl ?_)
  intro v1 hv
  have HM := hid hv
  clear hv
  go_wp2_with (refine wpList_insert HM.out rfl _ _ _ rfl rfl 3 rfl rfl ?_)
  intro v3 hv
  have HM := hid hv
  clear hv
  go_wp2_with (refine wpList_insert HM.out rfl _ _ _ rfl rfl 4 rfl rfl ?_)
  intro v4 hv
  have HM := hid hv
  clear hv
  go_wp2_with (refine wpList_insert HM.out rfl _ _ _ rfl rfl 8 rfl rfl ?_)
  intro v8 hv
  have HM := hid hv
  clear hv
  go_wp2_with fail
  refine (keptC_any 3 70 _).mono ?_
  rintro e y6 ⟨rfl, hc, hb⟩
  have HM := hid (HM.out.box hc hb)
  clear hc hb
  go_wp2_with (refine wpList_insert HM.out rfl _ _ _ rfl rfl 6 rfl rfl ?_)
  intro v6 hv
  have HM := hid hv
  clear hv
  go_wp2_with fail
  refine (keptC_any 1 72 _).mono ?_
  rintro e y7 ⟨rfl, hc, hb⟩
  have HM := hid (HM.out.box hc hb)
  clear hc hb
  go_wp2_with (refine wpList_insert HM.out rfl _ _ _ rfl rfl 7 rfl rfl ?_)
  intro v7 hv
  have HM := hid hv
  clear hv
  go_wp2_with fail
  refine (keptC_any 2 74 _).mono ?_
  rintro e y9 ⟨rfl, hc, hb⟩
  have HM := hid (HM.out.box hc hb)
  clear hc hb
  go_wp2_with (refine wpList_insert HM.out rfl _ _ _ rfl rfl 9 rfl rfl ?_)
  intro v9 hv
  have HM := hid hv
  clear hv
  go_wp2_with fail
  refine (keptC_any 1 75 _).mono ?_
  rintro e y10 ⟨rfl, hc, hb⟩
  have HM := hid (HM.out.box hc hb)
  clear hc hb
  go_wp2_with (refine wpList_insert HM.out rfl _ _ _ rfl rfl 10 rfl rfl ?_)
  intro v10 hv
  have HM := hid hv
  clear hv
  go_wp2_with (refine wpList_insert HM.out rfl _ _ _ rfl rfl 11 rfl rfl ?_)
  intro v11 hv
  have HM := hid hv
  clear hv
  go_wp2_with fail
  refine (activeC_any 1 78 _).mono ?_
  rintro e y5 ⟨rfl, hc, hb⟩
  have HM := hid (HM.out.box hc hb)
  clear hc hb
  go_wp2_with (refine wpList_insert HM.out rfl _ _ _ rfl rfl 5 rfl rfl ?_)
  intro v5 hv
  have HM := hid hv
  clear hv
  go_wp2_with fail
  refine (activeC_any 0 79 _).mono ?_
  rintro e y12 ⟨rfl, hc, hb⟩
  have HM := hid (HM.out.box hc hb)
  clear hc hb
  go_wp2_with (refine wpList_insert HM.out rfl _ _ _ rfl rfl 12 rfl rfl ?_)
  intro v12 hv
  have HM := hid hv
  clear hv
  go_wp2_with fail
  refine (activeC_any 0 80 _).mono ?_
  rintro e y13 ⟨rfl, hc, hb⟩
  have HM := hid (HM.out.box hc hb)
  clear hc hb
  go_wp2_with (refine wpList_insert HM.out rfl _ _ _ rfl rfl 13 rfl rfl ?_)
  intro v13 hv
  have HM := hid hv
  clear hv
  go_wp2_with fail
  refine (activeC_any 1 81 _).mono ?_
  rintro e y14 ⟨rfl, hc, hb⟩
  have HM := hid (HM.out.box hc hb)
  clear hc hb
  go_wp2_with (refine wpList_insert HM.out rfl _ _ _ rfl rfl 14 rfl rfl ?_)
  intro v14 hv
  have HM := hid hv
  clear hv
  go_wp2_with fail
  refine (activeC_any 0 82 _).mono ?_
  rintro e y15 ⟨rfl, hc, hb⟩
  have HM := hid (HM.out.box hc hb)
  clear hc hb
  go_wp2_with (refine wpList_insert HM.out rfl _ _ _ rfl rfl 15 rfl rfl ?_)
  intro v15 hv
  have HM := hid hv
  clear hv
  go_wp2_with fail
  refine (activeC_any 0 83 _).mono ?_
  rintro e y16 ⟨rfl, hc, hb⟩
  have HM := hid (HM.out.box hc hb)
  clear hc hb
  go_wp2_with (refine wpList_insert HM.out rfl _ _ _ rfl rfl 16 rfl rfl ?_)
  intro v16 hv
  have HM := hid hv
  clear hv
  go_wp2
  go_ret
  exact ⟨W.heap.size, _, _, _, _, _, _, _, _, _, _, rfl, HM.out⟩
end Go.Proofs.YthnigndpibgibaaDoor
