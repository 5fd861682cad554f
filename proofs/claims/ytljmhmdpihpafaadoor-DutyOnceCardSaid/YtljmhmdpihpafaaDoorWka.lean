/- wakes of herdlaw20. -/
import Derived.Test.YtljmhmdpihpafaaDoorOpf
import Derived.Test.YtljmhmdpihpafaaDoorDrp
import Derived.Test.YtljmhmdpihpafaaDoorRf3
import Derived.Laws.Tables
import Derived.KernelRfl
import Derived.Laws.CopyOwn
import Derived.Laws.Rows
namespace Go.Proofs.YtljmhmdpihpafaaDoor
open Go.RowKit Go.Shelf
attribute [-go_sem] loadVar
attribute [local go_sem] load_other

def wI : List IntentV := [⟨4, 2, 1, true⟩]
def wK : List KeptV := [⟨3, 0, 0, 0, 3, 0, false, false⟩, ⟨5, 0, 0, 0, 4, 0, false, false⟩]
def wcs (a b : Nat) : Array Value := #[.int .i64 0, .int .i64 0, .bool false, .int .i64 0, .int .i64 0, .int .i64 0, .int .i64 0, .int .i64 0, .int .i64 0, .int .i64 0, .int .i64 0, .int .i64 0, .int .i64 0, .int .i64 0, .int .i64 0, .int .i64 0, .bool false, .slice none 0 0, .slice (some ⟨a, 0, none⟩) 1 1, .slice (some ⟨b, 0, none⟩) 2 2, .int .u8 0, .int .i64 0, .int .i64 0, .int .i64 0, .bool false, .int .i64 0, .int .i64 0]
def zcs : Array Value := #[.int .i64 0, .int .i64 0, .bool false, .int .i64 0, .int .i64 0, .int .i64 0, .int .i64 0, .int .i64 0, .int .i64 0, .int .i64 0, .int .i64 0, .int .i64 0, .int .i64 0, .int .i64 0, .int .i64 0, .int .i64 0, .bool false, .slice none 0 0, .slice none 0 0, .slice none 0 0, .int .u8 0, .int .i64 0, .int .i64 0, .int .i64 0, .bool false, .int .i64 0, .int .i64 0]
theorem wcs_bc (a b : Nat) : BC (wcs a b) (.slice (some ⟨a, 0, none⟩) 1 1) (.slice (some ⟨b, 0, none⟩) 2 2) := ⟨rfl, rfl, rfl⟩
theorem zcs_bc : BC zcs (.slice none 0 0) (.slice none 0 0) := ⟨rfl, rfl, rfl⟩
theorem wD : dutiesL wI wK = [⟨1, 4⟩, ⟨4, 3⟩] := by decide
def wT : CallsV := ⟨0, 3, [⟨1, 1, 4, 9⟩, ⟨2, 4, 3, 9⟩]⟩
theorem wO1 : openD wI 9 ⟨0, 1, []⟩ (dutiesL wI wK) = (wT, [⟨1, 1, 4, 2, 1, 1⟩, ⟨4, 2, 3, 0, 0, 0⟩]) := by kernel_rfl
theorem wO2 : openD wI 9 wT (dutiesL wI wK) = (wT, []) := by kernel_rfl
theorem wX : dropL [] [] wT.opens = [] := by decide
theorem wIrow (w : World) (a : Nat) (h : w.heap[a]? = some (.cells #[.int .i64 4, .int .i64 2, .int .i64 1, .bool true] 56)) : RowOf 4 encIn w (.slice (some ⟨a, 0, none⟩) 1 1) wI := by
  refine .inr ⟨by decide, a, 0, 1, rfl, by decide, by decide, blk_lt h, ?_⟩
  intro i x hi j u hj
  rw [blk_cell h]
  match i, hi with
  | 0, hi =>
    simp [wI] at hi
    subst hi
    match j, hj with
    | 0, hj => simpa [encIn] using hj
    | 1, hj => simpa [encIn] using hj
    | 2, hj => simpa [encIn] using hj
    | 3, hj => simpa [encIn] using hj
    | j + 4, hj => simp [encIn] at hj
  | i + 1, hi => simp [wI] at hi
theorem wKrow (w : World) (a : Nat) (h : w.heap[a]? = some (.cells #[.int .i64 3, .int .i64 0, .int .i64 0, .int .i64 0, .int .u8 3, .int .i64 0, .bool false, .bool false, .int .i64 5, .int .i64 0, .int .i64 0, .int .i64 0, .int .u8 4, .int .i64 0, .bool false, .bool false] 60)) : RowOf 8 encKp w (.slice (some ⟨a, 0, none⟩) 2 2) wK := by
  refine .inr ⟨by decide, a, 0, 2, rfl, by decide, by decide, blk_lt h, ?_⟩
  intro i x hi j u hj
  rw [blk_cell h]
  match i, hi with
  | 0, hi =>
    simp [wK] at hi
    subst hi
    match j, hj with
    | 0, hj => simpa [encKp] using hj
    | 1, hj => simpa [encKp] using hj
    | 2, hj => simpa [encKp] using hj
    | 3, hj => simpa [encKp] using hj
    | 4, hj => simpa [encKp] using hj
    | 5, hj => simpa [encKp] using hj
    | 6, hj => simpa [encKp] using hj
    | 7, hj => simpa [encKp] using hj
    | j + 8, hj => simp [encKp] at hj
  | 1, hi =>
    simp [wK] at hi
    subst hi
    match j, hj with
    | 0, hj => simpa [encKp] using hj
    | 1, hj => simpa [encKp] using hj
    | 2, hj => simpa [encKp] using hj
    | 3, hj => simpa [encKp] using hj
    | 4, hj => simpa [encKp] using hj
    | 5, hj => simpa [encKp] using hj
    | 6, hj => simpa [encKp] using hj
    | 7, hj => simpa [encKp] using hj
    | j + 8, hj => simp [encKp] at hj
  | i + 2, hi => simp [wK] at hi

/-- What stays through wakes. -/
structure WS (w W : World) : Prop where
  brain : BB W (w.heap.size + 1 + 1) (wcs w.heap.size (w.heap.size + 1))
  ri : RowOf 4 encIn W (.slice (some ⟨w.heap.size, 0, none⟩) 1 1) wI
  rk : RowOf 8 encKp W (.slice (some ⟨w.heap.size + 1, 0, none⟩) 2 2) wK
  ask : Asked W
  bel : Below w.heap.size w W
theorem WS.below {w W W' : World} (h : WS w W) (hb : Below W.heap.size W W') : WS w W' :=
  ⟨h.brain.below hb (blk_lt h.brain), h.ri.below hb, h.rk.below hb, h.ask.below hb, h.bel.trans (hb.mono h.bel.size)⟩
theorem WS.load {w W : World} (h : WS w W) : (loadVar 30 ⟨w.heap.size + 1 + 1, 0, none⟩).run Tryd.prog W = .ok (.agg (wcs w.heap.size (w.heap.size + 1))) W := h.brain.load (wcs_bc _ _)
theorem wwf : ∀ x ∈ wK, in8 x.phase := by
  intro x hx
  simp only [wK, List.mem_cons, List.mem_nil_iff, or_false] at hx
  rcases hx with rfl | rfl <;> exact ⟨by decide, by decide⟩
theorem wk_of {w W : World} (h : WS w W) : Calls Tryd.prog 12 #[.agg (wcs w.heap.size (w.heap.size + 1))] W fun e w' => (∃ b off c, e = .returned (.slice (some ⟨b, off, none⟩) 2 c) ∧
    w'.cell? ⟨b, off, none⟩ = some (.int .u8 1) ∧ w'.cell? ⟨b, off + 1, none⟩ = some (.int .i64 4) ∧ w'.cell? ⟨b, off + 2, none⟩ = some (.int .u8 4) ∧ w'.cell? ⟨b, off + 2 + 1, none⟩ = some (.int .i64 3)) ∧ Below W.heap.size W w' := by
  refine (of_any _ _ _ (wcs_bc _ _) wI wK W (by decide) (by decide) wwf h.ask h.ri h.rk).mono ?_
  rintro e w' ⟨v, rfl, hov, hb⟩
  rw [wD] at hov
  obtain ⟨a, c, rfl, _, _, _, hop⟩ := (hov.row encD_len (by decide)).open
  obtain ⟨b, off, rfl, _, hr⟩ := hop (by decide)
  obtain ⟨g0, g1⟩ := rowD hr (i := 0) (x := ⟨1, 4⟩) rfl
  obtain ⟨g2, g3⟩ := rowD hr (i := 1) (x := ⟨4, 3⟩) rfl
  simp only [Nat.zero_mul, Nat.add_zero, Nat.one_mul] at g0 g1 g2 g3
  exact ⟨⟨b, off, c, rfl, g0, g1, g2, g3⟩, hb⟩
theorem wk_of0 (W : World) (hA : Asked W) : Calls Tryd.prog 12 #[.agg zcs] W fun e w' => (∃ a c, e = .returned (.slice a 0 c)) ∧ Below W.heap.size W w' := by
  refine (of_any _ _ _ zcs_bc [] [] W (by decide) (by decide) (by simp) hA RowOf.nil RowOf.nil).mono ?_
  rintro e w' ⟨v, rfl, hov, hb⟩
  obtain ⟨a, c, rfl, _, _, _, _⟩ := (hov.row encD_len (by decide)).open
  exact ⟨⟨a, c, rfl⟩, hb⟩
theorem wk_open1 {w W : World} (h : WS w W) : Calls Tryd.prog 10 #[.agg (wcs w.heap.size (w.heap.size + 1)), .agg #[.int .i64 0, .int .i64 1, .slice none 0 0], .int .i64 9] W fun e w' => (∃ oa oc b off c, e = .returned (.tuple #[.agg #[.int .i64 0, .int .i64 3, .slice oa 2 oc], .slice (some ⟨b, off, none⟩) 2 c]) ∧ Row12 w' (.slice oa 2 oc) wT.opens ∧
    w'.cell? ⟨b, off, none⟩ = some (.int .u8 1) ∧ w'.cell? ⟨b, off + 1, none⟩ = some (.int .i64 1) ∧ w'.cell? ⟨b, off + 2, none⟩ = some (.int .i64 4) ∧ w'.cell? ⟨b, off + 3, none⟩ = some (.int .i64 2) ∧ w'.cell? ⟨b, off + 4, none⟩ = some (.int .i64 1) ∧ w'.cell? ⟨b, off + 5, none⟩ = some (.int .i64 1) ∧ w'.cell? ⟨b, off + 6 + 1, none⟩ = some (.int .i64 2)) ∧ Below W.heap.size W w' := by
  refine (dopen_any _ _ _ (wcs_bc _ _) wI wK ⟨0, 1, []⟩ (.slice none 0 0) 9 W (by decide) (by decide) wwf h.ask h.ri h.rk (by decide) RowOf.nil).mono ?_
  intro e w' he
  unfold OpenEnd at he
  rw [wO1] at he
  obtain ⟨ov, av, rfl, hr, ha, hb⟩ := he
  obtain ⟨oa, oc, rfl, _, _, _, _⟩ := hr.open
  obtain ⟨aa, ac, rfl, _, _, _, hop⟩ := ha.open
  obtain ⟨b, off, rfl, _, hra⟩ := hop (by decide)
  obtain ⟨g0, g1, g2, g3, g4, g5⟩ := rowA hra (i := 0) (x := ⟨1, 1, 4, 2, 1, 1⟩) rfl
  obtain ⟨k0, k1, k2, k3, k4, k5⟩ := rowA hra (i := 1) (x := ⟨4, 2, 3, 0, 0, 0⟩) rfl
  simp only [Nat.zero_mul, Nat.add_zero, Nat.one_mul] at g0 g1 g2 g3 g4 g5 k1
  exact ⟨⟨oa, oc, b, off, ac, rfl, hr, g0, g1, g2, g3, g4, g5, k1⟩, hb⟩
theorem wk_open2 {w W : World} (h : WS w W) (v : Value) (hr : Row12 W v wT.opens) : Calls Tryd.prog 10 #[.agg (wcs w.heap.size (w.heap.size + 1)), .agg #[.int .i64 0, .int .i64 3, v], .int .i64 9] W fun e w' => (∃ oa oc a c, e = .returned (.tuple #[.agg #[.int .i64 0, .int .i64 3, .slice oa 2 oc], .slice a 0 c]) ∧ Row12 w' (.slice oa 2 oc) wT.opens) ∧ Below W.heap.size W w' := by
  refine (dopen_any _ _ _ (wcs_bc _ _) wI wK wT v 9 W (by decide) (by decide) wwf h.ask h.ri h.rk (by decide) hr).mono ?_
  intro e w' he
  unfold OpenEnd at he
  rw [wO2] at he
  obtain ⟨ov, av, rfl, hr, ha, hb⟩ := he
  obtain ⟨oa, oc, rfl, _, _, _, _⟩ := hr.open
  obtain ⟨aa, ac, rfl, _, _, _, _⟩ := ha.open
  exact ⟨⟨oa, oc, aa, ac, rfl, hr⟩, hb⟩
theorem wk_ask {w W : World} (h : WS w W) : Calls Tryd.prog 20 #[.agg (wcs w.heap.size (w.heap.size + 1)), .agg #[.int .u8 6, .int .i64 3], .int .i64 1] W fun e w' => e = .returned (.tuple #[.agg #[.int .u8 0, .int .i64 0, .int .i64 0, .int .i64 0, .int .i64 0, .int .i64 0], .int .i64 191]) ∧ Below W.heap.size W w' :=
  asku_none _ _ _ (wcs_bc _ _) wI wK ⟨6, 3⟩ 1 W (by decide) (by decide) wwf h.ask h.ri h.rk (by decide)
theorem wk_is {w W : World} (h : WS w W) : Calls Tryd.prog 13 #[.agg (wcs w.heap.size (w.heap.size + 1)), .agg #[.int .u8 1, .int .i64 4]] W fun e w' => e = .returned (.bool true) ∧ Below W.heap.size W w' := by
  have := is_any _ _ _ (wcs_bc w.heap.size (w.heap.size + 1)) wI wK ⟨1, 4⟩ W (by decide) (by decide) wwf h.ask h.ri h.rk
  rwa [show decide ((⟨1, 4⟩ : DutyV) ∈ dutiesL wI wK) = true by decide] at this
theorem wk_drop (W : World) (hA : Asked W) (v : Value) (hr : Row12 W v wT.opens) : Calls Tryd.prog 16 #[.agg zcs, .agg #[.int .i64 0, .int .i64 3, v]] W fun e w' => (∃ a c, e = .returned (.agg #[.int .i64 0, .int .i64 3, .slice a 0 c])) ∧ Below W.heap.size W w' := by
  refine (drop_any _ _ _ zcs_bc [] [] 0 3 v wT.opens W (by decide) (by decide) (by simp) hA RowOf.nil RowOf.nil (by decide) hr).mono ?_
  rintro e w' ⟨u, rfl, hown, hb⟩
  rw [wX] at hown
  obtain ⟨a, c, rfl, _, _, _, _⟩ := (hown.row encC_len (by decide)).open
  exact ⟨⟨a, c, rfl⟩, hb⟩
theorem store_other (t : TypeId) (a : Addr) (v : Value) (_h : t ≠ 30) (h0 : ∀ w, (sizeOf t).run Tryd.prog w = .ok v.cells.size w) (w : World) : (storeVar t a v).run Tryd.prog w = (storeCells a v.cells.toList).run Tryd.prog w := by
  simp [storeVar, h0]
theorem wk_same (W : World) (v u : Value) (hr : Row12 W v wT.opens) (hs : Row12 W u wT.opens) : Calls Tryd.prog 11 #[.agg #[.int .i64 0, .int .i64 3, v], .agg #[.int .i64 0, .int .i64 3, u]] W fun e w' => e = .returned (.bool true) ∧ Below W.heap.size W w' := by
  have := rsame_any 0 3 0 3 v u wT.opens wT.opens W hr hs (by decide) (by decide)
  simpa [sameV, calls] using this
end Go.Proofs.YtljmhmdpihpafaaDoor
