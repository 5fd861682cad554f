/- The table of what is asked, out of the row's condition. -/
import Derived.Test.YtljmhmdpihpafaaDoorRows
import Derived.Test.YtljmhmdpihpafaaDoorBr
import Derived.Test.YtljmhmdpihpafaaDoorFrm
import Derived.LaidMore
import Derived.Stop.Joined
import Derived.Maps.OwnSet
namespace Go.Proofs.YtljmhmdpihpafaaDoor
open Go.ChangeShapes Go.WideShapes Go.ChangeAt Go.WideMaps Go.WideElems Go.RowKit Go.Maps

theorem gAsked : Tryd.prog.globalNamed "herd/duty.asked" = some 0 := by kernel_rfl
theorem tAsked : (Tryd.prog.globals[0]?).map (·.type) = some 88 := by kernel_rfl
theorem asked_of {W : World} (h : laidMetH Tryd.prog [("herd/duty.asked", Rows.laid_herd_duty_asked)] W) : Asked W := by
  rw [MakeChecks.laidMetH_plain _ _ _ (by kernel_rfl)] at h
  obtain ⟨ps, ⟨g0, t0, cs0, f0, p0, q0, hg0, ht0, hv0, hd0, _, _⟩, _, _⟩ := h
  obtain rfl := Option.some.inj (gAsked.symm.trans hg0)
  obtain rfl := Option.some.inj (tAsked.symm.trans ht0)
  rcases open_map Tryd.underlying88 hd0 with ⟨_, hx⟩ | ⟨bm, es, clock, m, rfl, hcs, hb, _, F, hx⟩
  · simp [Rows.laid_herd_duty_asked] at hx
  simp only [Prod.mk.injEq] at hx
  have hcell : W.cell? ⟨0, 0, none⟩ = some (.map (some bm)) := by
    have := World.var?_cell hg0 hv0 0
    rw [Array.eq_one_of_toList hcs] at this
    simpa using this
  refine ⟨bm, _, hcell, hb, ?_⟩
  intro w' hb' p hp
  have zero : ∀ w : World, (zeroValue 5).run Tryd.prog w = .ok (.int .u8 0) w := fun w => by kernel_rfl
  have wfp : (Lit.int .u8 p).wf = true := WalkArith.wf_u8 hp
  have hown := World.ownsMap_of_fit (R := plainElem Tryd.prog 5) hb' F (fun x _ z hz => elemAt_plainElem_int Tryd.underlying5 hz)
  rw [← hx.1] at hown
  have hl := hown.look_ok (int_keyed Tryd.underlying5) Tryd.underlying88 (zero w') (plainElem_int Tryd.underlying5 (WalkArith.wf_u8 (n := 0) ⟨by decide, by decide⟩)) (keyOf_int_mk Tryd.underlying5 wfp)
  obtain ⟨v, vs, hrun, hv⟩ := hl
  obtain ⟨r, rfl, hr, _⟩ := plainElem_int_inv Tryd.underlying5 hv
  rw [hrun]
  by_cases h3 : p = 3
  · subst h3; cases hr; rfl
  by_cases h5 : p = 5
  · subst h5; cases hr; rfl
  by_cases h8 : p = 8
  · subst h8; cases hr; rfl
  by_cases h10 : p = 10
  · subst h10; cases hr; rfl
  have e1 : askedK p = 0 := by simp [askedK, h3, h5, h8, h10]
  have e2 : askedB p = false := by simp [askedB, h3, h5, h8, h10]
  have e3 : Maps.has (Rows.laid_herd_duty_asked : DataW Unit) (.int .u8 p) = false := by
    simp [Maps.has, Rows.laid_herd_duty_asked, Lit.sameKey, eq_comm, h3, h5, h8, h10]
  have e4 : (Rows.laid_herd_duty_asked : DataW Unit).atKey (.int .u8 p) (.lit (.int .u8 0)) = .lit (.int .u8 0) := by
    simp [DataW.atKey, Rows.laid_herd_duty_asked, List.find?, Lit.sameKey, eq_comm, h3, h5, h8, h10]
  rw [e4] at hr
  cases hr
  rw [e1, e2, e3]
end Go.Proofs.YtljmhmdpihpafaaDoor
