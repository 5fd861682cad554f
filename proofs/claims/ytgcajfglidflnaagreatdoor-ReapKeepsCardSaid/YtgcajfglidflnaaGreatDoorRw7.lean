
/- herdlaw13.rec, herdlaw13.group; herdref07.Row of a group without marks. -/
import Derived.Test.YtgcajfglidflnaaGreatDoorCk7
import Derived.Test.YtgcajfglidflnaaGreatDoorRcm
import Derived.Test.YtgcajfglidflnaaGreatDoorCut
namespace Go.Proofs.YtgcajfglidflnaaGreatDoor
open Go.RowKit Go.Shelf

theorem res_rec {fn : Func} {tmps : Array Value} {r : Tmp} {b : Nat} {c0 c1 : Value} {W : World} (hres : fn.results = #[.cell r 70]) (h : tmps.getD r undef = .pointer (some ⟨b, 0, none⟩)) (hb : W.heap[b]? = some (.cells #[c0, c1] 70)) :
  (results fn tmps).run Tryz.prog W = .ok (.agg #[c0, c1]) W := by
 have k0 := blk_cell hb 0
 have k1 := blk_cell hb 1
 simp only [List.getElem?_toArray, List.getElem?_cons_succ, List.getElem?_cons_zero] at k0 k1
 rw [Array.getD_eq_getD_getElem?] at h
 simp [results, hres, go_sem, h, k0, k1]
attribute [-go_sem] loadVar
attribute [local go_sem] load_other2
end Go.Proofs.YtgcajfglidflnaaGreatDoor
