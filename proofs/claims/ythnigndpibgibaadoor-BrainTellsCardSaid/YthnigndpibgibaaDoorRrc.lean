/- The reach of a row of records. -/
import Derived.Test.YthnigndpibgibaaDoorOpw
import Derived.SizedLaws
namespace Go.Proofs.YthnigndpibgibaaDoor
open Go.RowKit Go.Shelf Go.ChangeShapes Go.WideShapes Go.ChangeAt Go.Deep Go.Joins
section
variable {H : Type} {enc : TypeId × Value → H} {w : World}
set_option maxRecDepth 100000 in
theorem bytesRec : Tryd.prog.bytesOf 37 = 32 := by kernel_rfl
set_option maxRecDepth 100000 in
theorem recs_reach {r : Reach} {base : Nat} {v : Value} {d : DataW H} {p : List MemPlace} {R : List RecE} (hv : Value.okWide Tryd.prog w r base 31 v) (h : ∃ fu, DataW.trod enc Tryd.prog w 0 (fun _ => true) true fu 31 v.cells.toList = some (d, p)) (hR : RecsR w R v)
    {ts : List TypeId} {ds : List (DataW H)} (hz : (DataW.weightsEach Tryd.prog ts ds).all (· ≤ reachBytes) = true) {j : Nat} (ht : ts[j]? = some 31) (hd : ds[j]? = some d) : R.length * 32 ≤ 140737488351232 := by
  obtain ⟨a, c, rfl, _⟩ := hR.1.open
  obtain ⟨fu, h⟩ := h
  rcases open_slice Tryd.underlying31 (show DataW.trod enc Tryd.prog w 0 (fun _ => true) true fu 31 [.slice a R.length c] = some (d, p) from h) with ⟨h0, _⟩ | ⟨a', len, cap, m, n, D, Pl, hcs, _, _, _, _, hx, _⟩
  · simp at h0
    have : R.length = 0 := by rw [h0.2.1]; rfl
    omega
  · simp only [List.cons.injEq, Value.slice.injEq, and_true] at hcs
    obtain ⟨_, hl, _⟩ := hcs
    simp only [Prod.mk.injEq] at hx
    rw [hx.1] at hd
    have := sized_slice hz ht hd Tryd.underlying31
    rw [bytesRec] at this
    simp only [List.length_map, List.length_range, reachBytes] at this
    rw [hl]
    omega
end
end Go.Proofs.YthnigndpibgibaaDoor
