/- The reach of a brain's marks. -/
import Derived.Test.YthhgpiolcnojfaaGreatDoorOpw
import Derived.SizedLaws
namespace Go.Proofs.YthhgpiolcnojfaaGreatDoor
open Go.RowKit Go.Shelf Go.ChangeShapes Go.WideShapes Go.ChangeAt Go.Deep Go.Joins
section
variable {H : Type} {enc : TypeId × Value → H} {w : World}
set_option maxRecDepth 100000 in
theorem bytesInt : Tryz.prog.bytesOf 3 = 8 := by kernel_rfl
theorem field_datum {T i ty off n k : Nat} {cs : List Value} {ys : List (DataW H × List MemPlace)} (hm : ((Tryz.prog.fieldsOf T)[i]?).map (fun f => (f.type, f.offset)) = some (ty, off)) (hc : Tryz.prog.cellsOf ty = k) (hyl : ys.length = (Tryz.prog.fieldsOf T).size)
    (hf : ∀ (i : Nat) (f : Field), (Tryz.prog.fieldsOf T)[i]? = some f → DataW.trod enc Tryz.prog w 0 (fun _ => true) true n f.type ((cs.drop f.offset).take (Tryz.prog.cellsOf f.type)) = ys[i]?) :
    ∃ y, ys[i]? = some y ∧ DataW.trod enc Tryz.prog w 0 (fun _ => true) true n ty ((cs.drop off).take k) = some y := by
  cases hq : (Tryz.prog.fieldsOf T)[i]? with
  | none => rw [hq] at hm; cases hm
  | some f =>
    rw [hq, Option.map_some, Option.some.injEq, Prod.mk.injEq] at hm
    have hi : i < (Tryz.prog.fieldsOf T).size := (Array.getElem?_eq_some_iff.1 hq).1
    obtain ⟨y, hy⟩ := get_lt (show i < ys.length by omega)
    have := hf i f hq
    rw [hm.1, hm.2, hc, hy] at this
    exact ⟨y, hy, this⟩
set_option maxRecDepth 100000 in
theorem brain_reach {f : Nat → Int} {g : Nat → Bool} {mv iv kv : Value} {d : DataW H} {p : List MemPlace} {M : List Int} (h : ∃ fu, DataW.trod enc Tryz.prog w 0 (fun _ => true) true fu 30 (Value.agg (brT f g mv iv kv)).cells.toList = some (d, p)) (hM : RowOf 1 encI w mv M)
    {ts : List TypeId} {ds : List (DataW H)} (hz : (DataW.weightsEach Tryz.prog ts ds).all (· ≤ reachBytes) = true) {j : Nat} (ht : ts[j]? = some 30) (hd : ds[j]? = some d) : M.length ≤ 17592186043904 := by
  have hs : Tryz.prog.underlying 30 = some (.struct (Tryz.prog.fieldsOf 30)) := by kernel_rfl
  have hs3 : Tryz.prog.underlying 24 = some (.struct (Tryz.prog.fieldsOf 24)) := by kernel_rfl
  obtain ⟨fu, h⟩ := h
  obtain ⟨ys, n', hn', hy, hlen, hyl, hf⟩ := DataW.trod_struct hs h
  obtain ⟨⟨d3, p3⟩, hy3, h3⟩ := field_datum (T := 30) (i := 3) (ty := 24) (off := 3) (k := 15) (by kernel_rfl) (by kernel_rfl) hyl hf
  obtain ⟨zs, n3, hn3, hz3, hlen3, hzl, hf3⟩ := DataW.trod_struct hs3 h3
  obtain ⟨⟨d14, p14⟩, hy14, h14⟩ := field_datum (T := 24) (i := 14) (ty := 22) (off := 14) (k := 1) (by kernel_rfl) (by kernel_rfl) hzl hf3
  obtain ⟨a, c, rfl, _⟩ := hM.open
  have h14' : DataW.trod enc Tryz.prog w 0 (fun _ => true) true n3 22 [.slice a M.length c] = some (d14, p14) := h14
  rcases open_slice Tryz.underlying22 h14' with ⟨h0, _⟩ | ⟨a', len, cap, m, n, D, Pl, hcs, _, _, _, _, hx, _⟩
  · simp at h0
    have : M.length = 0 := by rw [h0.2.1]; rfl
    omega
  · simp only [List.cons.injEq, Value.slice.injEq, and_true] at hcs
    simp only [Prod.mk.injEq] at hx hy hz3
    have m14 : (len + (m - len)) * 8 ∈ d14.weights Tryz.prog 22 := by
      rw [hx.1]
      simp [DataW.weights, Tryz.underlying22, bytesInt]
    have m3 : (len + (m - len)) * 8 ∈ d3.weights Tryz.prog 24 := by
      rw [hz3.1]
      have : (DataW.agg (zs.map (·.1))).weights Tryz.prog 24 = DataW.weightsEach Tryz.prog ((Tryz.prog.fieldsOf 24).toList.map (·.type)) (zs.map (·.1)) := by rw [DataW.weights, hs3]
      rw [this]
      exact DataW.weights_mem_each (j := 14) (t := 22) (by kernel_rfl) (by rw [List.getElem?_map, hy14]; rfl) _ m14
    have m0 : (len + (m - len)) * 8 ∈ d.weights Tryz.prog 30 := by
      rw [hy.1]
      have : (DataW.agg (ys.map (·.1))).weights Tryz.prog 30 = DataW.weightsEach Tryz.prog ((Tryz.prog.fieldsOf 30).toList.map (·.type)) (ys.map (·.1)) := by rw [DataW.weights, hs]
      rw [this]
      exact DataW.weights_mem_each (j := 3) (t := 24) (by kernel_rfl) (by rw [List.getElem?_map, hy3]; rfl) _ m3
    have := List.all_eq_true.1 hz _ (DataW.weights_mem_each ht hd _ m0)
    have h9 : (len + (m - len)) * 8 ≤ reachBytes := by simpa using this
    rw [show reachBytes = 140737488351232 from rfl] at h9
    have := hcs.2.1
    omega
end
end Go.Proofs.YthhgpiolcnojfaaGreatDoor
