import Derived.Test.YthhgpiolcnojfaaGreatDoorOpm
import Derived.Test.YthhgpiolcnojfaaGreatDoorCld
/- Arguments that are clouds, and Kept, opened. -/
namespace Go.Proofs.YthhgpiolcnojfaaGreatDoor
open Go.ChangeShapes Go.WideShapes Go.ChangeAt Go.RowKit Go.Deep Go.Joins

section
variable {H : Type} {enc : TypeId × Value → H} {w : World}
set_option maxRecDepth 100000 in
theorem read_box (n : Nat) (cs : List Value) (y : DataW H × List MemPlace) (h : DataW.trod enc Tryz.prog w 0 (fun _ => true) true n 116 cs = some y) : ∃ x : BoxV, True ∧ encBx x = cs := by
 have hs : Tryz.prog.underlying 116 = some (.struct (Tryz.prog.fieldsOf 116)) := by kernel_rfl
 obtain ⟨ys, n', hn', hy, hlen, hyl, hf⟩ := DataW.trod_struct hs h
 rw [show Tryz.prog.cellsOf 116 = 11 by kernel_rfl] at hlen
 match cs, hlen with
 | [c0, c1, c2, c3, c4, c5, c6, c7, c8, c9, c10], _ =>
  obtain ⟨a0, rfl, _⟩ := int_read Tryz.underlying3 (field_read (T := 116) (i := 0) (ty := 3) (off := 0) (by kernel_rfl) (by kernel_rfl) hyl hf)
  obtain ⟨a1, rfl, _⟩ := int_read Tryz.underlying3 (field_read (T := 116) (i := 1) (ty := 3) (off := 1) (by kernel_rfl) (by kernel_rfl) hyl hf)
  obtain ⟨a2, rfl, _⟩ := int_read Tryz.underlying3 (field_read (T := 116) (i := 2) (ty := 3) (off := 2) (by kernel_rfl) (by kernel_rfl) hyl hf)
  obtain ⟨a3, rfl, _⟩ := int_read Tryz.underlying3 (field_read (T := 116) (i := 3) (ty := 3) (off := 3) (by kernel_rfl) (by kernel_rfl) hyl hf)
  obtain ⟨a4, rfl⟩ := bool_read Tryz.underlying4 (field_read (T := 116) (i := 4) (ty := 4) (off := 4) (by kernel_rfl) (by kernel_rfl) hyl hf)
  obtain ⟨a5, rfl⟩ := bool_read Tryz.underlying4 (field_read (T := 116) (i := 5) (ty := 4) (off := 5) (by kernel_rfl) (by kernel_rfl) hyl hf)
  obtain ⟨a6, rfl⟩ := bool_read Tryz.underlying4 (field_read (T := 116) (i := 6) (ty := 4) (off := 6) (by kernel_rfl) (by kernel_rfl) hyl hf)
  obtain ⟨a7, rfl⟩ := bool_read Tryz.underlying4 (field_read (T := 116) (i := 7) (ty := 4) (off := 7) (by kernel_rfl) (by kernel_rfl) hyl hf)
  obtain ⟨a8, rfl, _⟩ := int_read Tryz.underlying5 (field_read (T := 116) (i := 8) (ty := 5) (off := 8) (by kernel_rfl) (by kernel_rfl) hyl hf)
  obtain ⟨a9, rfl, _⟩ := int_read Tryz.underlying3 (field_read (T := 116) (i := 9) (ty := 3) (off := 9) (by kernel_rfl) (by kernel_rfl) hyl hf)
  obtain ⟨a10, rfl, _⟩ := int_read Tryz.underlying3 (field_read (T := 116) (i := 10) (ty := 3) (off := 10) (by kernel_rfl) (by kernel_rfl) hyl hf)
  exact ⟨⟨a0, a1, a2, a3, a4, a5, a6, a7, a8, a9, a10⟩, trivial, rfl⟩
set_option maxRecDepth 100000 in
theorem open_cloud {r : Reach} {base : Nat} {v : Value} {x : DataW H × List MemPlace} (hv : Value.okWide Tryz.prog w r base 72 v) (h : ∃ fu, DataW.trod enc Tryz.prog w 0 (fun _ => true) true fu 72 v.cells.toList = some x) :
  ∃ (C : CloudV) (s : Value), v = .agg (cloudA C s) ∧ RowOf 11 encBx w s C.boxes := by
 have hs : Tryz.prog.underlying 72 = some (.struct (Tryz.prog.fieldsOf 72)) := by kernel_rfl
 obtain ⟨fu, h⟩ := h
 obtain ⟨cs, rfl, hsz⟩ := okWide_struct hs hv
 rw [show Tryz.prog.cellsOf 72 = 5 by kernel_rfl] at hsz
 rw [show (Value.agg cs).cells.toList = cs.toList from rfl] at h
 obtain ⟨ys, n', hn', hy, hlen, hyl, hf⟩ := DataW.trod_struct hs h
 obtain ⟨c0, c1, c2, c3, c4, rfl⟩ : ∃ c0 c1 c2 c3 c4, cs = #[c0, c1, c2, c3, c4] := by
  obtain ⟨l⟩ := cs
  match l, hsz with
  | [c0, c1, c2, c3, c4], _ => exact ⟨c0, c1, c2, c3, c4, rfl⟩
 obtain ⟨y0, h0⟩ := field_read (T := 72) (i := 0) (ty := 70) (off := 0) (by kernel_rfl) (by kernel_rfl) hyl hf
 obtain ⟨a1, rfl, _⟩ := int_read Tryz.underlying3 (field_read (T := 72) (i := 1) (ty := 3) (off := 1) (by kernel_rfl) (by kernel_rfl) hyl hf)
 obtain ⟨a2, rfl, _⟩ := int_read Tryz.underlying3 (field_read (T := 72) (i := 2) (ty := 3) (off := 2) (by kernel_rfl) (by kernel_rfl) hyl hf)
 obtain ⟨a3, rfl, _⟩ := int_read Tryz.underlying3 (field_read (T := 72) (i := 3) (ty := 3) (off := 3) (by kernel_rfl) (by kernel_rfl) hyl hf)
 obtain ⟨a4, rfl⟩ := bool_read Tryz.underlying4 (field_read (T := 72) (i := 4) (ty := 4) (off := 4) (by kernel_rfl) (by kernel_rfl) hyl hf)
 obtain ⟨l, hr, _⟩ := open_rows (k := 11) (en := encBx) (wf := fun _ => True) Tryz.underlying70 (by kernel_rfl) (by decide) encBx_len read_box h0
 exact ⟨⟨l, a1, a2, a3, a4⟩, c0, rfl, hr⟩
set_option maxRecDepth 100000 in
theorem open_kept {r : Reach} {base : Nat} {v : Value} {x : DataW H × List MemPlace} (hv : Value.okWide Tryz.prog w r base 63 v) (h : ∃ fu, DataW.trod enc Tryz.prog w 0 (fun _ => true) true fu 63 v.cells.toList = some x) :
  ∃ k : KeptV, in8 k.phase ∧ v = .agg #[.int .i64 k.id, .int .i64 k.token, .int .i64 k.version, .int .i64 k.zone, .int .u8 k.phase, .int .i64 k.since, .bool k.guarded, .bool k.complete] := by
 have hs : Tryz.prog.underlying 63 = some (.struct (Tryz.prog.fieldsOf 63)) := by kernel_rfl
 obtain ⟨fu, h⟩ := h
 obtain ⟨cs, rfl, hsz⟩ := okWide_struct hs hv
 rw [show (Value.agg cs).cells.toList = cs.toList from rfl] at h
 obtain ⟨e, h1, he⟩ := read_kept _ _ _ h
 refine ⟨e, h1, ?_⟩
 obtain ⟨l⟩ := cs
 simp only at he
 rw [← he]
 rfl
end
end Go.Proofs.YthhgpiolcnojfaaGreatDoor
