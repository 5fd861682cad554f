import Derived.Test.YtgcajfglidflnaaDoorOpw
import Derived.Test.YtgcajfglidflnaaDoorSca
/- Arguments of herdlaw21's statements, opened: listings, answers. -/
namespace Go.Proofs.YtgcajfglidflnaaDoor
open Go.ChangeShapes Go.WideShapes Go.ChangeAt Go.RowKit Go.Deep Go.Joins

section
variable {H : Type} {enc : TypeId × Value → H} {w : World}
set_option maxRecDepth 100000 in
theorem read_seen (n : Nat) (cs : List Value) (y : DataW H × List MemPlace) (h : DataW.trod enc Tryd.prog w 0 (fun _ => true) true n 44 cs = some y) : ∃ x : SeenV, True ∧ encSn x = cs := by
  have hs : Tryd.prog.underlying 44 = some (.struct (Tryd.prog.fieldsOf 44)) := by kernel_rfl
  obtain ⟨ys, n', hn', hy, hlen, hyl, hf⟩ := DataW.trod_struct hs h
  rw [show Tryd.prog.cellsOf 44 = 7 by kernel_rfl] at hlen
  match cs, hlen with
  | [c0, c1, c2, c3, c4, c5, c6], _ =>
    obtain ⟨a0, rfl, _⟩ := int_read Tryd.underlying3 (field_read (T := 44) (i := 0) (ty := 3) (off := 0) (by kernel_rfl) (by kernel_rfl) hyl hf)
    obtain ⟨a1, rfl, _⟩ := int_read Tryd.underlying3 (field_read (T := 44) (i := 1) (ty := 3) (off := 1) (by kernel_rfl) (by kernel_rfl) hyl hf)
    obtain ⟨a2, rfl, _⟩ := int_read Tryd.underlying3 (field_read (T := 44) (i := 2) (ty := 3) (off := 2) (by kernel_rfl) (by kernel_rfl) hyl hf)
    obtain ⟨a3, rfl, _⟩ := int_read Tryd.underlying3 (field_read (T := 44) (i := 3) (ty := 3) (off := 3) (by kernel_rfl) (by kernel_rfl) hyl hf)
    obtain ⟨a4, rfl⟩ := bool_read Tryd.underlying4 (field_read (T := 44) (i := 4) (ty := 4) (off := 4) (by kernel_rfl) (by kernel_rfl) hyl hf)
    obtain ⟨a5, rfl⟩ := bool_read Tryd.underlying4 (field_read (T := 44) (i := 5) (ty := 4) (off := 5) (by kernel_rfl) (by kernel_rfl) hyl hf)
    obtain ⟨a6, rfl⟩ := bool_read Tryd.underlying4 (field_read (T := 44) (i := 6) (ty := 4) (off := 6) (by kernel_rfl) (by kernel_rfl) hyl hf)
    exact ⟨⟨a0, a1, a2, a3, a4, a5, a6⟩, trivial, rfl⟩
theorem open_seens {fuel : Nat} {v : Value} (h : ∃ y, DataW.trod enc Tryd.prog w 0 (fun _ => true) true fuel 31 [v] = some y) : ∃ l : List SeenV, RowS w v l := by
  obtain ⟨x, h⟩ := h
  obtain ⟨l, hr, _⟩ := open_rows (k := 7) (en := encSn) Tryd.underlying31 (by kernel_rfl) (by decide) encSn_len read_seen h
  exact ⟨l, hr⟩
set_option maxRecDepth 100000 in
/-- A listing. -/
theorem open_scan {r : Reach} {base : Nat} {v : Value} {x : DataW H × List MemPlace} (hv : Value.okWide Tryd.prog w r base 33 v) (h : ∃ fu, DataW.trod enc Tryd.prog w 0 (fun _ => true) true fu 33 v.cells.toList = some x) :
    ∃ (on : Bool) (frm beh : Int) (sv : Value) (L : List SeenV), v = scanV on frm beh sv ∧ RowS w sv L := by
  have hs : Tryd.prog.underlying 33 = some (.struct (Tryd.prog.fieldsOf 33)) := by kernel_rfl
  obtain ⟨fu, h⟩ := h
  obtain ⟨cs, rfl, hsz⟩ := okWide_struct hs hv
  rw [show Tryd.prog.cellsOf 33 = 4 by kernel_rfl] at hsz
  rw [show (Value.agg cs).cells.toList = cs.toList from rfl] at h
  obtain ⟨ys, n', hn', hy, hlen, hyl, hf⟩ := DataW.trod_struct hs h
  obtain ⟨c0, c1, c2, c3, rfl⟩ : ∃ c0 c1 c2 c3, cs = #[c0, c1, c2, c3] := by
    obtain ⟨l⟩ := cs
    match l, hsz with
    | [c0, c1, c2, c3], _ => exact ⟨c0, c1, c2, c3, rfl⟩
  obtain ⟨a0, rfl⟩ := bool_read Tryd.underlying4 (field_read (T := 33) (i := 0) (ty := 4) (off := 0) (by kernel_rfl) (by kernel_rfl) hyl hf)
  obtain ⟨a1, rfl, _⟩ := int_read Tryd.underlying3 (field_read (T := 33) (i := 1) (ty := 3) (off := 1) (by kernel_rfl) (by kernel_rfl) hyl hf)
  obtain ⟨a2, rfl, _⟩ := int_read Tryd.underlying3 (field_read (T := 33) (i := 2) (ty := 3) (off := 2) (by kernel_rfl) (by kernel_rfl) hyl hf)
  obtain ⟨L, hL⟩ := open_seens (field_read (T := 33) (i := 3) (ty := 31) (off := 3) (by kernel_rfl) (by kernel_rfl) hyl hf)
  exact ⟨a0, a1, a2, c3, L, rfl, hL⟩
set_option maxRecDepth 100000 in
/-- An answer. -/
theorem open_tell {r : Reach} {base : Nat} {v : Value} {x : DataW H × List MemPlace} (hv : Value.okWide Tryd.prog w r base 47 v) (h : ∃ fu, DataW.trod enc Tryd.prog w 0 (fun _ => true) true fu 47 v.cells.toList = some x) :
    ∃ (c k d i : Int) (sv : Value) (m : Bool) (L : List SeenV), v = tellV c k d i sv m ∧ RowS w sv L := by
  have hs : Tryd.prog.underlying 47 = some (.struct (Tryd.prog.fieldsOf 47)) := by kernel_rfl
  obtain ⟨fu, h⟩ := h
  obtain ⟨cs, rfl, hsz⟩ := okWide_struct hs hv
  rw [show Tryd.prog.cellsOf 47 = 6 by kernel_rfl] at hsz
  rw [show (Value.agg cs).cells.toList = cs.toList from rfl] at h
  obtain ⟨ys, n', hn', hy, hlen, hyl, hf⟩ := DataW.trod_struct hs h
  obtain ⟨c0, c1, c2, c3, c4, c5, rfl⟩ : ∃ c0 c1 c2 c3 c4 c5, cs = #[c0, c1, c2, c3, c4, c5] := by
    obtain ⟨l⟩ := cs
    match l, hsz with
    | [c0, c1, c2, c3, c4, c5], _ => exact ⟨c0, c1, c2, c3, c4, c5, rfl⟩
  obtain ⟨a0, rfl, _⟩ := int_read Tryd.underlying3 (field_read (T := 47) (i := 0) (ty := 3) (off := 0) (by kernel_rfl) (by kernel_rfl) hyl hf)
  obtain ⟨a1, rfl, _⟩ := int_read Tryd.underlying5 (field_read (T := 47) (i := 1) (ty := 5) (off := 1) (by kernel_rfl) (by kernel_rfl) hyl hf)
  obtain ⟨a2, rfl, _⟩ := int_read Tryd.underlying5 (field_read (T := 47) (i := 2) (ty := 5) (off := 2) (by kernel_rfl) (by kernel_rfl) hyl hf)
  obtain ⟨a3, rfl, _⟩ := int_read Tryd.underlying3 (field_read (T := 47) (i := 3) (ty := 3) (off := 3) (by kernel_rfl) (by kernel_rfl) hyl hf)
  obtain ⟨L, hL⟩ := open_seens (field_read (T := 47) (i := 4) (ty := 31) (off := 4) (by kernel_rfl) (by kernel_rfl) hyl hf)
  obtain ⟨a5, rfl⟩ := bool_read Tryd.underlying4 (field_read (T := 47) (i := 5) (ty := 4) (off := 5) (by kernel_rfl) (by kernel_rfl) hyl hf)
  exact ⟨a0, a1, a2, a3, c4, a5, L, rfl, hL⟩
end
end Go.Proofs.YtgcajfglidflnaaDoor
