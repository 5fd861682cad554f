/- Nets, Asks, Tells that come in as arguments: they read as such. -/
import Derived.Test.YthnlppbfmmiioaaOpg
import Derived.Test.YthnlppbfmmiioaaPr0
namespace Go.Proofs.Ythnlppbfmmiioaa
open Go.ChangeShapes Go.WideShapes Go.ChangeAt Go.RowKit Go.Deep Go.Joins

section
variable {H : Type} {enc : TypeId × Value → H} {w : World}
theorem bool_read {n ty : Nat} {v : Value} (ht : Try.prog.underlying ty = some .bool) (h : ∃ y, DataW.trod enc Try.prog w 0 (fun _ => true) true n ty [v] = some y) : ∃ a, v = .bool a := by
  obtain ⟨y, h⟩ := h
  obtain ⟨a, h1, _⟩ := DataW.trod_bool ht h
  simp at h1
  exact ⟨a, h1⟩

theorem read_ask (n : Nat) (cs : List Value) (y : DataW H × List MemPlace) (h : DataW.trod enc Try.prog w 0 (fun _ => true) true n 27 cs = some y) : ∃ x : AskV, True ∧ encA x = cs := by
  have hs : Try.prog.underlying 27 = some (.struct (Try.prog.fieldsOf 27)) := by kernel_rfl
  obtain ⟨ys, n', hn', hy, hlen, hyl, hf⟩ := DataW.trod_struct hs h
  rw [show Try.prog.cellsOf 27 = 6 by kernel_rfl] at hlen
  match cs, hlen with
  | [c0, c1, c2, c3, c4, c5], _ =>
    obtain ⟨a0, rfl, _⟩ := int_read Try.underlying5 (field_read (T := 27) (i := 0) (ty := 5) (off := 0) (by kernel_rfl) (by kernel_rfl) hyl hf)
    obtain ⟨a1, rfl, _⟩ := int_read Try.underlying3 (field_read (T := 27) (i := 1) (ty := 3) (off := 1) (by kernel_rfl) (by kernel_rfl) hyl hf)
    obtain ⟨a2, rfl, _⟩ := int_read Try.underlying3 (field_read (T := 27) (i := 2) (ty := 3) (off := 2) (by kernel_rfl) (by kernel_rfl) hyl hf)
    obtain ⟨a3, rfl, _⟩ := int_read Try.underlying3 (field_read (T := 27) (i := 3) (ty := 3) (off := 3) (by kernel_rfl) (by kernel_rfl) hyl hf)
    obtain ⟨a4, rfl, _⟩ := int_read Try.underlying3 (field_read (T := 27) (i := 4) (ty := 3) (off := 4) (by kernel_rfl) (by kernel_rfl) hyl hf)
    obtain ⟨a5, rfl, _⟩ := int_read Try.underlying3 (field_read (T := 27) (i := 5) (ty := 3) (off := 5) (by kernel_rfl) (by kernel_rfl) hyl hf)
    exact ⟨⟨a0, a1, a2, a3, a4, a5⟩, trivial, rfl⟩
theorem read_seen (n : Nat) (cs : List Value) (y : DataW H × List MemPlace) (h : DataW.trod enc Try.prog w 0 (fun _ => true) true n 51 cs = some y) : ∃ x : SeenV, True ∧ encN x = cs := by
  have hs : Try.prog.underlying 51 = some (.struct (Try.prog.fieldsOf 51)) := by kernel_rfl
  obtain ⟨ys, n', hn', hy, hlen, hyl, hf⟩ := DataW.trod_struct hs h
  rw [show Try.prog.cellsOf 51 = 7 by kernel_rfl] at hlen
  match cs, hlen with
  | [c0, c1, c2, c3, c4, c5, c6], _ =>
    obtain ⟨a0, rfl, _⟩ := int_read Try.underlying3 (field_read (T := 51) (i := 0) (ty := 3) (off := 0) (by kernel_rfl) (by kernel_rfl) hyl hf)
    obtain ⟨a1, rfl, _⟩ := int_read Try.underlying3 (field_read (T := 51) (i := 1) (ty := 3) (off := 1) (by kernel_rfl) (by kernel_rfl) hyl hf)
    obtain ⟨a2, rfl, _⟩ := int_read Try.underlying3 (field_read (T := 51) (i := 2) (ty := 3) (off := 2) (by kernel_rfl) (by kernel_rfl) hyl hf)
    obtain ⟨a3, rfl, _⟩ := int_read Try.underlying3 (field_read (T := 51) (i := 3) (ty := 3) (off := 3) (by kernel_rfl) (by kernel_rfl) hyl hf)
    obtain ⟨a4, rfl⟩ := bool_read Try.underlying4 (field_read (T := 51) (i := 4) (ty := 4) (off := 4) (by kernel_rfl) (by kernel_rfl) hyl hf)
    obtain ⟨a5, rfl⟩ := bool_read Try.underlying4 (field_read (T := 51) (i := 5) (ty := 4) (off := 5) (by kernel_rfl) (by kernel_rfl) hyl hf)
    obtain ⟨a6, rfl⟩ := bool_read Try.underlying4 (field_read (T := 51) (i := 6) (ty := 4) (off := 6) (by kernel_rfl) (by kernel_rfl) hyl hf)
    exact ⟨⟨a0, a1, a2, a3, a4, a5, a6⟩, trivial, rfl⟩
theorem open_seens {fuel : Nat} {v : Value} {x : DataW H × List MemPlace} (h : DataW.trod enc Try.prog w 0 (fun _ => true) true fuel 28 [v] = some x) : ∃ l : List SeenV, RowN w v l := by
  obtain ⟨l, hr, _⟩ := open_rows (k := 7) (en := encN) Try.underlying28 (by kernel_rfl) (by decide) encN_len read_seen h
  exact ⟨l, hr⟩
theorem read_tell (n : Nat) (cs : List Value) (y : DataW H × List MemPlace) (h : DataW.trod enc Try.prog w 0 (fun _ => true) true n 30 cs = some y) : ∃ m : TellM, (∃ L, RowN w m.sv L) ∧ encT m = cs := by
  have hs : Try.prog.underlying 30 = some (.struct (Try.prog.fieldsOf 30)) := by kernel_rfl
  obtain ⟨ys, n', hn', hy, hlen, hyl, hf⟩ := DataW.trod_struct hs h
  rw [show Try.prog.cellsOf 30 = 6 by kernel_rfl] at hlen
  match cs, hlen with
  | [c0, c1, c2, c3, c4, c5], _ =>
    obtain ⟨a0, rfl, _⟩ := int_read Try.underlying3 (field_read (T := 30) (i := 0) (ty := 3) (off := 0) (by kernel_rfl) (by kernel_rfl) hyl hf)
    obtain ⟨a1, rfl, _⟩ := int_read Try.underlying5 (field_read (T := 30) (i := 1) (ty := 5) (off := 1) (by kernel_rfl) (by kernel_rfl) hyl hf)
    obtain ⟨a2, rfl, _⟩ := int_read Try.underlying5 (field_read (T := 30) (i := 2) (ty := 5) (off := 2) (by kernel_rfl) (by kernel_rfl) hyl hf)
    obtain ⟨a3, rfl, _⟩ := int_read Try.underlying3 (field_read (T := 30) (i := 3) (ty := 3) (off := 3) (by kernel_rfl) (by kernel_rfl) hyl hf)
    obtain ⟨y4, h4⟩ := field_read (T := 30) (i := 4) (ty := 28) (off := 4) (by kernel_rfl) (by kernel_rfl) hyl hf
    obtain ⟨L, hL⟩ := open_seens h4
    obtain ⟨a5, rfl⟩ := bool_read Try.underlying4 (field_read (T := 30) (i := 5) (ty := 4) (off := 5) (by kernel_rfl) (by kernel_rfl) hyl hf)
    exact ⟨⟨a0, a1, a2, a3, c4, a5⟩, ⟨L, hL⟩, rfl⟩

/-- A net as an argument: what it reads as. -/
theorem open_net {r : Reach} {base : Nat} {v : Value} {x : DataW H × List MemPlace} (hv : Value.okWide Try.prog w r base 25 v) (h : ∃ fu, DataW.trod enc Try.prog w 0 (fun _ => true) true fu 25 v.cells.toList = some x) :
    ∃ (n : NetV) (va vt : Value), v = netv va vt ∧ NetIs w va vt n := by
  have hs : Try.prog.underlying 25 = some (.struct (Try.prog.fieldsOf 25)) := by kernel_rfl
  obtain ⟨fu, h⟩ := h
  obtain ⟨cs, rfl, hsz⟩ := okWide_struct hs hv
  rw [show Try.prog.cellsOf 25 = 2 by kernel_rfl] at hsz
  rw [show (Value.agg cs).cells.toList = cs.toList from rfl] at h
  obtain ⟨ys, n', hn', hy, hlen, hyl, hf⟩ := DataW.trod_struct hs h
  obtain ⟨c0, c1, rfl⟩ : ∃ c0 c1, cs = #[c0, c1] := by
    obtain ⟨l⟩ := cs
    match l, hsz with
    | [c0, c1], _ => exact ⟨c0, c1, rfl⟩
  obtain ⟨y0, h0⟩ := field_read (T := 25) (i := 0) (ty := 22) (off := 0) (by kernel_rfl) (by kernel_rfl) hyl hf
  obtain ⟨y1, h1⟩ := field_read (T := 25) (i := 1) (ty := 23) (off := 1) (by kernel_rfl) (by kernel_rfl) hyl hf
  obtain ⟨l, hl, _⟩ := open_rows (k := 6) (en := encA) Try.underlying22 (by kernel_rfl) (by decide) encA_len read_ask h0
  obtain ⟨ms, hm, hms⟩ := open_rows (k := 6) (en := encT) Try.underlying23 (by kernel_rfl) (by decide) encT_len read_tell h1
  obtain ⟨ts, htl, hts⟩ := list_of (Q := fun i (t : TellV) => ∀ m, ms[i]? = some m → TellIs w m t) ms.length (fun i hi => by
    obtain ⟨m, hmi⟩ := get_lt hi
    obtain ⟨L, hL⟩ := hms m (mem_get hmi)
    exact ⟨m.val L, fun m' hm' => by rw [hmi] at hm'; cases hm'; exact ⟨hL, rfl⟩⟩)
  exact ⟨⟨l, ts⟩, c0, c1, rfl, hl, ms, hm, htl.symm, fun i m t h1 h2 => hts i t h2 m h1⟩

/-- An Ask as an argument. -/
theorem open_ask {r : Reach} {base : Nat} {v : Value} {x : DataW H × List MemPlace} (hv : Value.okWide Try.prog w r base 27 v) (h : ∃ fu, DataW.trod enc Try.prog w 0 (fun _ => true) true fu 27 v.cells.toList = some x) : ∃ a : AskV, v = aggA a := by
  have hs : Try.prog.underlying 27 = some (.struct (Try.prog.fieldsOf 27)) := by kernel_rfl
  obtain ⟨fu, h⟩ := h
  obtain ⟨cs, rfl, hsz⟩ := okWide_struct hs hv
  rw [show (Value.agg cs).cells.toList = cs.toList from rfl] at h
  obtain ⟨a, _, ha⟩ := read_ask _ _ _ h
  refine ⟨a, ?_⟩
  obtain ⟨l⟩ := cs
  simp only at ha
  subst ha
  rfl
/-- A Tell as an argument. -/
theorem open_tell {r : Reach} {base : Nat} {v : Value} {x : DataW H × List MemPlace} (hv : Value.okWide Try.prog w r base 30 v) (h : ∃ fu, DataW.trod enc Try.prog w 0 (fun _ => true) true fu 30 v.cells.toList = some x) : ∃ (m : TellM) (L : List SeenV), v = aggT m ∧ RowN w m.sv L := by
  have hs : Try.prog.underlying 30 = some (.struct (Try.prog.fieldsOf 30)) := by kernel_rfl
  obtain ⟨fu, h⟩ := h
  obtain ⟨cs, rfl, hsz⟩ := okWide_struct hs hv
  rw [show (Value.agg cs).cells.toList = cs.toList from rfl] at h
  obtain ⟨m, ⟨L, hL⟩, hm⟩ := read_tell _ _ _ h
  refine ⟨m, L, ?_, hL⟩
  obtain ⟨l⟩ := cs
  simp only at hm
  subst hm
  rfl
end
end Go.Proofs.Ythnlppbfmmiioaa
