
/- Calls in memory. What the document says of calls, in Lean. -/
import Derived.Test.YthhgpiolcnojfaaDoorCfm
import Derived.Test.YthhgpiolcnojfaaDoorWd
namespace Go.Proofs.YthhgpiolcnojfaaDoor
open Go.RowKit Go.Shelf

structure CallV where
  id : Int
  kind : Int
  key : Int
  sent : Int

instance : DecidableEq CallV := fun a b =>
  decidable_of_iff (a.id = b.id ∧ a.kind = b.kind ∧ a.key = b.key ∧ a.sent = b.sent)
    ⟨fun h => by cases a; cases b; simp_all, fun h => by subst h; exact ⟨rfl, rfl, rfl, rfl⟩⟩

def encC (x : CallV) : List Value := [.int .i64 x.id, .int .u8 x.kind, .int .i64 x.key, .int .i64 x.sent]
def encS (x : CallV) : Value := .agg #[.int .i64 x.id, .int .u8 x.kind, .int .i64 x.key, .int .i64 x.sent]

structure CallsV where
  epoch : Int
  next : Int
  opens : List CallV

def calls (epoch next : Int) (s : Value) : Value := .agg #[.int .i64 epoch, .int .i64 next, s]

abbrev Row12 := RowOf 4 encC

/-- A value that reads as calls. -/
def CallsAt (w : World) (v : Value) (c : CallsV) : Prop := ∃ s, v = calls c.epoch c.next s ∧ Row12 w s c.opens

def CallV.wf (x : CallV) : Prop := in64 x.id ∧ in8 x.kind ∧ in64 x.key ∧ in64 x.sent
def CallsV.wf (c : CallsV) : Prop := in64 c.epoch ∧ in64 c.next ∧ ∀ x ∈ c.opens, x.wf

theorem row4 {w : World} {b off : Nat} {l : List CallV} (h : RowAt 4 encC w b off l) {i : Nat} {x : CallV} (hi : l[i]? = some x) :
    w.cell? ⟨b, off + i * 4, none⟩ = some (.int .i64 x.id) ∧ w.cell? ⟨b, off + i * 4 + 1, none⟩ = some (.int .u8 x.kind) ∧
    w.cell? ⟨b, off + i * 4 + 2, none⟩ = some (.int .i64 x.key) ∧ w.cell? ⟨b, off + i * 4 + 3, none⟩ = some (.int .i64 x.sent) :=
  ⟨h i x hi 0 _ rfl, h i x hi 1 _ rfl, h i x hi 2 _ rfl, h i x hi 3 _ rfl⟩

def hasB (l : List CallV) (kd ky : Int) : Bool := l.any fun x => x.kind == kd && x.key == ky

theorem hasB_snoc (l : List CallV) (x : CallV) (kd ky : Int) : hasB (l ++ [x]) kd ky = (hasB l kd ky || (x.kind == kd && x.key == ky)) := by
  simp [hasB]
theorem hasB_take {l : List CallV} {kd ky : Int} {k : Nat} (h : hasB (l.take k) kd ky = true) : hasB l kd ky = true := by
  unfold hasB at *
  rw [List.any_eq_true] at *
  obtain ⟨x, hx, h⟩ := h
  exact ⟨x, List.mem_of_mem_take hx, h⟩
theorem hasB_at {l : List CallV} {kd ky : Int} {k : Nat} {x : CallV} (hx : l[k]? = some x) (h1 : x.kind = kd) (h2 : x.key = ky) : hasB l kd ky = true :=
  List.any_eq_true.2 ⟨x, mem_get hx, by simp [h1, h2]⟩
end Go.Proofs.YthhgpiolcnojfaaDoor
