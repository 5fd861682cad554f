/- The values of package net: asks, boxes that are seen, answers, what is on its way; and how they lie in memory. -/
import Derived.Test.YthnlppbfmmiioaaOwn2
namespace Go.Proofs.Ythnlppbfmmiioaa
open Go.RowKit Go.Shelf

def in64 (n : Int) : Prop := -9223372036854775808 ≤ n ∧ n ≤ 9223372036854775807
def in8 (n : Int) : Prop := 0 ≤ n ∧ n ≤ 255

structure AskV where
  kind : Int
  call : Int
  a : Int
  b : Int
  c : Int
  d : Int

def encA (x : AskV) : List Value := [.int .u8 x.kind, .int .i64 x.call, .int .i64 x.a, .int .i64 x.b, .int .i64 x.c, .int .i64 x.d]
def aggA (x : AskV) : Value := .agg #[.int .u8 x.kind, .int .i64 x.call, .int .i64 x.a, .int .i64 x.b, .int .i64 x.c, .int .i64 x.d]
theorem encA_len (x : AskV) : (encA x).length = 6 := rfl
theorem encA_one (x : AskV) : ∀ u ∈ encA x, u.oneCell' = true := by
  intro u hu
  simp only [encA, List.mem_cons, List.mem_nil_iff, or_false] at hu
  rcases hu with rfl | rfl | rfl | rfl | rfl | rfl <;> rfl
def sameA (x y : AskV) : Bool := x.kind == y.kind && (x.call == y.call && (x.a == y.a && (x.b == y.b && (x.c == y.c && (x.d == y.d)))))
theorem sameA_iff {x y : AskV} : sameA x y = true ↔ x = y := by
  cases x; cases y; simp [sameA]
theorem sameA_self (x : AskV) : sameA x x = true := sameA_iff.2 rfl
instance : DecidableEq AskV := fun a b => decidable_of_iff (sameA a b = true) sameA_iff
def AskV.wf (x : AskV) : Prop := in8 x.kind ∧ in64 x.call ∧ in64 x.a ∧ in64 x.b ∧ in64 x.c ∧ in64 x.d
theorem infoA : (Try.prog.info? 27).map (fun i => (i.zero, i.size, i.bytes)) = some (some (.agg #[.int .u8 0, .int .i64 0, .int .i64 0, .int .i64 0, .int .i64 0, .int .i64 0]), 6, 48) := by kernel_rfl
theorem rowA {w : World} {b off : Nat} {l : List AskV} (h : RowAt 6 encA w b off l) {i : Nat} {x : AskV} (hi : l[i]? = some x) :
    w.cell? ⟨b, off + i * 6, none⟩ = some (.int .u8 x.kind) ∧ w.cell? ⟨b, off + i * 6 + 1, none⟩ = some (.int .i64 x.call) ∧ w.cell? ⟨b, off + i * 6 + 2, none⟩ = some (.int .i64 x.a) ∧ w.cell? ⟨b, off + i * 6 + 3, none⟩ = some (.int .i64 x.b) ∧ w.cell? ⟨b, off + i * 6 + 4, none⟩ = some (.int .i64 x.c) ∧ w.cell? ⟨b, off + i * 6 + 5, none⟩ = some (.int .i64 x.d) :=
  ⟨h i x hi 0 _ rfl, h i x hi 1 _ rfl, h i x hi 2 _ rfl, h i x hi 3 _ rfl, h i x hi 4 _ rfl, h i x hi 5 _ rfl⟩

structure SeenV where
  id : Int
  token : Int
  version : Int
  zone : Int
  on : Bool
  well : Bool
  inn : Bool

def encN (x : SeenV) : List Value := [.int .i64 x.id, .int .i64 x.token, .int .i64 x.version, .int .i64 x.zone, .bool x.on, .bool x.well, .bool x.inn]
def aggN (x : SeenV) : Value := .agg #[.int .i64 x.id, .int .i64 x.token, .int .i64 x.version, .int .i64 x.zone, .bool x.on, .bool x.well, .bool x.inn]
theorem encN_len (x : SeenV) : (encN x).length = 7 := rfl
theorem encN_one (x : SeenV) : ∀ u ∈ encN x, u.oneCell' = true := by
  intro u hu
  simp only [encN, List.mem_cons, List.mem_nil_iff, or_false] at hu
  rcases hu with rfl | rfl | rfl | rfl | rfl | rfl | rfl <;> rfl
def sameN (x y : SeenV) : Bool := x.id == y.id && (x.token == y.token && (x.version == y.version && (x.zone == y.zone && (x.on == y.on && (x.well == y.well && (x.inn == y.inn))))))
theorem sameN_iff {x y : SeenV} : sameN x y = true ↔ x = y := by
  cases x; cases y; simp [sameN]
theorem sameN_self (x : SeenV) : sameN x x = true := sameN_iff.2 rfl
instance : DecidableEq SeenV := fun a b => decidable_of_iff (sameN a b = true) sameN_iff
def SeenV.wf (x : SeenV) : Prop := in64 x.id ∧ in64 x.token ∧ in64 x.version ∧ in64 x.zone
theorem infoN : (Try.prog.info? 51).map (fun i => (i.zero, i.size, i.bytes)) = some (some (.agg #[.int .i64 0, .int .i64 0, .int .i64 0, .int .i64 0, .bool false, .bool false, .bool false]), 7, 40) := by kernel_rfl
theorem rowN {w : World} {b off : Nat} {l : List SeenV} (h : RowAt 7 encN w b off l) {i : Nat} {x : SeenV} (hi : l[i]? = some x) :
    w.cell? ⟨b, off + i * 7, none⟩ = some (.int .i64 x.id) ∧ w.cell? ⟨b, off + i * 7 + 1, none⟩ = some (.int .i64 x.token) ∧ w.cell? ⟨b, off + i * 7 + 2, none⟩ = some (.int .i64 x.version) ∧ w.cell? ⟨b, off + i * 7 + 3, none⟩ = some (.int .i64 x.zone) ∧ w.cell? ⟨b, off + i * 7 + 4, none⟩ = some (.bool x.on) ∧ w.cell? ⟨b, off + i * 7 + 5, none⟩ = some (.bool x.well) ∧ w.cell? ⟨b, off + i * 7 + 6, none⟩ = some (.bool x.inn) :=
  ⟨h i x hi 0 _ rfl, h i x hi 1 _ rfl, h i x hi 2 _ rfl, h i x hi 3 _ rfl, h i x hi 4 _ rfl, h i x hi 5 _ rfl, h i x hi 6 _ rfl⟩

set_option maxHeartbeats 4000000 in
theorem neqA_run (x y : AskV) (w : World) : (binOp .neq 27 (.agg #[.int .u8 x.kind, .int .i64 x.call, .int .i64 x.a, .int .i64 x.b, .int .i64 x.c, .int .i64 x.d]) (.agg #[.int .u8 y.kind, .int .i64 y.call, .int .i64 y.a, .int .i64 y.b, .int .i64 y.c, .int .i64 y.d])).run Try.prog w = .ok (.bool (!sameA x y)) w := by
  simp [go_sem]
  by_cases h0 : x.kind = y.kind <;> by_cases h1 : x.call = y.call <;> by_cases h2 : x.a = y.a <;> by_cases h3 : x.b = y.b <;> by_cases h4 : x.c = y.c <;> by_cases h5 : x.d = y.d <;> simp [sameA, h0, h1, h2, h3, h4, h5]

set_option maxHeartbeats 4000000 in
theorem eqlA_run (x y : AskV) (w : World) : (binOp .eql 27 (.agg #[.int .u8 x.kind, .int .i64 x.call, .int .i64 x.a, .int .i64 x.b, .int .i64 x.c, .int .i64 x.d]) (.agg #[.int .u8 y.kind, .int .i64 y.call, .int .i64 y.a, .int .i64 y.b, .int .i64 y.c, .int .i64 y.d])).run Try.prog w = .ok (.bool (sameA x y)) w := by
  simp [go_sem]
  by_cases h0 : x.kind = y.kind <;> by_cases h1 : x.call = y.call <;> by_cases h2 : x.a = y.a <;> by_cases h3 : x.b = y.b <;> by_cases h4 : x.c = y.c <;> by_cases h5 : x.d = y.d <;> simp [sameA, h0, h1, h2, h3, h4, h5]

set_option maxHeartbeats 4000000 in
theorem neqN_run (x y : SeenV) (w : World) : (binOp .neq 51 (.agg #[.int .i64 x.id, .int .i64 x.token, .int .i64 x.version, .int .i64 x.zone, .bool x.on, .bool x.well, .bool x.inn]) (.agg #[.int .i64 y.id, .int .i64 y.token, .int .i64 y.version, .int .i64 y.zone, .bool y.on, .bool y.well, .bool y.inn])).run Try.prog w = .ok (.bool (!sameN x y)) w := by
  simp [go_sem]
  by_cases h0 : x.id = y.id <;> by_cases h1 : x.token = y.token <;> by_cases h2 : x.version = y.version <;> by_cases h3 : x.zone = y.zone <;> by_cases h4 : x.on = y.on <;> by_cases h5 : x.well = y.well <;> by_cases h6 : x.inn = y.inn <;> simp [sameN, h0, h1, h2, h3, h4, h5, h6]

structure TellM where
  call : Int
  kind : Int
  code : Int
  id : Int
  sv : Value
  more : Bool

def encT (x : TellM) : List Value := [.int .i64 x.call, .int .u8 x.kind, .int .u8 x.code, .int .i64 x.id, x.sv, .bool x.more]
def aggT (x : TellM) : Value := .agg #[.int .i64 x.call, .int .u8 x.kind, .int .u8 x.code, .int .i64 x.id, x.sv, .bool x.more]
theorem encT_len (x : TellM) : (encT x).length = 6 := rfl
theorem infoT : (Try.prog.info? 30).map (fun i => (i.zero, i.size, i.bytes)) = some (some (.agg #[.int .i64 0, .int .u8 0, .int .u8 0, .int .i64 0, .slice none 0 0, .bool false]), 6, 56) := by kernel_rfl
theorem rowT {w : World} {b off : Nat} {l : List TellM} (h : RowAt 6 encT w b off l) {i : Nat} {x : TellM} (hi : l[i]? = some x) :
    w.cell? ⟨b, off + i * 6, none⟩ = some (.int .i64 x.call) ∧ w.cell? ⟨b, off + i * 6 + 1, none⟩ = some (.int .u8 x.kind) ∧ w.cell? ⟨b, off + i * 6 + 2, none⟩ = some (.int .u8 x.code) ∧ w.cell? ⟨b, off + i * 6 + 3, none⟩ = some (.int .i64 x.id) ∧ w.cell? ⟨b, off + i * 6 + 4, none⟩ = some (x.sv) ∧ w.cell? ⟨b, off + i * 6 + 5, none⟩ = some (.bool x.more) :=
  ⟨h i x hi 0 _ rfl, h i x hi 1 _ rfl, h i x hi 2 _ rfl, h i x hi 3 _ rfl, h i x hi 4 _ rfl, h i x hi 5 _ rfl⟩

theorem encT_one (x : TellM) (h : x.sv.oneCell' = true) : ∀ u ∈ encT x, u.oneCell' = true := by
  intro u hu
  simp only [encT, List.mem_cons, List.mem_nil_iff, or_false] at hu
  rcases hu with rfl | rfl | rfl | rfl | rfl | rfl <;> first | rfl | exact h

/-- An answer. -/
structure TellV where
  call : Int
  kind : Int
  code : Int
  id : Int
  seen : List SeenV
  more : Bool
def TellV.wf (x : TellV) : Prop := in64 x.call ∧ in8 x.kind ∧ in8 x.code ∧ in64 x.id ∧ ∀ y ∈ x.seen, y.wf
def TellM.val (m : TellM) (l : List SeenV) : TellV := ⟨m.call, m.kind, m.code, m.id, l, m.more⟩
def toldB (x y : TellV) : Bool := x.call == y.call && (x.kind == y.kind && (x.code == y.code && (x.id == y.id && (x.more == y.more && decide (x.seen = y.seen)))))
theorem toldB_iff {x y : TellV} : toldB x y = true ↔ x = y := by
  cases x; cases y
  simp only [toldB, Bool.and_eq_true, beq_iff_eq, decide_eq_true_eq, TellV.mk.injEq]
  constructor
  · rintro ⟨a, b, c, d, e, f⟩; exact ⟨a, b, c, d, f, e⟩
  · rintro ⟨a, b, c, d, e, f⟩; exact ⟨a, b, c, d, f, e⟩
theorem toldB_self (x : TellV) : toldB x x = true := toldB_iff.2 rfl
instance : DecidableEq TellV := fun a b => decidable_of_iff (toldB a b = true) toldB_iff

abbrev RowN := RowOf 7 encN
abbrev RowA := RowOf 6 encA
abbrev RowT := RowOf 6 encT
abbrev OwnN (w : World) (base : Nat) (v : Value) (l : List SeenV) : Prop := Owns 7 51 encN w base v l
abbrev OwnA (w : World) (base : Nat) (v : Value) (l : List AskV) : Prop := Owns 6 27 encA w base v l
abbrev OwnT (w : World) (base : Nat) (v : Value) (l : List TellM) : Prop := Owns 6 30 encT w base v l

/-- An answer in memory reads as one. -/
def TellIs (w : World) (m : TellM) (t : TellV) : Prop := RowN w m.sv t.seen ∧ m.val t.seen = t
/-- An answer in memory of the call's own. -/
def TellOwn (w : World) (base : Nat) (m : TellM) (t : TellV) : Prop := OwnN w base m.sv t.seen ∧ m.val t.seen = t
def TellsIs (w : World) (ms : List TellM) (l : List TellV) : Prop := ms.length = l.length ∧ ∀ (i : Nat) m t, ms[i]? = some m → l[i]? = some t → TellIs w m t
def TellsOwn (w : World) (base : Nat) (ms : List TellM) (l : List TellV) : Prop := ms.length = l.length ∧ ∀ (i : Nat) m t, ms[i]? = some m → l[i]? = some t → TellOwn w base m t

theorem TellOwn.is {w : World} {base : Nat} {m : TellM} {t : TellV} (h : TellOwn w base m t) : TellIs w m t := ⟨h.1.row encN_len (by decide), h.2⟩
theorem TellsOwn.is {w : World} {base : Nat} {ms : List TellM} {l : List TellV} (h : TellsOwn w base ms l) : TellsIs w ms l := ⟨h.1, fun i m t h1 h2 => (h.2 i m t h1 h2).is⟩
theorem TellIs.below {w w' : World} {m : TellM} {t : TellV} (h : TellIs w m t) (hB : Below w.heap.size w w') : TellIs w' m t := ⟨RowOf.below h.1 hB, h.2⟩
theorem TellsIs.below {w w' : World} {ms : List TellM} {l : List TellV} (h : TellsIs w ms l) (hB : Below w.heap.size w w') : TellsIs w' ms l := ⟨h.1, fun i m t h1 h2 => (h.2 i m t h1 h2).below hB⟩
theorem TellOwn.below {w w' : World} {base : Nat} {m : TellM} {t : TellV} (h : TellOwn w base m t) (hB : Below w.heap.size w w') : TellOwn w' base m t := ⟨Owns.below h.1 hB, h.2⟩
theorem TellsOwn.below {w w' : World} {base : Nat} {ms : List TellM} {l : List TellV} (h : TellsOwn w base ms l) (hB : Below w.heap.size w w') : TellsOwn w' base ms l := ⟨h.1, fun i m t h1 h2 => (h.2 i m t h1 h2).below hB⟩
theorem TellOwn.mono {w : World} {base base' : Nat} {m : TellM} {t : TellV} (h : TellOwn w base m t) (hb : base' ≤ base) : TellOwn w base' m t := ⟨h.1.mono hb, h.2⟩
theorem TellsOwn.mono {w : World} {base base' : Nat} {ms : List TellM} {l : List TellV} (h : TellsOwn w base ms l) (hb : base' ≤ base) : TellsOwn w base' ms l := ⟨h.1, fun i m t h1 h2 => (h.2 i m t h1 h2).mono hb⟩
theorem TellsOwn.nil (w : World) (base : Nat) : TellsOwn w base [] [] := ⟨rfl, fun i m t h => by simp at h⟩
theorem TellsOwn.snoc {w : World} {base : Nat} {ms : List TellM} {l : List TellV} {m : TellM} {t : TellV} (h : TellsOwn w base ms l) (h1 : TellOwn w base m t) : TellsOwn w base (ms ++ [m]) (l ++ [t]) := by
  refine ⟨by simp [h.1], fun i m' t' hm ht => ?_⟩
  by_cases hi : i < ms.length
  · rw [List.getElem?_append_left hi] at hm
    rw [List.getElem?_append_left (by rw [← h.1]; exact hi)] at ht
    exact h.2 i m' t' hm ht
  · have hlt := lt_get hm
    simp at hlt
    have : i = ms.length := by omega
    subst this
    rw [List.getElem?_append_right (Nat.le_refl _), Nat.sub_self] at hm
    rw [h.1, List.getElem?_append_right (Nat.le_refl _), Nat.sub_self] at ht
    simp at hm ht
    subst hm; subst ht; exact h1

/-- What is on its way. -/
structure NetV where
  asks : List AskV
  tells : List TellV
def NetV.wf (n : NetV) : Prop := (∀ x ∈ n.asks, x.wf) ∧ ∀ x ∈ n.tells, x.wf
def netv (a t : Value) : Value := .agg #[a, t]
/-- A net in memory: its two slices, and the answers' own slices. -/
def NetIs (w : World) (va vt : Value) (n : NetV) : Prop := RowA w va n.asks ∧ ∃ ms, RowT w vt ms ∧ TellsIs w ms n.tells
def NetOwn (w : World) (base : Nat) (va vt : Value) (n : NetV) : Prop := OwnA w base va n.asks ∧ ∃ ms, OwnT w base vt ms ∧ TellsOwn w base ms n.tells
theorem NetIs.below {w w' : World} {va vt : Value} {n : NetV} (h : NetIs w va vt n) (hB : Below w.heap.size w w') : NetIs w' va vt n := by
  obtain ⟨h1, ms, h2, h3⟩ := h
  exact ⟨RowOf.below h1 hB, ms, RowOf.below h2 hB, h3.below hB⟩
theorem NetOwn.below {w w' : World} {base : Nat} {va vt : Value} {n : NetV} (h : NetOwn w base va vt n) (hB : Below w.heap.size w w') : NetOwn w' base va vt n := by
  obtain ⟨h1, ms, h2, h3⟩ := h
  exact ⟨Owns.below h1 hB, ms, Owns.below h2 hB, h3.below hB⟩
theorem NetOwn.mono {w : World} {base base' : Nat} {va vt : Value} {n : NetV} (h : NetOwn w base va vt n) (hb : base' ≤ base) : NetOwn w base' va vt n := by
  obtain ⟨h1, ms, h2, h3⟩ := h
  exact ⟨Owns.mono h1 hb, ms, Owns.mono h2 hb, h3.mono hb⟩
theorem NetOwn.is {w : World} {base : Nat} {va vt : Value} {n : NetV} (h : NetOwn w base va vt n) : NetIs w va vt n := by
  obtain ⟨h1, ms, h2, h3⟩ := h
  exact ⟨h1.row encA_len (by decide), ms, h2.row encT_len (by decide), h3.is⟩
end Go.Proofs.Ythnlppbfmmiioaa
