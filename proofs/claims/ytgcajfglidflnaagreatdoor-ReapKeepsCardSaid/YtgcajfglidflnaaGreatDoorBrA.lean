/- Brains in memory: what their rows are, how a brain is loaded; rows in blocks of a type. -/
import Derived.Test.YtgcajfglidflnaaGreatDoorAow
import Derived.WideKeyElems
import Derived.Maps.Own
import Derived.Laws.Rows
import Derived.TacticsIn
import Derived.Deep.MidRow
import Derived.Deep.RegionHeld3
import Derived.Deep.RegionLaw
namespace Go.Proofs.YtgcajfglidflnaaGreatDoor
open Go.RowKit Go.Shelf

def in8 (n : Int) : Prop := 0 ≤ n ∧ n ≤ 255
structure IntentV where
 token : Int
 version : Int
 zone : Int
 warm : Bool
def encIn (x : IntentV) : List Value := [.int .i64 x.token, .int .i64 x.version, .int .i64 x.zone, .bool x.warm]
theorem encIn_len (x : IntentV) : (encIn x).length = 4 := rfl
structure KeptV where
 id : Int
 token : Int
 version : Int
 zone : Int
 phase : Int
 since : Int
 guarded : Bool
 complete : Bool
def encKp (x : KeptV) : List Value := [.int .i64 x.id, .int .i64 x.token, .int .i64 x.version, .int .i64 x.zone, .int .u8 x.phase, .int .i64 x.since, .bool x.guarded, .bool x.complete]
theorem encKp_len (x : KeptV) : (encKp x).length = 8 := rfl
theorem rowI {w : World} {b off : Nat} {l : List IntentV} (h : RowAt 4 encIn w b off l) {i : Nat} {x : IntentV} (hi : l[i]? = some x) :
  w.cell? ⟨b, off + i * 4, none⟩ = some (.int .i64 x.token) ∧ w.cell? ⟨b, off + i * 4 + 1, none⟩ = some (.int .i64 x.version) ∧ w.cell? ⟨b, off + i * 4 + 2, none⟩ = some (.int .i64 x.zone) ∧ w.cell? ⟨b, off + i * 4 + 3, none⟩ = some (.bool x.warm) :=
 ⟨h i x hi 0 _ rfl, h i x hi 1 _ rfl, h i x hi 2 _ rfl, h i x hi 3 _ rfl⟩
theorem rowK {w : World} {b off : Nat} {l : List KeptV} (h : RowAt 8 encKp w b off l) {i : Nat} {x : KeptV} (hi : l[i]? = some x) :
  w.cell? ⟨b, off + i * 8, none⟩ = some (.int .i64 x.id) ∧ w.cell? ⟨b, off + i * 8 + 1, none⟩ = some (.int .i64 x.token) ∧ w.cell? ⟨b, off + i * 8 + 2, none⟩ = some (.int .i64 x.version) ∧ w.cell? ⟨b, off + i * 8 + 3, none⟩ = some (.int .i64 x.zone) ∧
  w.cell? ⟨b, off + i * 8 + 4, none⟩ = some (.int .u8 x.phase) ∧ w.cell? ⟨b, off + i * 8 + 5, none⟩ = some (.int .i64 x.since) ∧ w.cell? ⟨b, off + i * 8 + 6, none⟩ = some (.bool x.guarded) ∧ w.cell? ⟨b, off + i * 8 + 7, none⟩ = some (.bool x.complete) :=
 ⟨h i x hi 0 _ rfl, h i x hi 1 _ rfl, h i x hi 2 _ rfl, h i x hi 3 _ rfl, h i x hi 4 _ rfl, h i x hi 5 _ rfl, h i x hi 6 _ rfl, h i x hi 7 _ rfl⟩
/-- A brain: its 27 cells; where its Intents, its Kept are. -/
def BC (cs : Array Value) (iv kv : Value) : Prop := cs.size = 27 ∧ cs[18]? = some iv ∧ cs[19]? = some kv
/-- A block holds a brain. -/
def BB (W : World) (b : Nat) (cs : Array Value) : Prop := W.heap[b]? = some (.cells cs 33)
theorem BB.two {W : World} {b : Nat} {cs : Array Value} {iv kv : Value} (h : BB W b cs) (hc : BC cs iv kv) : W.cell? ⟨b, 18, none⟩ = some iv ∧ W.cell? ⟨b, 19, none⟩ = some kv ∧ (∀ j, W.frozen? ⟨b, j, none⟩ = false) ∧ b < W.heap.size := ⟨(blk_cell h 18).trans hc.2.1, (blk_cell h 19).trans hc.2.2, blk_free h, blk_lt h⟩
theorem BB.below {W W1 : World} {b B : Nat} {cs : Array Value} (h : BB W b cs) (hb : Below B W W1) (hB : b < B) : BB W1 b cs := blk_below h hb hB
theorem BB.new (w : World) (cs : Array Value) : BB (w.alloc (.cells cs 33)) w.heap.size cs := heap_new w _
theorem brain_size {cs : Array Value} {iv kv : Value} (hc : BC cs iv kv) : (Tryz.prog.info? 33).map (·.size) = some cs.size := by rw [hc.1]; kernel_rfl
theorem brain_under : Tryz.prog.underlying 33 = some (.struct (Tryz.prog.fieldsOf 33)) := by kernel_rfl
/-- The load of a whole brain, for the walk's simp. -/
theorem BB.load {W : World} {b : Nat} {cs : Array Value} {iv kv : Value} (h : BB W b cs) (hc : BC cs iv kv) : (loadVar 33 ⟨b, 0, none⟩).run Tryz.prog W = .ok (.agg cs) W := run_loadVar_row W b 33 33 cs _ _ h brain_under rfl (brain_size hc)
/-- What a load is of any other type: laid open; of a brain it stays. -/
theorem load_other (t : TypeId) (a : Addr) (_h : t ≠ 33) : loadVar t a = isAgg t >>= fun b => if b = true then sizeOf t >>= fun n => loadCells a n >>= fun c => pure (.agg c) else load a := by unfold loadVar; rfl
theorem list27 (l : List Value) (h : l.length = 27) : ∃ c0 c1 c2 c3 c4 c5 c6 c7 c8 c9 c10 c11 c12 c13 c14 c15 c16 c17 c18 c19 c20 c21 c22 c23 c24 c25 c26 : Value, l = [c0, c1, c2, c3, c4, c5, c6, c7, c8, c9, c10, c11, c12, c13, c14, c15, c16, c17, c18, c19, c20, c21, c22, c23, c24, c25, c26] := by
 match l, h with
 | [c0, c1, c2, c3, c4, c5, c6, c7, c8, c9, c10, c11, c12, c13, c14, c15, c16, c17, c18, c19, c20, c21, c22, c23, c24, c25, c26], _ => exact ⟨c0, c1, c2, c3, c4, c5, c6, c7, c8, c9, c10, c11, c12, c13, c14, c15, c16, c17, c18, c19, c20, c21, c22, c23, c24, c25, c26, rfl⟩
theorem below_call {a V W : World} (h1 : Below a.heap.size a V) (h2 : Below V.heap.size V W) : Below a.heap.size a W := h1.trans (h2.mono h1.size)
theorem below_alloc {a V : World} (h : Below a.heap.size a V) (o : Obj) : Below a.heap.size a (V.alloc o) := h.alloc h.size o
def encI (x : Int) : List Value := [.int .i64 x]
/-- A group's cells. -/
def confA (f : Nat → Int) (g : Bool) (m : Value) : Array Value := #[.int .i64 (f 0), .int .i64 (f 1), .int .i64 (f 2), .int .i64 (f 3), .int .i64 (f 4), .int .i64 (f 5), .int .i64 (f 6), .int .i64 (f 7), .int .i64 (f 8), .int .i64 (f 9), .int .i64 (f 10), .int .i64 (f 11), .int .i64 (f 12), .bool g, m]
theorem conf_size (f : Nat → Int) (g : Bool) (m : Value) : (Tryz.prog.info? 27).map (·.size) = some (confA f g m).size := by rw [show (confA f g m).size = 15 from rfl]; kernel_rfl
theorem conf_under : Tryz.prog.underlying 27 = some (.struct (Tryz.prog.fieldsOf 27)) := by kernel_rfl
theorem load_conf {W : World} {b : Nat} {t : TypeId} {f : Nat → Int} {g : Bool} {m : Value} (h : W.heap[b]? = some (.cells (confA f g m) t)) : (loadVar 27 ⟨b, 0, none⟩).run Tryz.prog W = .ok (.agg (confA f g m)) W :=
 run_loadVar_row W b t 27 _ _ _ h conf_under rfl (conf_size f g m)
theorem load_other2 (t : TypeId) (a : Addr) (_h : t ≠ 27) : loadVar t a = isAgg t >>= fun b => if b = true then sizeOf t >>= fun n => loadCells a n >>= fun c => pure (.agg c) else load a := by unfold loadVar; rfl
theorem rowN1 {w : World} {b off : Nat} {l : List Int} (h : RowAt 1 encI w b off l) {i : Nat} {x : Int} (hi : l[i]? = some x) : w.cell? ⟨b, off + i, none⟩ = some (.int .i64 x) := by
 have := h i x hi 0 _ rfl
 simpa using this
/-- A brain's cells. -/
def brT (f : Nat → Int) (g : Nat → Bool) (mv iv kv : Value) : Array Value := #[.int .i64 (f 0), .int .i64 (f 1), .bool (g 2), .int .i64 (f 3), .int .i64 (f 4), .int .i64 (f 5), .int .i64 (f 6), .int .i64 (f 7), .int .i64 (f 8), .int .i64 (f 9), .int .i64 (f 10), .int .i64 (f 11), .int .i64 (f 12), .int .i64 (f 13), .int .i64 (f 14), .int .i64 (f 15), .bool (g 16), mv, iv, kv, .int .u8 (f 20), .int .i64 (f 21), .int .i64 (f 22), .int .i64 (f 23), .bool (g 24), .int .i64 (f 25), .int .i64 (f 26)]
theorem brT_bc (f : Nat → Int) (g : Nat → Bool) (mv iv kv : Value) : BC (brT f g mv iv kv) iv kv := ⟨rfl, rfl, rfl⟩
theorem load_mid {W : World} {b : Nat} {f : Nat → Int} {g : Nat → Bool} {mv iv kv : Value} (h : BB W b (brT f g mv iv kv)) : (loadVar 27 ⟨b, 3, none⟩).run Tryz.prog W = .ok (.agg (confA (fun i => f (i + 3)) (g 16) mv)) W := by
 have hr := World.rangeAt_of_block h 3 15
 have := run_loadVar_mid (P := Tryz.prog) W b 3 27 _ _ hr conf_under rfl (by rw [show ((brT f g mv iv kv).extract 3 (3 + 15)).toList.length = 15 from rfl]; kernel_rfl)
 exact this
section
variable {α : Type} {t e : TypeId} {k : Nat} {enc : α → List Value} {W W' : World} {v : Value} {l : List α} {base : Nat}
/-- A slice reads as a list, out of a block of a type. -/
def TRow {α : Type} (t : TypeId) (k : Nat) (enc : α → List Value) (W : World) (v : Value) (l : List α) : Prop :=
 ∃ a c, v = .slice a l.length c ∧ l.length ≤ c ∧ c ≤ maxLen ∧ (a = none → c = 0) ∧ (0 < l.length → ∃ b off cur, a = some ⟨b, off, none⟩ ∧ W.heap[b]? = some (.cells cur t) ∧ RowAt k enc W b off l)
theorem TRow.row (h : TRow t k enc W v l) : RowOf k enc W v l := by
 obtain ⟨a, c, rfl, h1, h2, h3, h4⟩ := h
 rcases Nat.eq_zero_or_pos l.length with h0 | h0
 ·have : l = [] := List.eq_nil_of_length_eq_zero h0
  subst this
  exact .inl ⟨a, c, rfl, rfl, h3, h2⟩
 ·obtain ⟨b, off, cur, rfl, hb, hr⟩ := h4 h0
  exact .inr ⟨h0, b, off, c, rfl, h1, h2, blk_lt hb, hr⟩
theorem RowAt.same {b off : Nat} (h : RowAt k enc W b off l) (hb : W'.heap[b]? = W.heap[b]?) : RowAt k enc W' b off l :=
 fun i x hi j u hj => (World.cell?_of_block (w := W) hb).trans (h i x hi j u hj)
/-- All blocks of a type lie as they lay. -/
def KeptT (t : TypeId) (W W' : World) : Prop := ∀ (b : Nat) (cur : Array Value), W.heap[b]? = some (.cells cur t) → W'.heap[b]? = some (.cells cur t)
theorem KeptT.refl : KeptT t W W := fun _ _ h => h
theorem KeptT.trans {W2 : World} (h : KeptT t W W') (h2 : KeptT t W' W2) : KeptT t W W2 := fun b c q => h2 b c (h b c q)
theorem KeptT.below (h : Below W.heap.size W W') : KeptT t W W' := fun _ _ q => blk_below q h (blk_lt q)
theorem KeptT.grown {row : Option Nat} (hg : W.grownBy W' row) (hr : ∀ r, row = some r → ∃ c, W.heap[r]? = some (.cells c e)) (hne : e ≠ t) : KeptT t W W' := fun b c q =>
 blk_grown q hg (fun h => by obtain ⟨c', hc⟩ := hr b h.symm; rw [q] at hc; cases hc; exact hne rfl)
theorem KeptT.set {p : Addr} {c : Array Value} (hp : W.heap[p.block]? = some (.cells c e)) (hne : e ≠ t) (u : Value) : KeptT t W (W.setCell p u) := fun b c' q => by
 refine blk_other q (fun h => ?_) u
 rw [h, hp] at q
 cases q
 exact hne rfl
theorem TRow.kept (h : TRow t k enc W v l) (hk : KeptT t W W') : TRow t k enc W' v l := by
 obtain ⟨a, c, rfl, h1, h2, h3, h4⟩ := h
 refine ⟨a, c, rfl, h1, h2, h3, fun h0 => ?_⟩
 obtain ⟨b, off, cur, rfl, hb, hr⟩ := h4 h0
 exact ⟨b, off, cur, rfl, hk b cur hb, hr.same ((hk b cur hb).trans hb.symm)⟩
theorem Owns.trow (h : Owns k t enc W base v l) (hk : ∀ x, (enc x).length = k) (hk0 : 0 < k) : TRow t k enc W v l := by
 have hr := h.row hk hk0
 obtain ⟨_, ⟨rfl, h0⟩ | ⟨g, cap, cur, rfl, _, hgc, hlc, hcm, _, _⟩⟩ := h
 ·obtain rfl : l = [] := List.eq_nil_of_length_eq_zero h0
  exact ⟨none, 0, rfl, Nat.zero_le _, by decide, fun _ => rfl, fun h => by simp at h⟩
 ·refine ⟨_, cap, rfl, hlc, hcm, (fun h => by cases h), fun h0 => ⟨g, 0, cur, rfl, hgc, ?_⟩⟩
  obtain ⟨a', c', he, _, _, _, ho⟩ := hr.open
  cases he
  obtain ⟨b, off, hb, _, hr⟩ := ho h0
  cases hb
  exact hr
end
theorem Owns.typed {α : Type} {k : Nat} {e : TypeId} {enc : α → List Value} {W : World} {base : Nat} {v : Value} {l : List α} (h : Owns k e enc W base v l) : ∀ r, v.ownBlock = some r → ∃ c, W.heap[r]? = some (.cells c e) := by
 obtain ⟨_, ⟨rfl, _⟩ | ⟨g, cap, cur, rfl, _, hgc, _⟩⟩ := h
 ·intro r e; cases e
 ·intro r e; cases e; exact ⟨_, hgc⟩
end Go.Proofs.YtgcajfglidflnaaGreatDoor
