import Derived.Test.YtljmhmdpihpafaaDoorTok
import Derived.Test.YtljmhmdpihpafaaDoorIsM
/- duty.ask: a duty's ask. -/
namespace Go.Proofs.YtljmhmdpihpafaaDoor
open Go.RowKit Go.Shelf

/-- A duty's ask. -/
def askV (I : List IntentV) (d : DutyV) (id : Int) : AskV :=
  if d.kind = 1 then match I.find? (fun x => x.token == d.key) with
    | some x => ⟨1, id, d.key, x.version, x.zone, if x.warm then 1 else 0⟩
    | none => ⟨1, id, d.key, 0, 0, 0⟩
  else ⟨d.kind, id, d.key, 0, 0, 0⟩
/-- The Intent of a launch is there. -/
def askOk (I : List IntentV) (d : DutyV) : Prop := d.kind = 1 → ∃ (k : Nat) (x : IntentV), I[k]? = some x ∧ tokI I d.key = (k : Int) ∧ I.find? (fun x => x.token == d.key) = some x
theorem tok_find {I : List IntentV} {t : Int} (h : ∃ x ∈ I, x.token = t) : ∃ (k : Nat) (x : IntentV), I[k]? = some x ∧ tokI I t = (k : Int) ∧ I.find? (fun x => x.token == t) = some x := by
  induction I with
  | nil => obtain ⟨x, hx, _⟩ := h; cases hx
  | cons y l ih =>
    by_cases hy : y.token = t
    · exact ⟨0, y, rfl, tokI_at (k := 0) (x := y) rfl hy (by simp), by simp [hy]⟩
    · obtain ⟨x, hx, hxt⟩ := h
      have hxl : x ∈ l := by
        rcases List.mem_cons.1 hx with rfl | h
        · exact absurd hxt hy
        · exact h
      obtain ⟨k, z, h1, h2, h3⟩ := ih ⟨x, hxl, hxt⟩
      refine ⟨k + 1, z, by simpa using h1, ?_, by simp [hy, h3]⟩
      unfold tokI at h2 ⊢
      rw [List.findIdx?_cons]
      have : (y.token == t) = false := by simpa using hy
      simp only [this, Bool.false_eq_true, if_false]
      cases hq : l.findIdx? (fun x => x.token == t) with
      | none => rw [hq] at h2; simp at h2
      | some i => rw [hq] at h2; simp at h2 ⊢; omega
theorem blk6 {W : World} {b : Nat} {c0 c1 c2 c3 c4 c5 : Value} {t : TypeId} (h : W.heap[b]? = some (.cells #[c0, c1, c2, c3, c4, c5] t)) :
    W.cell? ⟨b, 0, none⟩ = some c0 ∧ W.cell? ⟨b, 1, none⟩ = some c1 ∧ W.cell? ⟨b, 2, none⟩ = some c2 ∧ W.cell? ⟨b, 3, none⟩ = some c3 ∧ W.cell? ⟨b, 4, none⟩ = some c4 ∧ W.cell? ⟨b, 5, none⟩ = some c5 ∧ (∀ j, W.frozen? ⟨b, j, none⟩ = false) ∧ b < W.heap.size :=
  ⟨blk_cell h 0, blk_cell h 1, blk_cell h 2, blk_cell h 3, blk_cell h 4, blk_cell h 5, blk_free h, blk_lt h⟩
theorem res_ask {fn : Func} {tmps : Array Value} {r : Tmp} {b : Nat} {x0 x1 x2 x3 x4 x5 : Value} {W : World} (hres : fn.results = #[.cell r 52]) (h : tmps.getD r undef = .pointer (some ⟨b, 0, none⟩)) (hb : W.heap[b]? = some (.cells #[x0, x1, x2, x3, x4, x5] 52)) :
    (results fn tmps).run Tryd.prog W = .ok (.agg #[x0, x1, x2, x3, x4, x5]) W := by
  obtain ⟨k0, k1, k2, k3, k4, k5, _, _⟩ := blk6 hb
  rw [Array.getD_eq_getD_getElem?] at h
  simp [results, hres, go_sem, h, k0, k1, k2, k3, k4, k5]
theorem six_set {W : World} {b : Nat} {c0 c1 c2 c3 c4 c5 : Value} {t : TypeId} (h : W.heap[b]? = some (.cells #[c0, c1, c2, c3, c4, c5] t)) (v0 v1 v2 v3 v4 v5 : Value) :
    ((((((W.setCell ⟨b, 0, none⟩ v0).setCell ⟨b, 1, none⟩ v1).setCell ⟨b, 2, none⟩ v2).setCell ⟨b, 3, none⟩ v3).setCell ⟨b, 4, none⟩ v4).setCell ⟨b, 5, none⟩ v5).heap[b]? = some (.cells #[v0, v1, v2, v3, v4, v5] t) :=
  blk_set (blk_set (blk_set (blk_set (blk_set (blk_set h 0 _) 1 _) 2 _) 3 _) 4 _) 5 _
theorem six_below {B : Nat} {a W : World} {b : Nat} (h : Below B a W) (hb : B ≤ b) (v0 v1 v2 v3 v4 v5 : Value) :
    Below B a ((((((W.setCell ⟨b, 0, none⟩ v0).setCell ⟨b, 1, none⟩ v1).setCell ⟨b, 2, none⟩ v2).setCell ⟨b, 3, none⟩ v3).setCell ⟨b, 4, none⟩ v4).setCell ⟨b, 5, none⟩ v5) :=
  (((((h.setCell (p := ⟨b, 0, none⟩) hb _).setCell (p := ⟨b, 1, none⟩) hb _).setCell (p := ⟨b, 2, none⟩) hb _).setCell (p := ⟨b, 3, none⟩) hb _).setCell (p := ⟨b, 4, none⟩) hb _).setCell (p := ⟨b, 5, none⟩) hb _

set_option maxHeartbeats 1000000 in
set_option maxRecDepth 100000 in
theorem ask_other (cs : Array Value) (d : DutyV) (id : Int) (w : World) (hk : ¬ d.kind = 1) :
    Calls Tryd.prog 24 #[.agg cs, encDv d, .int .i64 id] w fun e w' => e = .returned (encAv ⟨d.kind, id, d.key, 0, 0, 0⟩) ∧ Below w.heap.size w w' := by
  have hq : (d.kind != 1) = true := by simpa using hk
  obtain ⟨W0, hW0⟩ : ∃ W0, W0 = (((w.alloc (.cells cs 30)).alloc (.cells #[.int .u8 d.kind, .int .i64 d.key] 47)).alloc (.cells #[.int .u8 d.kind, .int .i64 id, .int .i64 d.key, .int .i64 0, .int .i64 0, .int .i64 0] 52)).alloc (.cells #[.int .u8 d.kind, .int .i64 id, .int .i64 d.key, .int .i64 0, .int .i64 0, .int .i64 0] 52) := ⟨_, rfl⟩
  have hz : W0.heap.size = w.heap.size + 4 := by rw [hW0]; simp
  have hB : Below w.heap.size w W0 := by rw [hW0]; exact ((((Below.refl _ _).alloc (Nat.le_refl _) _).alloc (by simp) _).alloc (by simp; omega) _).alloc (by simp; omega) _
  have N2 : W0.heap[w.heap.size + 2]? = some (.cells #[.int .u8 d.kind, .int .i64 id, .int .i64 d.key, .int .i64 0, .int .i64 0, .int .i64 0] 52) := by rw [hW0]; exact blk_alloc (by simpa using heap_new ((w.alloc (.cells cs 30)).alloc (.cells #[.int .u8 d.kind, .int .i64 d.key] 47)) (.cells #[.int .u8 d.kind, .int .i64 id, .int .i64 d.key, .int .i64 0, .int .i64 0, .int .i64 0] 52)) _
  have HW := hid hW0
  have HB := hid hB
  have HN := hid N2
  clear hW0 hB N2
  unfold encDv
  go_enter Tryd.func24, Tryd.ntmps24
  go_wp2
  rw [← HW.out]
  exact bodyPost_ret (res_ask (b := w.heap.size + 2) rfl rfl HN.out) rfl ⟨rfl, HB.out⟩
end Go.Proofs.YtljmhmdpihpafaaDoor

/- Stores to two blocks of six cells. -/
namespace Go.Proofs.YtljmhmdpihpafaaDoor
open Go.RowKit Go.Shelf

theorem heap_drew {W : World} {b : Nat} {o : Option Obj} (h : W.heap[b]? = o) : W.drew.heap[b]? = o := h
theorem below_drew {B : Nat} {a W : World} (h : Below B a W) : Below B a W.drew := below_drewN h 1
theorem fin3 {W : World} {m q : Nat} {z0 z1 z2 z3 z4 z5 : Value} {t : TypeId} (hne : m ≠ q) (h2 : W.heap[m]? = some (.cells #[z0, z1, z2, z3, z4, z5] t)) (u1 u2 u3 v0 v1 v2 v3 v4 v5 : Value) : (((((((((W.setCell ⟨q, 3, none⟩ u1).setCell ⟨q, 4, none⟩ u2).setCell ⟨q, 5, none⟩ u3).setCell ⟨m, 0, none⟩ v0).setCell ⟨m, 1, none⟩ v1).setCell ⟨m, 2, none⟩ v2).setCell ⟨m, 3, none⟩ v3).setCell ⟨m, 4, none⟩ v4).setCell ⟨m, 5, none⟩ v5).drew.heap[m]? = some (.cells #[v0, v1, v2, v3, v4, v5] t) :=
  heap_drew (six_set (blk_other (p := ⟨q, 5, none⟩) (blk_other (p := ⟨q, 4, none⟩) (blk_other (p := ⟨q, 3, none⟩) h2 hne _) hne _) hne _) v0 v1 v2 v3 v4 v5)
theorem finb3 {a W : World} {B m q : Nat} (hm : B ≤ m) (hq : B ≤ q) (h : Below B a W) (u1 u2 u3 v0 v1 v2 v3 v4 v5 : Value) : Below B a (((((((((W.setCell ⟨q, 3, none⟩ u1).setCell ⟨q, 4, none⟩ u2).setCell ⟨q, 5, none⟩ u3).setCell ⟨m, 0, none⟩ v0).setCell ⟨m, 1, none⟩ v1).setCell ⟨m, 2, none⟩ v2).setCell ⟨m, 3, none⟩ v3).setCell ⟨m, 4, none⟩ v4).setCell ⟨m, 5, none⟩ v5).drew :=
  below_drew (Below.setCell (p := ⟨m, 5, none⟩) (Below.setCell (p := ⟨m, 4, none⟩) (Below.setCell (p := ⟨m, 3, none⟩) (Below.setCell (p := ⟨m, 2, none⟩) (Below.setCell (p := ⟨m, 1, none⟩) (Below.setCell (p := ⟨m, 0, none⟩) (Below.setCell (p := ⟨q, 5, none⟩) (Below.setCell (p := ⟨q, 4, none⟩) (Below.setCell (p := ⟨q, 3, none⟩) h hq _) hq _) hq _) hm _) hm _) hm _) hm _) hm _) hm _)
theorem fin2 {W : World} {m q : Nat} {z0 z1 z2 z3 z4 z5 : Value} {t : TypeId} (hne : m ≠ q) (h2 : W.heap[m]? = some (.cells #[z0, z1, z2, z3, z4, z5] t)) (u1 u2 v0 v1 v2 v3 v4 v5 : Value) : ((((((((W.setCell ⟨q, 3, none⟩ u1).setCell ⟨q, 4, none⟩ u2).setCell ⟨m, 0, none⟩ v0).setCell ⟨m, 1, none⟩ v1).setCell ⟨m, 2, none⟩ v2).setCell ⟨m, 3, none⟩ v3).setCell ⟨m, 4, none⟩ v4).setCell ⟨m, 5, none⟩ v5).drew.heap[m]? = some (.cells #[v0, v1, v2, v3, v4, v5] t) :=
  heap_drew (six_set (blk_other (p := ⟨q, 4, none⟩) (blk_other (p := ⟨q, 3, none⟩) h2 hne _) hne _) v0 v1 v2 v3 v4 v5)
theorem finb2 {a W : World} {B m q : Nat} (hm : B ≤ m) (hq : B ≤ q) (h : Below B a W) (u1 u2 v0 v1 v2 v3 v4 v5 : Value) : Below B a ((((((((W.setCell ⟨q, 3, none⟩ u1).setCell ⟨q, 4, none⟩ u2).setCell ⟨m, 0, none⟩ v0).setCell ⟨m, 1, none⟩ v1).setCell ⟨m, 2, none⟩ v2).setCell ⟨m, 3, none⟩ v3).setCell ⟨m, 4, none⟩ v4).setCell ⟨m, 5, none⟩ v5).drew :=
  below_drew (Below.setCell (p := ⟨m, 5, none⟩) (Below.setCell (p := ⟨m, 4, none⟩) (Below.setCell (p := ⟨m, 3, none⟩) (Below.setCell (p := ⟨m, 2, none⟩) (Below.setCell (p := ⟨m, 1, none⟩) (Below.setCell (p := ⟨m, 0, none⟩) (Below.setCell (p := ⟨q, 4, none⟩) (Below.setCell (p := ⟨q, 3, none⟩) h hq _) hq _) hm _) hm _) hm _) hm _) hm _) hm _)
end Go.Proofs.YtljmhmdpihpafaaDoor
