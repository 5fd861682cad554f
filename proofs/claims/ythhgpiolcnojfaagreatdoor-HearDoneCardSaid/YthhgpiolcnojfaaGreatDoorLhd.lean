/- HearDone: what was asked, and done, is heard. Printed by gn_lhd.py. -/
import Derived.Test.YthhgpiolcnojfaaGreatDoorRall
import Derived.Test.YthhgpiolcnojfaaGreatDoorCld
import Derived.Test.YthhgpiolcnojfaaGreatDoorDoq
import Derived.Test.YthhgpiolcnojfaaGreatDoorWh
namespace Go.Proofs.YthhgpiolcnojfaaGreatDoor
open Go.RowKit Go.Shelf
attribute [-go_sem] loadVar storeVar
attribute [local go_sem] load_other

theorem store_other3 (t : TypeId) (a : Addr) (v : Value) (_h : t ≠ 30) (_h2 : t ≠ 72) (_h3 : t ≠ 36) (h0 : ∀ w, (sizeOf t).run Tryz.prog w = .ok v.cells.size w) (w : World) : (storeVar t a v).run Tryz.prog w = (storeCells a v.cells.toList).run Tryz.prog w := by
 unfold storeVar
 simp [h0]
attribute [local go_sem] store_other3
/-- Do, its results as letters. -/
theorem rdo08_letter (C : CloudV) (s : Value) (kd call id : Int) (hk : kd = 2 ∨ kd = 4 ∨ kd = 5 ∨ kd = 6) (w : World) (hs : RowOf 11 encBx w s C.boxes) (hC : CloudR C) :
  Calls Tryz.prog 30 #[.agg (cloudA C s), .agg #[.int .u8 kd, .int .i64 call, .int .i64 id, .int .i64 0, .int .i64 0, .int .i64 0]] w fun e w' => ∃ dv tv : Array Value, e = .returned (.tuple #[.agg dv, .agg tv]) ∧ dv.size = 5 ∧ dv.all (·.oneCell') = true ∧ tv.size = 6 ∧ tv.all (·.oneCell') = true ∧ Hid (∃ (code : Int) (D : CloudV) (a : Option Addr) (c : Nat), dv = cloudA D (.slice a D.boxes.length c) ∧ tv = #[.int .i64 call, .int .u8 kd, .int .u8 code, .int .i64 id, .slice none 0 0, .bool false] ∧ RowOf 11 encBx w' (.slice a D.boxes.length c) D.boxes ∧ OneP kd id code D.boxes) ∧ Below w.heap.size w w' := by
 refine (rdo08_any C s kd call id hk w hs hC).mono ?_
 rintro e w' ⟨code, D, v, he, hr, hb, hp⟩
 obtain ⟨a, c, rfl, _⟩ := hr.open
 exact ⟨_, _, he, rfl, by simp [cloudA, Value.oneCell'], rfl, by simp [Value.oneCell'], hid ⟨code, D, a, c, rfl, rfl, hr, hp⟩, hb⟩
theorem cloud_store {W : World} {T : Nat} {c rv : Array Value} (h5 : rv.size = 5) (h1 : rv.all (·.oneCell') = true) (hc : c.size = 5) (hT : W.heap[T]? = some (.cells c 72)) :
  (storeVar 72 ⟨T, 0, none⟩ (.agg rv)).run Tryz.prog W = .ok () (W.setRow T rv) :=
 run_storeVar_row W T 72 72 c rv hT (by rw [h5]; kernel_rfl) (by rw [hc, h5]) h1
theorem tell_store {W : World} {T : Nat} {c rv : Array Value} (h6 : rv.size = 6) (h1 : rv.all (·.oneCell') = true) (hc : c.size = 6) (hT : W.heap[T]? = some (.cells c 36)) :
  (storeVar 36 ⟨T, 0, none⟩ (.agg rv)).run Tryz.prog W = .ok () (W.setRow T rv) :=
 run_storeVar_row W T 36 36 c rv hT (by rw [h6]; kernel_rfl) (by rw [hc, h6]) h1
theorem row11_set {W : World} {s : Value} {l : List BoxV} {T : Nat} {c rv : Array Value} {t : TypeId} (h : RowOf 11 encBx W s l) (hT : W.heap[T]? = some (.cells c t)) (hc : c.size ≤ 10) : RowOf 11 encBx (W.setRow T rv) s l := by
 rcases h with h | ⟨h0, b, off, cc, rfl, h1, h2, hb, hr⟩
 ·exact .inl h
 ·obtain ⟨x, hx⟩ := get_lt h0
  have h3 := hr 0 x hx 10 _ rfl
  have hne : b ≠ T := by
   intro e
   subst e
   rw [blk_cell hT] at h3
   have := (Array.getElem?_eq_some_iff.1 h3).1
   omega
  refine .inr ⟨h0, b, off, cc, rfl, h1, h2, Nat.lt_of_lt_of_le hb (below_setRow (Below.refl 0 W) (Nat.zero_le T) rv).size, fun i x hx j' v hj => ?_⟩
  rw [World.cell?_of_block (setRow_other W T b rv hne)]
  exact hr i x hx j' v hj
/-- Two results laid in two blocks. -/
structure TwoS (W : World) (A B : Nat) (dv tv : Array Value) (X : World) : Prop where
 a : X.heap[A]? = some (.cells dv 72)
 b : X.heap[B]? = some (.cells tv 36)
 row : ∀ s l, RowOf 11 encBx W s l → RowOf 11 encBx X s l
 bel : ∀ w : World, Below w.heap.size w W → w.heap.size ≤ A → w.heap.size ≤ B → Below w.heap.size w X
theorem two_stores {W : World} {A B : Nat} {dv tv : Array Value} (h5 : dv.size = 5) (h1 : dv.all (·.oneCell') = true) (h6 : tv.size = 6) (h2 : tv.all (·.oneCell') = true) (hA : W.heap[A]? = some (.cells #[.slice none 0 0, .int .i64 0, .int .i64 0, .int .i64 0, .bool false] 72)) (hB : W.heap[B]? = some (.cells #[.int .i64 0, .int .u8 0, .int .u8 0, .int .i64 0, .slice none 0 0, .bool false] 36)) (hne : B ≠ A) :
  (storeVar 72 ⟨A, 0, none⟩ (.agg dv)).run Tryz.prog W = .ok () (W.setRow A dv) ∧ (storeVar 36 ⟨B, 0, none⟩ (.agg tv)).run Tryz.prog (W.setRow A dv) = .ok () ((W.setRow A dv).setRow B tv) ∧ TwoS W A B dv tv ((W.setRow A dv).setRow B tv) := by
 have hB2 : (W.setRow A dv).heap[B]? = some (.cells #[.int .i64 0, .int .u8 0, .int .u8 0, .int .i64 0, .slice none 0 0, .bool false] 36) := (setRow_other W A B dv hne).trans hB
 have hA2 : (W.setRow A dv).heap[A]? = some (.cells dv 72) := setRow_heap _ _ _ _ _ _ hA
 refine ⟨cloud_store h5 h1 rfl hA, tell_store h6 h2 rfl hB2, (setRow_other _ B A tv (Ne.symm hne)).trans hA2, setRow_heap _ _ _ _ _ _ hB2, fun s l h => row11_set (row11_set h hA (by decide)) hB2 (by decide), fun w h ha hb => below_setRow (below_setRow h ha dv) hb tv⟩
/-- Behind what was done. -/
def HdR (w W6 : World) (T8 : Nat) (now kid kd : Int) : Exit → Act → World → Prop
 | .normal, a', X => ∃ (u : Nat → Value) (T10 T11 : Nat), a' = { tmps := #[u 0, u 1, .int .i64 now, .pointer (some ⟨w.heap.size, 0, none⟩), .pointer (some ⟨w.heap.size + 1, 0, none⟩), u 5, .bool false, .pointer (some ⟨w.heap.size + 1 + 1 + 1, 0, none⟩), .pointer (some ⟨T8, 0, none⟩), u 9, .pointer (some ⟨T10, 0, none⟩), .pointer (some ⟨T11, 0, none⟩), u 12, u 13, u 14, u 15, u 16, u 17, u 18, u 19, u 20, u 21, u 22, u 23, u 24, u 25, u 26, u 27, u 28, u 29, u 30, u 31, u 32, u 33, u 34, u 35, u 36, u 37, u 38, u 39, u 40, u 41, u 42, u 43, u 44, u 45, u 46, u 47, u 48, u 49, u 50, u 51, u 52, u 53, u 54, u 55, u 56, u 57, u 58, u 59, u 60, u 61, u 62, u 63, u 64, u 65, u 66, u 67, u 68, u 69, u 70, u 71, u 72, u 73, u 74, u 75, u 76, u 77, u 78, u 79, u 80, u 81, u 82, u 83, u 84, u 85, u 86, u 87, u 88, u 89, u 90, u 91, u 92, u 93, u 94, u 95, u 96, u 97, u 98, u 99, u 100, u 101, u 102, u 103, u 104, u 105, u 106, u 107, u 108, u 109, u 110, u 111, u 112, u 113, u 114, u 115, u 116, u 117, u 118, u 119, u 120, u 121, u 122, u 123, u 124, u 125, u 126, u 127, u 128, u 129, u 130, u 131, u 132, u 133, u 134, u 135, u 136, u 137, u 138, u 139, u 140, u 141, u 142, u 143, u 144, u 145, u 146, u 147, u 148, u 149, u 150, u 151, u 152], defers := [] } ∧ ∃ (dn : Nat) (D : CloudV) (da : Option Addr) (dc : Nat), X.heap[T10]? = some (.cells (cloudA D (.slice da D.boxes.length dc)) 72) ∧ X.heap[T11]? = some (.cells #[.int .i64 549755813889, .int .u8 kd, .int .u8 (dn : Int), .int .i64 kid, .slice none 0 0, .bool false] 36) ∧ RowOf 11 encBx X (.slice da D.boxes.length dc) D.boxes ∧ Below W6.heap.size W6 X ∧ OneP kd kid dn D.boxes
 | _, _, _ => False
theorem HdR.of {w W6 W Y X : World} {T8 T10 T11 : Nat} {now kid kd : Int} {dv tv : Array Value} {a' : Act} (h : a' = { tmps := #[a'.tmps.getD 0 undef, a'.tmps.getD 1 undef, .int .i64 now, .pointer (some ⟨w.heap.size, 0, none⟩), .pointer (some ⟨w.heap.size + 1, 0, none⟩), a'.tmps.getD 5 undef, .bool false, .pointer (some ⟨w.heap.size + 1 + 1 + 1, 0, none⟩), .pointer (some ⟨T8, 0, none⟩), a'.tmps.getD 9 undef, .pointer (some ⟨T10, 0, none⟩), .pointer (some ⟨T11, 0, none⟩), a'.tmps.getD 12 undef, a'.tmps.getD 13 undef, a'.tmps.getD 14 undef, a'.tmps.getD 15 undef, a'.tmps.getD 16 undef, a'.tmps.getD 17 undef, a'.tmps.getD 18 undef, a'.tmps.getD 19 undef, a'.tmps.getD 20 undef, a'.tmps.getD 21 undef, a'.tmps.getD 22 undef, a'.tmps.getD 23 undef, a'.tmps.getD 24 undef, a'.tmps.getD 25 undef, a'.tmps.getD 26 undef, a'.tmps.getD 27 undef, a'.tmps.getD 28 undef, a'.tmps.getD 29 undef, a'.tmps.getD 30 undef, a'.tmps.getD 31 undef, a'.tmps.getD 32 undef, a'.tmps.getD 33 undef, a'.tmps.getD 34 undef, a'.tmps.getD 35 undef, a'.tmps.getD 36 undef, a'.tmps.getD 37 undef, a'.tmps.getD 38 undef, a'.tmps.getD 39 undef, a'.tmps.getD 40 undef, a'.tmps.getD 41 undef, a'.tmps.getD 42 undef, a'.tmps.getD 43 undef, a'.tmps.getD 44 undef, a'.tmps.getD 45 undef, a'.tmps.getD 46 undef, a'.tmps.getD 47 undef, a'.tmps.getD 48 undef, a'.tmps.getD 49 undef, a'.tmps.getD 50 undef, a'.tmps.getD 51 undef, a'.tmps.getD 52 undef, a'.tmps.getD 53 undef, a'.tmps.getD 54 undef, a'.tmps.getD 55 undef, a'.tmps.getD 56 undef, a'.tmps.getD 57 undef, a'.tmps.getD 58 undef, a'.tmps.getD 59 undef, a'.tmps.getD 60 undef, a'.tmps.getD 61 undef, a'.tmps.getD 62 undef, a'.tmps.getD 63 undef, a'.tmps.getD 64 undef, a'.tmps.getD 65 undef, a'.tmps.getD 66 undef, a'.tmps.getD 67 undef, a'.tmps.getD 68 undef, a'.tmps.getD 69 undef, a'.tmps.getD 70 undef, a'.tmps.getD 71 undef, a'.tmps.getD 72 undef, a'.tmps.getD 73 undef, a'.tmps.getD 74 undef, a'.tmps.getD 75 undef, a'.tmps.getD 76 undef, a'.tmps.getD 77 undef, a'.tmps.getD 78 undef, a'.tmps.getD 79 undef, a'.tmps.getD 80 undef, a'.tmps.getD 81 undef, a'.tmps.getD 82 undef, a'.tmps.getD 83 undef, a'.tmps.getD 84 undef, a'.tmps.getD 85 undef, a'.tmps.getD 86 undef, a'.tmps.getD 87 undef, a'.tmps.getD 88 undef, a'.tmps.getD 89 undef, a'.tmps.getD 90 undef, a'.tmps.getD 91 undef, a'.tmps.getD 92 undef, a'.tmps.getD 93 undef, a'.tmps.getD 94 undef, a'.tmps.getD 95 undef, a'.tmps.getD 96 undef, a'.tmps.getD 97 undef, a'.tmps.getD 98 undef, a'.tmps.getD 99 undef, a'.tmps.getD 100 undef, a'.tmps.getD 101 undef, a'.tmps.getD 102 undef, a'.tmps.getD 103 undef, a'.tmps.getD 104 undef, a'.tmps.getD 105 undef, a'.tmps.getD 106 undef, a'.tmps.getD 107 undef, a'.tmps.getD 108 undef, a'.tmps.getD 109 undef, a'.tmps.getD 110 undef, a'.tmps.getD 111 undef, a'.tmps.getD 112 undef, a'.tmps.getD 113 undef, a'.tmps.getD 114 undef, a'.tmps.getD 115 undef, a'.tmps.getD 116 undef, a'.tmps.getD 117 undef, a'.tmps.getD 118 undef, a'.tmps.getD 119 undef, a'.tmps.getD 120 undef, a'.tmps.getD 121 undef, a'.tmps.getD 122 undef, a'.tmps.getD 123 undef, a'.tmps.getD 124 undef, a'.tmps.getD 125 undef, a'.tmps.getD 126 undef, a'.tmps.getD 127 undef, a'.tmps.getD 128 undef, a'.tmps.getD 129 undef, a'.tmps.getD 130 undef, a'.tmps.getD 131 undef, a'.tmps.getD 132 undef, a'.tmps.getD 133 undef, a'.tmps.getD 134 undef, a'.tmps.getD 135 undef, a'.tmps.getD 136 undef, a'.tmps.getD 137 undef, a'.tmps.getD 138 undef, a'.tmps.getD 139 undef, a'.tmps.getD 140 undef, a'.tmps.getD 141 undef, a'.tmps.getD 142 undef, a'.tmps.getD 143 undef, a'.tmps.getD 144 undef, a'.tmps.getD 145 undef, a'.tmps.getD 146 undef, a'.tmps.getD 147 undef, a'.tmps.getD 148 undef, a'.tmps.getD 149 undef, a'.tmps.getD 150 undef, a'.tmps.getD 151 undef, a'.tmps.getD 152 undef], defers := [] }) (hT : TwoS W T10 T11 dv tv X) (hY : Below Y.heap.size Y W) (hW : Below W6.heap.size W6 W) (h1 : W6.heap.size ≤ T10) (h2 : W6.heap.size ≤ T11)
  (hD : ∃ (code : Int) (D : CloudV) (a : Option Addr) (c : Nat), dv = cloudA D (.slice a D.boxes.length c) ∧ tv = #[.int .i64 549755813889, .int .u8 kd, .int .u8 code, .int .i64 kid, .slice none 0 0, .bool false] ∧ RowOf 11 encBx Y (.slice a D.boxes.length c) D.boxes ∧ OneP kd kid code D.boxes) :
  HdR w W6 T8 now kid kd .normal a' X := by
 obtain ⟨code, D, da, dc, rfl, rfl, hr, hp⟩ := hD
 obtain ⟨dn, rfl⟩ : ∃ dn : Nat, code = (dn : Int) := by
  rcases hp.codes with h | h | h | h
  ·exact ⟨1, h⟩
  ·exact ⟨2, h⟩
  ·exact ⟨3, h⟩
  ·exact ⟨5, h⟩
 exact ⟨fun i => a'.tmps.getD i undef, T10, T11, h, dn, D, da, dc, hT.a, hT.b, hT.row _ _ (hr.below hY), hT.bel W6 hW h1 h2, hp⟩
theorem blk8 {W : World} {b : Nat} {c0 c1 c2 c3 c4 c5 c6 c7 : Value} {t : TypeId} (h : W.heap[b]? = some (.cells #[c0, c1, c2, c3, c4, c5, c6, c7] t)) : W.cell? ⟨b, 0, none⟩ = some c0 ∧ W.cell? ⟨b, 1, none⟩ = some c1 ∧ W.cell? ⟨b, 2, none⟩ = some c2 ∧ W.cell? ⟨b, 3, none⟩ = some c3 ∧ W.cell? ⟨b, 4, none⟩ = some c4 ∧ W.cell? ⟨b, 5, none⟩ = some c5 ∧ W.cell? ⟨b, 6, none⟩ = some c6 ∧ W.cell? ⟨b, 7, none⟩ = some c7 ∧ (∀ j, W.frozen? ⟨b, j, none⟩ = false) ∧ b < W.heap.size :=
 ⟨blk_cell h 0, blk_cell h 1, blk_cell h 2, blk_cell h 3, blk_cell h 4, blk_cell h 5, blk_cell h 6, blk_cell h 7, blk_free h, blk_lt h⟩
theorem len_of {α : Type} {k : Nat} {enc : α → List Value} {w : World} {v : Value} {l : List α} (h : RowOf k enc w v l) : ∃ a c, v = .slice a l.length c := by
 obtain ⟨a, c, rfl, _⟩ := h.open
 exact ⟨a, c, rfl⟩
/-- How the walk ends: what is found, by what came of it. -/
theorem out_there {k : KeptV} {dn : Int} {l : List (Int × List Int)} {K : List KeptV} (h : Out k dn l K) : (K = [] ∧ idxL K (fun x => x.id == k.id) = -1 ∧ (dn = 2 ∨ (dn = 1 ∧ k.phase = 8))) ∨ ∃ k', K = [k'] ∧ idxL K (fun x => x.id == k.id) = 0 ∧ ((dn = 1 ∧ k.phase ≠ 8 ∧ k'.phase ≠ k.phase) ∨ (dn = 3 ∧ k.phase = 5 ∧ k'.phase = 4) ∨ ((dn = 5 ∨ (dn = 3 ∧ k.phase ≠ 5)) ∧ l = [])) := by
 cases h with
 | gone h => exact .inl ⟨rfl, rfl, h⟩
 | moved t now h =>
  refine .inr ⟨_, rfl, idx_one _ (by simp), ?_⟩
  rcases h with ⟨h1, h2, h3⟩ | ⟨h1, h2, h3⟩
  ·exact .inl ⟨h1, h2, h3⟩
  ·exact .inr (.inl ⟨h1, h2, h3⟩)
 | none h => exact .inr ⟨k, rfl, idx_one _ (by simp), .inr (.inr ⟨h, rfl⟩)⟩
theorem out_small {k : KeptV} {dn : Int} {l : List (Int × List Int)} {K : List KeptV} (h : Out k dn l K) : l.length ≤ 1 ∧ ∀ r ∈ l, (r.1 = 6 ∧ r.2.length = 3) ∨ (r.1 = 7 ∧ r.2.length = 1) := by
 cases h with
 | gone h => exact ⟨by simp, fun r hr => by simp only [List.mem_singleton] at hr; rw [hr]; exact .inr ⟨rfl, rfl⟩⟩
 | moved t now h => exact ⟨by simp, fun r hr => by simp only [List.mem_singleton] at hr; rw [hr]; exact .inl ⟨rfl, rfl⟩⟩
 | none h => exact ⟨by simp, fun r hr => by cases hr⟩
set_option maxRecDepth 100000 in
set_option maxHeartbeats 8000000 in
theorem hdone_law (C : CloudV) (s : Value) (k : KeptV) (now : Int) (w : World) (hs : RowOf 11 encBx w s C.boxes) (h8 : in8 k.phase) (hA : Asked w) (hC : Changes w) (hL : Limits w) :
  Calls Tryz.prog 6 #[.agg (cloudA C s), .agg #[.int .i64 k.id, .int .i64 k.token, .int .i64 k.version, .int .i64 k.zone, .int .u8 k.phase, .int .i64 k.since, .bool k.guarded, .bool k.complete], .int .i64 now] w fun e w' => e = .returned (.bool true) ∧ Below w.heap.size w w' := by
 obtain ⟨a, c, rfl, _⟩ := hs.open
 unfold cloudA
 have hbk : ∀ (w : World), (Instr.buildSlice 26 1 #[(0, .agg #[.int .i64 k.id, .int .i64 k.token, .int .i64 k.version, .int .i64 k.zone, .int .u8 k.phase, .int .i64 k.since, .bool k.guarded, .bool k.complete])]).run Tryz.prog w = .ok (.slice (some ⟨w.heap.size, 0, none⟩) 1 1) (w.alloc (.cells #[.int .i64 k.id, .int .i64 k.token, .int .i64 k.version, .int .i64 k.zone, .int .u8 k.phase, .int .i64 k.since, .bool k.guarded, .bool k.complete] 63)) := fun w => by kernel_rfl
 have hst := br_store_new (y := (((w.alloc (.cells #[.slice a C.boxes.length c, .int .i64 C.floor, .int .i64 C.drain, .int .i64 C.now, .bool C.tight] 72)).alloc (.cells #[.int .i64 k.id, .int .i64 k.token, .int .i64 k.version, .int .i64 k.zone, .int .u8 k.phase, .int .i64 k.since, .bool k.guarded, .bool k.complete] 63)).alloc (.cells #[.int .i64 k.id, .int .i64 k.token, .int .i64 k.version, .int .i64 k.zone, .int .u8 k.phase, .int .i64 k.since, .bool k.guarded, .bool k.complete] 63))) (zs := #[.int .i64 0, .int .i64 0, .bool false, .int .i64 0, .int .i64 0, .int .i64 0, .int .i64 0, .int .i64 0, .int .i64 0, .int .i64 0, .int .i64 0, .int .i64 0, .int .i64 0, .int .i64 0, .int .i64 0, .int .i64 0, .bool false, .slice none 0 0, .slice none 0 0, .slice none 0 0, .int .u8 0, .int .i64 0, .int .i64 0, .int .i64 0, .bool false, .int .i64 0, .int .i64 0]) (bs := #[.int .i64 0, .int .i64 0, .bool false, .int .i64 0, .int .i64 0, .int .i64 0, .int .i64 0, .int .i64 0, .int .i64 0, .int .i64 0, .int .i64 0, .int .i64 0, .int .i64 0, .int .i64 0, .int .i64 0, .int .i64 0, .bool false, .slice none 0 0, .slice none 0 0, .slice (some ⟨w.heap.size + 1 + 1, 0, none⟩) 1 1, .int .u8 0, .int .i64 0, .int .i64 0, .int .i64 0, .bool false, .int .i64 0, .int .i64 0]) rfl rfl (by simp [Value.oneCell'])
 rw [show (((w.alloc (.cells #[.slice a C.boxes.length c, .int .i64 C.floor, .int .i64 C.drain, .int .i64 C.now, .bool C.tight] 72)).alloc (.cells #[.int .i64 k.id, .int .i64 k.token, .int .i64 k.version, .int .i64 k.zone, .int .u8 k.phase, .int .i64 k.since, .bool k.guarded, .bool k.complete] 63)).alloc (.cells #[.int .i64 k.id, .int .i64 k.token, .int .i64 k.version, .int .i64 k.zone, .int .u8 k.phase, .int .i64 k.since, .bool k.guarded, .bool k.complete] 63)).heap.size = w.heap.size + 1 + 1 + 1 by simp] at hst
 obtain ⟨W3, hW3⟩ : ∃ W, W = (((w.alloc (.cells #[.slice a C.boxes.length c, .int .i64 C.floor, .int .i64 C.drain, .int .i64 C.now, .bool C.tight] 72)).alloc (.cells #[.int .i64 k.id, .int .i64 k.token, .int .i64 k.version, .int .i64 k.zone, .int .u8 k.phase, .int .i64 k.since, .bool k.guarded, .bool k.complete] 63)).alloc (.cells #[.int .i64 k.id, .int .i64 k.token, .int .i64 k.version, .int .i64 k.zone, .int .u8 k.phase, .int .i64 k.since, .bool k.guarded, .bool k.complete] 63)).alloc (.cells #[.int .i64 0, .int .i64 0, .bool false, .int .i64 0, .int .i64 0, .int .i64 0, .int .i64 0, .int .i64 0, .int .i64 0, .int .i64 0, .int .i64 0, .int .i64 0, .int .i64 0, .int .i64 0, .int .i64 0, .int .i64 0, .bool false, .slice none 0 0, .slice none 0 0, .slice (some ⟨w.heap.size + 1 + 1, 0, none⟩) 1 1, .int .u8 0, .int .i64 0, .int .i64 0, .int .i64 0, .bool false, .int .i64 0, .int .i64 0] 30) := ⟨_, rfl⟩
 have hb3 : Below w.heap.size w W3 := by rw [hW3]; exact ((((Below.refl _ _).alloc (Nat.le_refl _) _).alloc (by simp) _).alloc (by simp; omega) _).alloc (by simp; omega) _
 have P3 := hid (show W3.heap[w.heap.size]? = some (.cells #[.slice a C.boxes.length c, .int .i64 C.floor, .int .i64 C.drain, .int .i64 C.now, .bool C.tight] 72) by rw [hW3]; exact blk_alloc (blk_alloc (blk_alloc (heap_new _ _) _) _) _)
 have K3 := hid (show W3.heap[w.heap.size + 1]? = some (.cells #[.int .i64 k.id, .int .i64 k.token, .int .i64 k.version, .int .i64 k.zone, .int .u8 k.phase, .int .i64 k.since, .bool k.guarded, .bool k.complete] 63) by rw [hW3]; exact blk_alloc (blk_alloc (heap_new2 _ _ _) _) _)
 have n2 : W3.heap[w.heap.size + 1 + 1]? = some (.cells #[.int .i64 k.id, .int .i64 k.token, .int .i64 k.version, .int .i64 k.zone, .int .u8 k.phase, .int .i64 k.since, .bool k.guarded, .bool k.complete] 63) := by rw [hW3]; exact blk_alloc (by simpa using heap_new2 (w.alloc _) _ _) _
 have n3 : W3.heap[w.heap.size + 1 + 1 + 1]? = some (.cells #[.int .i64 0, .int .i64 0, .bool false, .int .i64 0, .int .i64 0, .int .i64 0, .int .i64 0, .int .i64 0, .int .i64 0, .int .i64 0, .int .i64 0, .int .i64 0, .int .i64 0, .int .i64 0, .int .i64 0, .int .i64 0, .bool false, .slice none 0 0, .slice none 0 0, .slice (some ⟨w.heap.size + 1 + 1, 0, none⟩) 1 1, .int .u8 0, .int .i64 0, .int .i64 0, .int .i64 0, .bool false, .int .i64 0, .int .i64 0] 30) := by rw [hW3]; simpa using heap_new2 ((w.alloc _).alloc _) _ _
 have hkp : RowOf 8 encKp W3 (.slice (some ⟨w.heap.size + 1 + 1, 0, none⟩) 1 1) [k] := row_blk (l := [k]) encKp_len n2 (by simp) (show 1 ≤ maxLen by decide)
 obtain ⟨bv, hbv⟩ : ∃ v : Array Value, v = #[.int .i64 0, .int .i64 0, .bool false, .int .i64 0, .int .i64 0, .int .i64 0, .int .i64 0, .int .i64 0, .int .i64 0, .int .i64 0, .int .i64 0, .int .i64 0, .int .i64 0, .int .i64 0, .int .i64 0, .int .i64 0, .bool false, .slice none 0 0, .slice none 0 0, .slice (some ⟨w.heap.size + 1 + 1, 0, none⟩) 1 1, .int .u8 0, .int .i64 0, .int .i64 0, .int .i64 0, .bool false, .int .i64 0, .int .i64 0] := ⟨_, rfl⟩
 have V3 := hid (show VarIs W3 (w.heap.size + 1 + 1 + 1) (B0 k) (.agg bv) by rw [hbv]; exact ⟨.slice none 0 0, .slice none 0 0, .slice (some ⟨w.heap.size + 1 + 1, 0, none⟩) 1 1, rfl, n3, row_nil _, row_nil _, hkp⟩)
 have HB3 := hid hb3
 have R3 := hid (hs.below hb3)
 have HW3 := hid hW3
 have HBV := hid hbv
 have HFI := hid (show Fine (B0 k) 900 from ⟨by simp [B0], by simp [B0], fun x hx => by simp only [B0, List.mem_singleton] at hx; rw [hx]; exact h8⟩)
 have HA := hid hA
 have HC := hid hC
 have HL := hid hL
 clear hs h8 hA hC hL hb3 n2 n3 hkp hW3 hbv
 go_enter Tryz.func6, Tryz.ntmps6
 go_upto_region 2 with (fail)
 rw [← HW3.out]
 clear hst hbk HW3
 obtain ⟨q, hq⟩ : ∃ q : Bool, q = true ↔ CloudR C := by
  by_cases h : CloudR C
  ·exact ⟨true, by simp [h]⟩
  ·exact ⟨false, by simp [h]⟩
 have HQ := hid hq
 have HR8 := hid (rright08_any C (.slice a C.boxes.length c) q hq W3 R3.out)
 unfold cloudA at HR8
 clear hq
 obtain ⟨p0, p1, p2, p3, p4, pf, pl⟩ := blk5 P3.out
 go_wp2_with fail
 clear p0 p1 p2 p3 p4 pf pl
 refine HR8.out.mono ?_
 rintro e W4 ⟨rfl, hb⟩
 have HB4 := hid (HB3.out.trans (hb.mono HB3.out.size))
 have P4 := hid (blk_below P3.out hb (blk_lt P3.out))
 have K4 := hid (blk_below K3.out hb (blk_lt K3.out))
 have V4 := hid (V3.out.below hb)
 have R4 := hid (RowOf.below R3.out hb)
 clear hb HR8
 cases q with
 | false =>
  go_wp2_with fail
  refine (wakes_any W4 (HA.out.below HB4.out) (HC.out.below HB4.out) (HL.out.below HB4.out)).mono ?_
  rintro e Ww ⟨rfl, hb⟩
  have HBw := hid (HB4.out.trans (hb.mono HB4.out.size))
  clear hb
  go_wp2
  go_ret
  exact ⟨rfl, HBw.out⟩
 | true =>
  have HCR := hid (HQ.out.1 rfl)
  obtain ⟨b13, h13⟩ : ∃ b, rightB (B0 k) = b := ⟨_, rfl⟩
  have H13 := hid h13
  have HR13 := hid (rright_is b13 h13 V4.out.is)
  clear h13
  have hld := V4.out.load
  go_wp2_with fail
  clear hld
  refine HR13.out.mono ?_
  rintro e W5 ⟨rfl, hb⟩
  have HB5 := hid (HB4.out.trans (hb.mono HB4.out.size))
  have P5 := hid (blk_below P4.out hb (blk_lt P4.out))
  have K5 := hid (blk_below K4.out hb (blk_lt K4.out))
  have V5 := hid (V4.out.below hb)
  have R5 := hid (RowOf.below R4.out hb)
  clear hb HR13
  cases b13 with
  | false =>
   go_wp2_with fail
   refine (wakes_any W5 (HA.out.below HB5.out) (HC.out.below HB5.out) (HL.out.below HB5.out)).mono ?_
   rintro e Ww ⟨rfl, hb⟩
   have HBw := hid (HB5.out.trans (hb.mono HB5.out.size))
   clear hb
   go_wp2
   go_ret
   exact ⟨rfl, HBw.out⟩
  | true =>
   by_cases b3 : now < 0
   ·have d3 : decide (now < 0) = true := decide_eq_true b3
    clear b3
    go_wp2_with fail
    refine (wakes_any W5 (HA.out.below HB5.out) (HC.out.below HB5.out) (HL.out.below HB5.out)).mono ?_
    rintro e Ww ⟨rfl, hb⟩
    have HBw := hid (HB5.out.trans (hb.mono HB5.out.size))
    clear hb
    go_wp2
    go_ret
    exact ⟨rfl, HBw.out⟩
   ·have d3 : decide (now < 0) = false := decide_eq_false b3
    by_cases b4 : 1099511627776 < now
    ·have d4 : decide (1099511627776 < now) = true := decide_eq_true b4
     clear b3 b4
     go_wp2_with fail
     refine (wakes_any W5 (HA.out.below HB5.out) (HC.out.below HB5.out) (HL.out.below HB5.out)).mono ?_
     rintro e Ww ⟨rfl, hb⟩
     have HBw := hid (HB5.out.trans (hb.mono HB5.out.size))
     clear hb
     go_wp2
     go_ret
     exact ⟨rfl, HBw.out⟩
    ·have d4 : decide (1099511627776 < now) = false := decide_eq_false b4
     have HNOW := hid (show numB now = true by unfold numB; simp only [decide_eq_true_eq]; omega)
     have HKID := hid (right_one H13.out)
     clear b3 b4
     have HOP := hid (dopen20_one (B0 k) bv k now W5 V5.out.is rfl rfl HKID.out HNOW.out)
     unfold OpD calls at HOP
     obtain ⟨nx, hnx⟩ : ∃ q, 1 + ((keptD k).length : Int) = q := ⟨_, rfl⟩
     rw [hnx] at HOP
     have HNX := hid hnx
     have hld := V5.out.load
     clear hnx
     go_wp2_with fail
     refine HOP.out.mono ?_
     clear hld HOP d3 d4
     rintro e Y6 ⟨v6, u6, rfl, hr12, hra, hb0⟩
     obtain ⟨ab, hab⟩ : ∃ b, askedB k.phase = b := ⟨_, rfl⟩
     have hkd : keptD k = if ab then [⟨askedK k.phase, k.id⟩] else [] := by rw [← hab]; rfl
     have HAB := hid hab
     rw [hkd] at hr12 hra
     have hnx := HNX.out
     rw [hkd] at hnx
     clear hab hkd HNX
     cases ab with
     | false =>
      obtain ⟨sa6, sc6, rfl⟩ : ∃ a c, v6 = .slice a 0 c := len_of hr12
      obtain ⟨ua6, uc6, rfl⟩ : ∃ a c, u6 = .slice a 0 c := len_of hra
      have HB6 := hid (HB5.out.trans ((below_alloc hb0 (.cells #[.int .i64 524288, .int .i64 nx, .slice sa6 0 sc6] 33)).mono HB5.out.size))
      clear hr12 hra hb0 hnx
      go_wp2_with fail
      refine (wakes_any _ (HA.out.below HB6.out) (HC.out.below HB6.out) (HL.out.below HB6.out)).mono ?_
      rintro e Ww ⟨rfl, hb⟩
      have HBw := hid (HB6.out.trans (hb.mono HB6.out.size))
      clear hb
      go_wp2
      go_ret
      exact ⟨rfl, HBw.out⟩
     | true =>
      obtain rfl : nx = 2 := hnx.symm
      have HPH := hid HAB.out
      obtain ⟨kd, hkd⟩ : ∃ q, askedK k.phase = q := ⟨_, rfl⟩
      have HKD := hid hkd
      have HKK := hid (show kd = 2 ∨ kd = 4 ∨ kd = 5 ∨ kd = 6 by rw [← hkd]; exact asked_kinds HPH.out)
      have HK6 := hid (show kd = 6 → k.phase = 8 by
       intro h
       have h1 := of_decide_eq_true HPH.out
       rw [← hkd] at h
       rcases h1 with h1 | h1 | h1 | h1 <;> rw [h1] at h ⊢ <;> revert h <;> decide)
      have HK8 := hid (show k.phase = 8 → kd = 6 by
       intro h
       rw [← hkd, h]
       rfl)
      have hr12 : Row12 Y6 v6 [⟨549755813889, kd, k.id, now⟩] := by rw [← hkd]; exact hr12
      have hra : RowOf 6 encY Y6 u6 [⟨kd, 549755813889, k.id⟩] := by rw [← hkd]; exact hra
      clear hkd hnx
      obtain ⟨sa6, sc6, rfl⟩ : ∃ a c, v6 = .slice a 1 c := len_of hr12
      obtain ⟨ua6, uc6, rfl⟩ : ∃ a c, u6 = .slice a 1 c := len_of hra
      obtain ⟨W6, hW⟩ : ∃ W, W = Y6.alloc (.cells #[.int .i64 524288, .int .i64 2, .slice sa6 1 sc6] 33) := ⟨_, rfl⟩
      have hz : Below Y6.heap.size Y6 W6 := by rw [hW]; exact (Below.refl _ _).alloc (Nat.le_refl _) _
      have hb : Below W5.heap.size W5 W6 := hb0.trans (hz.mono hb0.size)
      have HB6 := hid (HB5.out.trans (hb.mono HB5.out.size))
      have P6 := hid (blk_below P5.out hb (blk_lt P5.out))
      have K6 := hid (blk_below K5.out hb (blk_lt K5.out))
      have V6 := hid (V5.out.below hb)
      have R6 := hid (RowOf.below R5.out hb)
      have C6 := hid (show W6.heap[Y6.heap.size]? = some (.cells #[.int .i64 524288, .int .i64 2, .slice sa6 1 sc6] 33) by rw [hW]; exact heap_new _ _)
      have Q6 := hid (RowOf.below hr12 hz)
      obtain ⟨_, _, he, _, _, _, hop⟩ := (RowOf.below hra hz).open
      cases he
      obtain ⟨b1, o1, rfl, hb1, hr1⟩ := hop (by simp)
      have g0 := hr1 0 _ rfl 0 _ rfl
      have g1 := hr1 0 _ rfl 1 _ rfl
      have g2 := hr1 0 _ rfl 2 _ rfl
      have g3 := hr1 0 _ rfl 3 _ rfl
      have g4 := hr1 0 _ rfl 4 _ rfl
      have g5 := hr1 0 _ rfl 5 _ rfl
      simp only [Nat.zero_mul, Nat.add_zero] at g0 g1 g2 g3 g4 g5
      go_upto_region 5 with (fail)
      rw [← hW]
      obtain ⟨T8, hT⟩ : ∃ T, Y6.heap.size = T := ⟨_, rfl⟩
      rw [hT] at C6 ⊢
      clear hb hb0 hz hr12 hra hW hT hop hr1
      have HDO := hid (fun W (h : Below W6.heap.size W6 W) => rdo08_letter C (.slice a C.boxes.length c) kd 549755813889 k.id HKK.out W (RowOf.below R6.out h) HCR.out)
      unfold cloudA at HDO
      obtain ⟨p0, p1, p2, p3, p4, pf, pl⟩ := blk5 P6.out
      have HS := hid (show ∀ W, Below W6.heap.size W6 W → Below W6.heap.size W6 W ∧ W.cell? ⟨w.heap.size, 0, none⟩ = some (.slice a C.boxes.length c) ∧ W.cell? ⟨w.heap.size, 1, none⟩ = some (.int .i64 C.floor) ∧ W.cell? ⟨w.heap.size, 2, none⟩ = some (.int .i64 C.drain) ∧ W.cell? ⟨w.heap.size, 3, none⟩ = some (.int .i64 C.now) ∧ W.cell? ⟨w.heap.size, 4, none⟩ = some (.bool C.tight) ∧ W.cell? ⟨b1, o1, none⟩ = some (.int .u8 kd) ∧ W.cell? ⟨b1, o1 + 1, none⟩ = some (.int .i64 549755813889) ∧ W.cell? ⟨b1, o1 + 2, none⟩ = some (.int .i64 k.id) ∧ W.cell? ⟨b1, o1 + 3, none⟩ = some (.int .i64 0) ∧ W.cell? ⟨b1, o1 + 4, none⟩ = some (.int .i64 0) ∧ W.cell? ⟨b1, o1 + 5, none⟩ = some (.int .i64 0) from fun W hb => ⟨hb, cell_below p0 hb, cell_below p1 hb, cell_below p2 hb, cell_below p3 hb, cell_below p4 hb, cell_below g0 hb, cell_below g1 hb, cell_below g2 hb, cell_below g3 hb, cell_below g4 hb, cell_below g5 hb⟩)
      go_upto_region 7 with (fail)
      clear g0 g1 g2 g3 g4 g5 p0 p1 p2 p3 p4 pf pl
      refine wp_mono (Q := HdR w W6 T8 now k.id kd) ?region ?rest
      case region =>
       go_region_held3 (fun W => Below W6.heap.size W6 W ∧ W.cell? ⟨w.heap.size, 0, none⟩ = some (.slice a C.boxes.length c) ∧ W.cell? ⟨w.heap.size, 1, none⟩ = some (.int .i64 C.floor) ∧ W.cell? ⟨w.heap.size, 2, none⟩ = some (.int .i64 C.drain) ∧ W.cell? ⟨w.heap.size, 3, none⟩ = some (.int .i64 C.now) ∧ W.cell? ⟨w.heap.size, 4, none⟩ = some (.bool C.tight) ∧ W.cell? ⟨b1, o1, none⟩ = some (.int .u8 kd) ∧ W.cell? ⟨b1, o1 + 1, none⟩ = some (.int .i64 549755813889) ∧ W.cell? ⟨b1, o1 + 2, none⟩ = some (.int .i64 k.id) ∧ W.cell? ⟨b1, o1 + 3, none⟩ = some (.int .i64 0) ∧ W.cell? ⟨b1, o1 + 4, none⟩ = some (.int .i64 0) ∧ W.cell? ⟨b1, o1 + 5, none⟩ = some (.int .i64 0)) (first | exact HS.out _ (below_drewN (Below.refl _ _) 1) | (go_split_ands; exact HS.out _ (by assumption)) | (go_split_ands; exact HS.out _ (below_alloc (by assumption) _)) | (go_split_ands; exact HS.out _ (below_call (by assumption) hbt)) | (go_split_ands; exact HS.out _ (below_setRow (by assumption) (by first | omega | (simp; omega)) _))) ((go_at_call 30; go_split_ands; refine (HDO.out _ (by assumption)).mono ?_; rintro e Y7 ⟨dv, tv, rfl, h5, h1d, h6, h1t, HDV, hbt⟩; have hsz7 := hbt.size; have hVX : Below W6.heap.size W6 Y7 := below_call (by assumption) hbt; have hsX := hVX.size; have q1 := two_stores (W := ((Y7.alloc (.cells #[.slice none 0 0, .int .i64 0, .int .i64 0, .int .i64 0, .bool false] 72)).alloc (.cells #[.int .i64 0, .int .u8 0, .int .u8 0, .int .i64 0, .slice none 0 0, .bool false] 36))) (A := Y7.heap.size) (B := (Y7.heap.size + 1)) h5 h1d h6 h1t (blk_alloc (heap_new Y7 _) _) (heap_new2 Y7 _ _) (by omega); have sA1 := q1.1; have sB1 := q1.2.1; have F1 := hid q1.2.2; clear q1; have q2 := two_stores (W := ((Y7.alloc (.cells #[.int .i64 0, .int .u8 0, .int .u8 0, .int .i64 0, .slice none 0 0, .bool false] 36)).alloc (.cells #[.slice none 0 0, .int .i64 0, .int .i64 0, .int .i64 0, .bool false] 72))) (A := (Y7.heap.size + 1)) (B := Y7.heap.size) h5 h1d h6 h1t (heap_new2 Y7 _ _) (blk_alloc (heap_new Y7 _) _) (by omega); have sA2 := q2.1; have sB2 := q2.2.1; have F2 := hid q2.2.2; clear q2; (try (have q3 := two_stores (W := (Y7.alloc (.cells #[.int .i64 0, .int .u8 0, .int .u8 0, .int .i64 0, .slice none 0 0, .bool false] 36))) (A := W6.heap.size) (B := Y7.heap.size) h5 h1d h6 h1t (blk_alloc (blk_below (heap_new W6.drew (.cells #[.slice none 0 0, .int .i64 0, .int .i64 0, .int .i64 0, .bool false] 72)) hbt (by simp <;> omega)) _) (heap_new Y7 _) (by simp at hsz7; omega); have sA3 := q3.1; have sB3 := q3.2.1; have F3 := hid q3.2.2; clear q3)); (try (have q4 := two_stores (W := (Y7.alloc (.cells #[.slice none 0 0, .int .i64 0, .int .i64 0, .int .i64 0, .bool false] 72))) (A := Y7.heap.size) (B := W6.heap.size) h5 h1d h6 h1t (heap_new Y7 _) (blk_alloc (blk_below (heap_new W6.drew (.cells #[.int .i64 0, .int .u8 0, .int .u8 0, .int .i64 0, .slice none 0 0, .bool false] 36)) hbt (by simp <;> omega)) _) (by simp at hsz7; omega); have sA4 := q4.1; have sB4 := q4.2.1; have F4 := hid q4.2.2; clear q4)); (try (have q5 := two_stores (W := Y7) (A := W6.heap.size) (B := (W6.heap.size + 1)) h5 h1d h6 h1t (blk_below (blk_alloc (heap_new W6.drew (.cells #[.slice none 0 0, .int .i64 0, .int .i64 0, .int .i64 0, .bool false] 72)) (.cells #[.int .i64 0, .int .u8 0, .int .u8 0, .int .i64 0, .slice none 0 0, .bool false] 36)) hbt (by simp <;> omega)) (blk_below (heap_new2 W6.drew (.cells #[.slice none 0 0, .int .i64 0, .int .i64 0, .int .i64 0, .bool false] 72) (.cells #[.int .i64 0, .int .u8 0, .int .u8 0, .int .i64 0, .slice none 0 0, .bool false] 36)) hbt (by simp <;> omega)) (by omega); have sA5 := q5.1; have sB5 := q5.2.1; have F5 := hid q5.2.2; clear q5)); (try (have q6 := two_stores (W := Y7) (A := (W6.heap.size + 1)) (B := W6.heap.size) h5 h1d h6 h1t (blk_below (heap_new2 W6.drew (.cells #[.int .i64 0, .int .u8 0, .int .u8 0, .int .i64 0, .slice none 0 0, .bool false] 36) (.cells #[.slice none 0 0, .int .i64 0, .int .i64 0, .int .i64 0, .bool false] 72)) hbt (by simp <;> omega)) (blk_below (blk_alloc (heap_new W6.drew (.cells #[.int .i64 0, .int .u8 0, .int .u8 0, .int .i64 0, .slice none 0 0, .bool false] 36)) (.cells #[.slice none 0 0, .int .i64 0, .int .i64 0, .int .i64 0, .bool false] 72)) hbt (by simp <;> omega)) (by omega); have sA6 := q6.1; have sB6 := q6.2.1; have F6 := hid q6.2.2; clear q6)); clear h5 h1d h6 h1t hsz7))
       all_goals
        go_split_ands
        first
         | exact HdR.of (Y := Y7) rfl F1.out (((Below.refl _ _).alloc (Nat.le_refl _) _).alloc (by simp) _) (below_alloc (below_alloc hVX _) _) (by omega) (by omega) HDV.out
         | exact HdR.of (Y := Y7) rfl F2.out (((Below.refl _ _).alloc (Nat.le_refl _) _).alloc (by simp) _) (below_alloc (below_alloc hVX _) _) (by omega) (by omega) HDV.out
         | exact HdR.of (Y := Y7) rfl F3.out ((Below.refl _ _).alloc (Nat.le_refl _) _) (below_alloc hVX _) (by omega) (by omega) HDV.out
         | exact HdR.of (Y := Y7) rfl F4.out ((Below.refl _ _).alloc (Nat.le_refl _) _) (below_alloc hVX _) (by omega) (by omega) HDV.out
         | exact HdR.of (Y := Y7) rfl F5.out (Below.refl _ _) (hVX) (by omega) (by omega) HDV.out
         | exact HdR.of (Y := Y7) rfl F6.out (Below.refl _ _) (hVX) (by omega) (by omega) HDV.out
      case rest =>
       intro e a' W7 hR
       match e, hR with
       | .normal, hR =>
       obtain ⟨u, T10, T11, rfl, dn, D, da, dc, hda, hdb, hrd, hb, hp⟩ := hR
       unfold cloudA at hda
       have HP := hid hp
       have D7 := hid hda
       have T7 := hid hdb
       have R7 := hid hrd
       clear hrd hp hda hdb
       have HB7 := hid (HB6.out.trans (hb.mono HB6.out.size))
       have K7 := hid (blk_below K6.out hb (blk_lt K6.out))
       have V7 := hid (V6.out.below hb)
       have C7 := hid (blk_below C6.out hb (blk_lt C6.out))
       have Q7 := hid (RowOf.below Q6.out hb)
       go_upto_region 8 with (fail)
       clear hb
       have HHR := hid (hear_any (B0 k) bv 524288 2 549755813889 kd k.id now dn (.slice sa6 1 sc6) [⟨549755813889, kd, k.id, now⟩] none 0 0 false W7 V7.out.is Q7.out (by simp) (by have h := HP.out.codes; omega) HFI.out (by simp [B0]) (HA.out.below HB7.out) (HC.out.below HB7.out) (HL.out.below HB7.out))
       unfold calls tellT at HHR
       have hld := V7.out.load
       obtain ⟨c0, c1, c2, cf, cl⟩ := blk3 C7.out
       obtain ⟨t0, t1, t2, t3, t4, t5, tf, tl⟩ := blk6 T7.out
       go_wp2_with fail
       clear hld c0 c1 c2 cf cl t0 t1 t2 t3 t4 t5 tf tl
       refine HHR.out.mono ?_
       clear HHR
       rintro e Y8 ⟨v8, s8, rfl, hr, hs8, hb0⟩
       unfold calls
       dsimp only
       have hout := heard_out HPH.out HKID.out HNOW.out (dn := (dn : Int)) HP.out.codes
       rw [HKD.out] at hout
       rw [hout.1] at hs8
       obtain ⟨l, hl⟩ : ∃ l, hearL (B0 k) ⟨524288, 2, [⟨549755813889, kd, k.id, now⟩]⟩ 549755813889 kd dn k.id now = l := ⟨_, rfl⟩
       rw [hl] at hr hout
       obtain ⟨K', hK'⟩ : ∃ K, (foldR (B0 k) l).K = K := ⟨_, rfl⟩
       rw [hK'] at hout
       have HOUT := hid hout.2
       have HKP := hid hK'
       obtain ⟨sa8, sc8, rfl⟩ : ∃ a c, s8 = .slice a 0 c := len_of hs8
       obtain ⟨ra, rc, rfl⟩ := RecsL.len hr
       obtain ⟨W8, hW⟩ : ∃ W, W = Y8.alloc (.cells #[.int .i64 524288, .int .i64 2, .slice sa8 0 sc8] 33) := ⟨_, rfl⟩
       have hz : Below Y8.heap.size Y8 W8 := by rw [hW]; exact (Below.refl _ _).alloc (Nat.le_refl _) _
       have hb : Below W7.heap.size W7 W8 := hb0.trans (hz.mono hb0.size)
       have HB8 := hid (HB7.out.trans (hb.mono HB7.out.size))
       have K8 := hid (blk_below K7.out hb (blk_lt K7.out))
       have V8 := hid (V7.out.below hb)
       have D8 := hid (blk_below D7.out hb (blk_lt D7.out))
       have T8 := hid (blk_below T7.out hb (blk_lt T7.out))
       have R8 := hid (RowOf.below R7.out hb)
       have E8 := hid (show W8.heap[Y8.heap.size]? = some (.cells #[.int .i64 524288, .int .i64 2, .slice sa8 0 sc8] 33) by rw [hW]; exact heap_new _ _)
       obtain ⟨Rl, hRl, hRr⟩ := hr
       have hRr := RecsR.below hRr hz
       have hsm := out_small HOUT.out
       have hlen : Rl.length = l.length := by rw [← hRl, List.length_map]
       have hrk : ∀ x ∈ Rl, (x.k = 6 ∧ x.L.length = 3) ∨ (x.k = 7 ∧ x.L.length = 1) := fun x hx => hsm.2 (x.k, x.L) (by rw [← hRl]; exact List.mem_map_of_mem hx)
       have HAL := hid (rall_is Rl 900 V8.out.is hRr HFI.out (by omega) (by simp [B0]) (fun x hx => by have := hrk x hx; omega) (by omega) (fun x hx => by have := hrk x hx; omega))
       have HFD := hid (show (applyAll (B0 k) Rl).K = K' by rw [fold_map, hRl]; exact HKP.out)
       go_upto_region 9 with (fail)
       rw [← hW]
       obtain ⟨T13, hT⟩ : ∃ T, Y8.heap.size = T := ⟨_, rfl⟩
       rw [hT] at E8 ⊢
       clear hb hb0 hz hRl hRr hsm hlen hrk hW hT hs8 hout hl hK'
       have hld := V8.out.load
       go_wp2_with fail
       refine HAL.out.mono ?_
       clear HAL hld
       rintro e Y9 ⟨u, rfl, hend, hb0⟩
       obtain ⟨O, hO⟩ : ∃ O, applyAll (B0 k) Rl = O := ⟨_, rfl⟩
       rw [hO] at HFD hend
       obtain ⟨ma, mc, ia, ic, ka, kc, rfl, hm, hi, hkr⟩ := hend.is.open
       obtain ⟨bs, hbs⟩ : ∃ b : Array Value, b = brT O.f O.g (.slice ma O.M.length mc) (.slice ia O.I.length ic) (.slice ka O.K.length kc) := ⟨_, rfl⟩
       have hst := br_store_new (y := Y9) (zs := #[.int .i64 0, .int .i64 0, .bool false, .int .i64 0, .int .i64 0, .int .i64 0, .int .i64 0, .int .i64 0, .int .i64 0, .int .i64 0, .int .i64 0, .int .i64 0, .int .i64 0, .int .i64 0, .int .i64 0, .int .i64 0, .bool false, .slice none 0 0, .slice none 0 0, .slice none 0 0, .int .u8 0, .int .i64 0, .int .i64 0, .int .i64 0, .bool false, .int .i64 0, .int .i64 0]) (bs := bs) rfl (by rw [hbs]; rfl) (by rw [hbs]; simp [brT, Value.oneCell'])
       obtain ⟨W9, hW⟩ : ∃ W, W = Y9.alloc (.cells bs 30) := ⟨_, rfl⟩
       have hz : Below Y9.heap.size Y9 W9 := by rw [hW]; exact (Below.refl _ _).alloc (Nat.le_refl _) _
       have hb : Below W8.heap.size W8 W9 := hb0.trans (hz.mono hb0.size)
       have HB9 := hid (HB8.out.trans (hb.mono HB8.out.size))
       have K9 := hid (blk_below K8.out hb (blk_lt K8.out))
       have D9 := hid (blk_below D8.out hb (blk_lt D8.out))
       have T9 := hid (blk_below T8.out hb (blk_lt T8.out))
       have E9 := hid (blk_below E8.out hb (blk_lt E8.out))
       have R9 := hid (RowOf.below R8.out hb)
       have U9 := hid (show VarIs W9 Y9.heap.size O (.agg bs) by rw [hbs]; exact ⟨_, _, _, rfl, by rw [hW, hbs]; exact heap_new _ _, hm.below hz, hi.below hz, hkr.below hz⟩)
       have O19 := hid (show W9.cell? ⟨Y9.heap.size, 19, none⟩ = some (.slice ka O.K.length kc) from by rw [hW]; exact (blk_cell (heap_new Y9 _) 19).trans (by rw [hbs]; rfl))
       have OR := hid (hkr.below hz)
       rw [← hbs]
       clear hO hend hm hi hkr hb0 hz hbs
       go_upto_region 10 with (fail)
       rw [← hW]
       clear hst
       obtain ⟨T14, hT⟩ : ∃ T, Y9.heap.size = T := ⟨_, rfl⟩
       rw [hT] at U9 O19 ⊢
       clear hW hT hb
       obtain ⟨r1, hr1⟩ : ∃ r, findBx D.boxes k.id = r := ⟨_, rfl⟩
       have HR1 := hid hr1
       have HF1 := hid (fun d os => Calls.regrown_of (d := d) (os := os) (w := W9) (rfind08_any D (.slice da D.boxes.length dc) k.id r1 hr1 _ (RowOf.below R9.out (below_regrown W9 d os)) (by have := HP.out.len; omega)))
       unfold cloudA at HF1
       clear hr1
       rcases out_there HOUT.out with ⟨hk0, hi0, hcase⟩ | ⟨k', hk0, hi0, hcase⟩
       ·have HF2 := hid (fun d os => Calls.regrown_of (d := d) (os := os) (w := W9) (rfind13_at O (.agg bs) k.id (-1) (by rw [HFD.out]; exact hi0) _ (U9.out.below (below_regrown W9 d os)).is))
        have HCS := hid hcase
        clear hk0 hi0 hcase
        obtain ⟨p0, p1, p2, p3, p4, pf, pl⟩ := blk5 D9.out
        obtain ⟨q0, _, _, _, _, _, _, _, qf, ql⟩ := blk8 K9.out
        have kp0 := fun d os => cell_regrown p0 d os
        have kp1 := fun d os => cell_regrown p1 d os
        have kp2 := fun d os => cell_regrown p2 d os
        have kp3 := fun d os => cell_regrown p3 d os
        have kp4 := fun d os => cell_regrown p4 d os
        have kq0 := fun d os => cell_regrown q0 d os
        have klo := fun d os => (U9.out.below (below_regrown W9 d os)).load
        clear p0 p1 p2 p3 p4 pf pl q0 qf ql
        refine wp_region_quiet_below (by kernel_rfl) (by kernel_rfl) ?_
        repeat (go_big_quiet_step (first | exact HF1.out _ _ | exact HF2.out _ _))
        refine wpQuiet_nil ?_
        intro _ hw'
        obtain ⟨⟨dq, osq⟩, hw''⟩ := hw'
        subst hw''
        have hb := below_regrown W9 dq osq
        obtain ⟨X, hX⟩ : ∃ X, X = Sort.grow (redrawn W9 dq) osq := ⟨_, rfl⟩
        rw [← hX] at hb ⊢
        clear hX kp0 kp1 kp2 kp3 kp4 kq0 klo HF1 HF2
        have HB10 := hid (HB9.out.trans (hb.mono HB9.out.size))
        have K10 := hid (blk_below K9.out hb (blk_lt K9.out))
        have T10 := hid (blk_below T9.out hb (blk_lt T9.out))
        have E10 := hid (blk_below E9.out hb (blk_lt E9.out))
        have hO19 := cell_below O19.out hb
        have hOR := RowOf.below OR.out hb
        have hOL := (U9.out.below hb).lt
        obtain ⟨_, _, e2, ef, el⟩ := blk3 E10.out
        obtain ⟨_, _, t2, _, _, _, tf, tl⟩ := blk6 T10.out
        obtain ⟨_, _, _, _, q4, _, _, _, qf, ql⟩ := blk8 K10.out
        rcases HCS.out with h2 | ⟨h1, h8⟩
        ·have HDN := hid (show (dn : Int) = 2 from h2)
         have e1 : ((dn : Int) == 1) = false := by have h := HDN.out; simp only [beq_eq_false_iff_ne]; omega
         have e2 : ((dn : Int) == 2) = true := by have h := HDN.out; simp only [beq_iff_eq]; omega
         clear h2 hb
         go_wp2_with fail
         refine (wakes_any X (HA.out.below HB10.out) (HC.out.below HB10.out) (HL.out.below HB10.out)).mono ?_
         rintro e Ww ⟨rfl, hb⟩
         have HBw := hid (HB10.out.trans (hb.mono HB10.out.size))
         clear hb
         go_wp2
         go_ret
         exact ⟨rfl, HBw.out⟩
        ·have HPS := hid h8
         have HDN := hid (show (dn : Int) = 1 from h1)
         have e1 : ((dn : Int) == 1) = true := by have h := HDN.out; simp only [beq_iff_eq]; omega
         have e8 : (k.phase == 8) = true := by rw [HPS.out]; rfl
         have dr : decide (r1 < 0) = true := decide_eq_true (by rw [← HR1.out]; exact HP.out.gone h1 (HK8.out h8))
         clear h1 h8 hb
         go_wp2_with fail
         refine (wakes_any X (HA.out.below HB10.out) (HC.out.below HB10.out) (HL.out.below HB10.out)).mono ?_
         rintro e Ww ⟨rfl, hb⟩
         have HBw := hid (HB10.out.trans (hb.mono HB10.out.size))
         clear hb
         go_wp2
         go_ret
         exact ⟨rfl, HBw.out⟩
       ·have HF2 := hid (fun d os => Calls.regrown_of (d := d) (os := os) (w := W9) (rfind13_at O (.agg bs) k.id 0 (by rw [HFD.out]; exact hi0) _ (U9.out.below (below_regrown W9 d os)).is))
        have HCS := hid hcase
        have HK0 := hid (show O.K = [k'] from HFD.out.trans hk0)
        clear hk0 hi0 hcase
        obtain ⟨p0, p1, p2, p3, p4, pf, pl⟩ := blk5 D9.out
        obtain ⟨q0, _, _, _, _, _, _, _, qf, ql⟩ := blk8 K9.out
        have kp0 := fun d os => cell_regrown p0 d os
        have kp1 := fun d os => cell_regrown p1 d os
        have kp2 := fun d os => cell_regrown p2 d os
        have kp3 := fun d os => cell_regrown p3 d os
        have kp4 := fun d os => cell_regrown p4 d os
        have kq0 := fun d os => cell_regrown q0 d os
        have klo := fun d os => (U9.out.below (below_regrown W9 d os)).load
        clear p0 p1 p2 p3 p4 pf pl q0 qf ql
        refine wp_region_quiet_below (by kernel_rfl) (by kernel_rfl) ?_
        repeat (go_big_quiet_step (first | exact HF1.out _ _ | exact HF2.out _ _))
        refine wpQuiet_nil ?_
        intro _ hw'
        obtain ⟨⟨dq, osq⟩, hw''⟩ := hw'
        subst hw''
        have hb := below_regrown W9 dq osq
        obtain ⟨X, hX⟩ : ∃ X, X = Sort.grow (redrawn W9 dq) osq := ⟨_, rfl⟩
        rw [← hX] at hb ⊢
        clear hX kp0 kp1 kp2 kp3 kp4 kq0 klo HF1 HF2
        have HB10 := hid (HB9.out.trans (hb.mono HB9.out.size))
        have K10 := hid (blk_below K9.out hb (blk_lt K9.out))
        have T10 := hid (blk_below T9.out hb (blk_lt T9.out))
        have E10 := hid (blk_below E9.out hb (blk_lt E9.out))
        have hO19 := cell_below O19.out hb
        have hOR := RowOf.below OR.out hb
        have hOL := (U9.out.below hb).lt
        obtain ⟨_, _, e2, ef, el⟩ := blk3 E10.out
        obtain ⟨_, _, t2, _, _, _, tf, tl⟩ := blk6 T10.out
        obtain ⟨_, _, _, _, q4, _, _, _, qf, ql⟩ := blk8 K10.out
        have hk1 := HK0.out
        rw [hk1] at hO19 hOR
        obtain ⟨_, _, he, _, _, _, hop⟩ := hOR.open
        cases he
        obtain ⟨b6, o6, rfl, hb6, hr6⟩ := hop (by simp)
        have f4 := hr6 0 _ rfl 4 _ rfl
        simp only [Nat.zero_mul, Nat.add_zero] at f4
        have f4 : X.cell? ⟨b6, o6 + 4, none⟩ = some (.int .u8 k'.phase) := f4
        have f4' : X.cell? ⟨b6, o6 + 0 * 8 + 4, none⟩ = some (.int .u8 k'.phase) := by rw [Nat.zero_mul, Nat.add_zero]; exact f4
        simp only [List.length_singleton] at hO19
        clear hop hr6
        rcases HCS.out with ⟨h1, h8, hne⟩ | ⟨h1, h5, h4⟩ | ⟨⟨h1⟩ | ⟨h1, h5⟩, hl0⟩
        ·have HPS := hid h8
         have HDN := hid (show (dn : Int) = 1 from h1)
         have e1 : ((dn : Int) == 1) = true := by have h := HDN.out; simp only [beq_iff_eq]; omega
         have e8 : (k.phase == 8) = false := by simpa using HPS.out
         have dr : decide (0 ≤ r1) = true := decide_eq_true (by rw [← HR1.out]; exact HP.out.there h1 (fun h => h8 (HK6.out h)))
         have hnp : (k'.phase != k.phase) = true := by simpa using hne
         have kf4 := fun d os => cell_regrown f4 d os
         have kf5 := fun d os => cell_regrown f4' d os
         have kO := fun d os => cell_regrown hO19 d os
         have kq4 := fun d os => cell_regrown q4 d os
         have HWK := hid (fun d os => Calls.regrown_of (d := d) (os := os) (w := X) (wakes_any _ (HA.out.below (HB10.out.trans ((below_regrown X d os).mono HB10.out.size))) (HC.out.below (HB10.out.trans ((below_regrown X d os).mono HB10.out.size))) (HL.out.below (HB10.out.trans ((below_regrown X d os).mono HB10.out.size)))))
         clear h1 h8 hne hb
         go_upto_region 17 with (fail)
         refine wp_region_quiet_below (by kernel_rfl) (by kernel_rfl) ?_
         repeat (go_big_quiet_step (exact HWK.out _ _))
         refine wpQuiet_nil ?_
         intro _ hw'
         obtain ⟨⟨dq, osq⟩, hw''⟩ := hw'
         subst hw''
         have hbz := HB10.out.trans ((below_regrown X dq osq).mono HB10.out.size)
         go_wp2
         go_ret
         exact ⟨rfl, hbz⟩
        ·have HPS := hid h5
         have HDN := hid (show (dn : Int) = 3 from h1)
         have e1 : ((dn : Int) == 1) = false := by have h := HDN.out; simp only [beq_eq_false_iff_ne]; omega
         have e2 : ((dn : Int) == 2) = false := by have h := HDN.out; simp only [beq_eq_false_iff_ne]; omega
         have e3 : ((dn : Int) == 3) = true := by have h := HDN.out; simp only [beq_iff_eq]; omega
         have e5 : (k.phase != 5) = false := by rw [HPS.out]; rfl
         have e4 : (k'.phase == 4) = true := by rw [h4]; rfl
         have dr : decide (0 ≤ r1) = true := decide_eq_true (by rw [← HR1.out]; exact (HP.out.ref h1).2)
         clear h1 h5 h4 hb
         go_wp2_with fail
         refine (wakes_any X (HA.out.below HB10.out) (HC.out.below HB10.out) (HL.out.below HB10.out)).mono ?_
         rintro e Ww ⟨rfl, hb⟩
         have HBw := hid (HB10.out.trans (hb.mono HB10.out.size))
         clear hb
         go_wp2
         go_ret
         exact ⟨rfl, HBw.out⟩
        ·have HDN := hid (show (dn : Int) = 5 from h1)
         have e1 : ((dn : Int) == 1) = false := by have h := HDN.out; simp only [beq_eq_false_iff_ne]; omega
         have e2 : ((dn : Int) == 2) = false := by have h := HDN.out; simp only [beq_eq_false_iff_ne]; omega
         have e3 : ((dn : Int) == 3) = false := by have h := HDN.out; simp only [beq_eq_false_iff_ne]; omega
         have hl1 : l = [] := hl0
         subst hl1
         clear h1 hl0 hb
         go_wp2_with fail
         refine (wakes_any X (HA.out.below HB10.out) (HC.out.below HB10.out) (HL.out.below HB10.out)).mono ?_
         rintro e Ww ⟨rfl, hb⟩
         have HBw := hid (HB10.out.trans (hb.mono HB10.out.size))
         clear hb
         go_wp2
         go_ret
         exact ⟨rfl, HBw.out⟩
        ·have HPS := hid h5
         have HDN := hid (show (dn : Int) = 3 from h1)
         have e1 : ((dn : Int) == 1) = false := by have h := HDN.out; simp only [beq_eq_false_iff_ne]; omega
         have e2 : ((dn : Int) == 2) = false := by have h := HDN.out; simp only [beq_eq_false_iff_ne]; omega
         have e3 : ((dn : Int) == 3) = true := by have h := HDN.out; simp only [beq_iff_eq]; omega
         have e5 : (k.phase != 5) = true := by simpa using h5
         have dr : decide (0 ≤ r1) = true := decide_eq_true (by rw [← HR1.out]; exact (HP.out.ref h1).2)
         clear h1 h5 hb
         go_wp2_with fail
         refine (wakes_any X (HA.out.below HB10.out) (HC.out.below HB10.out) (HL.out.below HB10.out)).mono ?_
         rintro e Ww ⟨rfl, hb⟩
         have HBw := hid (HB10.out.trans (hb.mono HB10.out.size))
         clear hb
         go_wp2
         go_ret
         exact ⟨rfl, HBw.out⟩
end Go.Proofs.YthhgpiolcnojfaaGreatDoor
