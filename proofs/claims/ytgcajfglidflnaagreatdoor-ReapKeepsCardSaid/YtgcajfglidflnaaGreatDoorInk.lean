import Derived.Test.YtgcajfglidflnaaGreatDoorFkm
import Derived.Shelf.Spec.SlicesInsert
import Derived.Lib.AppendZerosOnto
import Derived.Lib.Overlaps
import Derived.Laws.Externs
import Derived.Laws.NewBlocks
/- slices.Insert of one Kept into a row of the call's own. -/
namespace Go.Proofs.YtgcajfglidflnaaGreatDoor
open Go.RowKit Go.Shelf

theorem add0 (b o j : Nat) : (⟨b, o, none⟩ : Addr).add j = ⟨b, o + j, none⟩ := by unfold Addr.add; split <;> simp_all
/-- 'copy' of things of k cells, in terms of cells: all is read before anything is written. -/
theorem run_copy_k {P : Program} (w : World) (dT sT ty elem : TypeId) (k n b o dLen dCap : Nat) (a : Addr) (sLen sCap : Nat) (cs : List Value)
  (hu : P.underlying dT = some (.slice elem)) (hs : (P.info? elem).map (·.size) = some k) (hn : n = Nat.min sLen dLen) (hcl : cs.length = n * k)
  (hsrc : ∀ j v, cs[j]? = some v → w.cell? (a.add j) = some v) (hc : ∀ j, j < cs.length → (w.cell? ⟨b, o + j, none⟩).isSome = true) (hf : ∀ j, j < cs.length → w.frozen? ⟨b, o + j, none⟩ = false) (h1 : ∀ v ∈ cs, v.oneCell' = true) :
  (Builtin.copy_ #[dT, sT] ty #[.slice (some ⟨b, o, none⟩) dLen dCap, .slice (some a) sLen sCap]).run P w = .ok (goInt n) (w.setCells b o cs) := by
 have hl := run_loadCells_list (P := P) w a cs hsrc
 rw [hcl] at hl
 have hst := run_storeCells_cells (P := P) b o cs 0 w (by simpa using hc) (by simpa using hf) h1
 cases hq : P.info? elem with
 | none => simp [hq] at hs
 | some i =>
  have hi : i.size = k := by simpa [hq] using hs
  simp [Builtin.copy_, run_underlying hu, Builtin.lenOf, Builtin.firstCells, sizeOf, typeInfo, hq, hi, ← hn, hl, hst]
/-- One thing is put between others. -/
def insAt {α : Type} (l : List α) (i : Nat) (x : α) : List α := l.take i ++ [x] ++ l.drop i
/-- The row behind the two copies of slices.Insert, in place. -/
theorem Owns.insert {α : Type} {k : Nat} {e : TypeId} {enc : α → List Value} {w : World} {base g c : Nat} {l : List α} (hk : ∀ x, (enc x).length = k) (h : Owns k e enc w base (.slice (some ⟨g, 0, none⟩) l.length c) l) {i : Nat} (hi : i < l.length) (hc : l.length + 1 ≤ c) (x : α) :
  Owns k e enc ((w.setCells g ((i + 1) * k) ((l.drop i).flatMap enc)).setCells g (i * k) (enc x)) base (.slice (some ⟨g, 0, none⟩) (l.length + 1) c) (insAt l i x) := by
 obtain ⟨cur, h1, h2, h3, h4, h5, h6, h7⟩ := Owns.blk h
 obtain ⟨c1, q1, q2, q3, q4, q5⟩ := setCells_blk g ((l.drop i).flatMap enc) ((i + 1) * k) w cur h1
 obtain ⟨c2, r1, r2, r3, r4, r5⟩ := setCells_blk g (enc x) (i * k) _ c1 q1
 have hD : ((l.drop i).flatMap enc).length = (l.length - i) * k := by rw [flat_len hk, List.length_drop]
 have hX := hk x
 have hA : ((l.take i).flatMap enc).length = i * k := by rw [flat_len hk, List.length_take, Nat.min_eq_left (by omega)]
 have m1 : (i + 1) * k = i * k + k := by rw [Nat.add_mul, Nat.one_mul]
 have m2 : (l.length - i) * k + i * k = l.length * k := by rw [← Nat.add_mul]; congr 1; omega
 have m3 : (l.length + 1) * k = l.length * k + k := by rw [Nat.add_mul, Nat.one_mul]
 have m4 : (l.length + 1) * k ≤ c * k := Nat.mul_le_mul_right k hc
 refine Owns.mk hk r1 (by unfold insAt; simp; omega) hc h4 h5 (by rw [r2, q2, h6]) ?_
 apply List.ext_getElem?
 intro q
 have hcur : ∀ q, q < l.length * k → cur[q]? = (l.flatMap enc)[q]? := by
  intro q hq
  rw [← h7, List.getElem?_take, if_pos hq]; simp
 unfold insAt
 rw [List.flatMap_append, List.flatMap_append, List.flatMap_singleton]
 by_cases hq : q < (l.length + 1) * k
 ·rw [List.getElem?_take, if_pos hq]
  have e1 : c2.toList[q]? = c2[q]? := by simp
  rw [e1]
  by_cases b1 : q < i * k
  ·rw [r3 q b1, q3 q (by omega), hcur q (by omega), List.append_assoc, List.getElem?_append_left (by rw [hA]; exact b1), flat_split l i, List.getElem?_append_left (by rw [hA]; exact b1)]
  ·by_cases b2 : q < i * k + k
   ·have := r5 (by rw [hX, q2, h6]; omega) (q - i * k) (by rw [hX]; omega)
    rw [show i * k + (q - i * k) = q by omega] at this
    rw [this, List.append_assoc, List.getElem?_append_right (by rw [hA]; omega), hA, List.getElem?_append_left (by rw [hX]; omega)]
   ·rw [r4 q (by rw [hX]; omega)]
    have := q5 (by rw [hD, h6]; omega) (q - (i + 1) * k) (by rw [hD]; omega)
    rw [show (i + 1) * k + (q - (i + 1) * k) = q by omega] at this
    rw [this, List.getElem?_append_right (by rw [List.length_append, hA, hX]; omega)]
    congr 1
    rw [List.length_append, hA, hX]
    omega
 ·rw [List.getElem?_eq_none (by simp; omega), List.getElem?_eq_none]
  simp only [List.length_append, hA, hX, hD]
  omega
/-- The row behind the two copies of slices.Insert, in a new row. -/
theorem Owns.insertNew {α : Type} {k : Nat} {e : TypeId} {enc : α → List Value} {w : World} {base g G : Nat} {l : List α} (hk : ∀ x, (enc x).length = k) {ROW : Array Value} (h1 : w.heap[g]? = some (.cells ROW e)) (hs : ROW.size = G * k) (hb : base ≤ g) (hG : l.length + 1 ≤ G) (hG2 : G ≤ maxLen)
  {i : Nat} (hi : i < l.length) (hA0 : ∀ q, q < i * k → ROW[q]? = ((l.take i).flatMap enc)[q]?) (x : α) :
  Owns k e enc ((w.setCells g (i * k) (enc x)).setCells g ((i + 1) * k) ((l.drop i).flatMap enc)) base (.slice (some ⟨g, 0, none⟩) (l.length + 1) G) (insAt l i x) := by
 obtain ⟨c1, q1, q2, q3, q4, q5⟩ := setCells_blk g (enc x) (i * k) w ROW h1
 obtain ⟨c2, r1, r2, r3, r4, r5⟩ := setCells_blk g ((l.drop i).flatMap enc) ((i + 1) * k) _ c1 q1
 have hD : ((l.drop i).flatMap enc).length = (l.length - i) * k := by rw [flat_len hk, List.length_drop]
 have hX := hk x
 have hA : ((l.take i).flatMap enc).length = i * k := by rw [flat_len hk, List.length_take, Nat.min_eq_left (by omega)]
 have m1 : (i + 1) * k = i * k + k := by rw [Nat.add_mul, Nat.one_mul]
 have m2 : (l.length - i) * k + i * k = l.length * k := by rw [← Nat.add_mul]; congr 1; omega
 have m3 : (l.length + 1) * k = l.length * k + k := by rw [Nat.add_mul, Nat.one_mul]
 have m4 : (l.length + 1) * k ≤ G * k := Nat.mul_le_mul_right k hG
 refine Owns.mk hk r1 (by unfold insAt; simp; omega) hG hG2 hb (by rw [r2, q2, hs]) ?_
 apply List.ext_getElem?
 intro q
 unfold insAt
 rw [List.flatMap_append, List.flatMap_append, List.flatMap_singleton]
 by_cases hq : q < (l.length + 1) * k
 ·rw [List.getElem?_take, if_pos hq]
  have e1 : c2.toList[q]? = c2[q]? := by simp
  rw [e1]
  by_cases b1 : q < i * k
  ·rw [r3 q (by omega), q3 q b1, hA0 q b1, List.append_assoc, List.getElem?_append_left (by rw [hA]; exact b1)]
  ·by_cases b2 : q < i * k + k
   ·have := q5 (by rw [hX, hs]; omega) (q - i * k) (by rw [hX]; omega)
    rw [show i * k + (q - i * k) = q by omega] at this
    rw [r3 q (by omega), this, List.append_assoc, List.getElem?_append_right (by rw [hA]; omega), hA, List.getElem?_append_left (by rw [hX]; omega)]
   ·have := r5 (by rw [hD, q2, hs]; omega) (q - (i + 1) * k) (by rw [hD]; omega)
    rw [show (i + 1) * k + (q - (i + 1) * k) = q by omega] at this
    rw [this, List.getElem?_append_right (by rw [List.length_append, hA, hX]; omega)]
    congr 1
    rw [List.length_append, hA, hX]
    omega
 ·rw [List.getElem?_eq_none (by simp; omega), List.getElem?_eq_none]
  simp only [List.length_append, hA, hX, hD]
  omega
end Go.Proofs.YtgcajfglidflnaaGreatDoor

/- slices.Insert of one Kept: its three roads. -/
namespace Go.Proofs.YtgcajfglidflnaaGreatDoor
open Go.RowKit Go.Shelf

theorem set_below {B : Nat} {a W : World} {g : Nat} (h : Below B a W) (hg : B ≤ g) (hs : B ≤ W.heap.size) (o : Nat) (vs : List Value) : Below B a (W.setCells g o vs) := by
 have hh := setCells_grown g o vs W
 exact h.grown hh hs (fun k e => by cases e; exact hg)
theorem owns_drew {α : Type} {k : Nat} {e : TypeId} {enc : α → List Value} {w : World} {base : Nat} {v : Value} {l : List α} (h : Owns k e enc w base v l) : Owns k e enc w.drew base v l := Owns.below h (below_drewN (Below.refl _ _) 1)
/-- The Kept that is put in lies alone in a block. -/
def KBlk (w : World) (vb : Nat) (x : KeptV) : Prop := w.heap[vb]? = some (.cells (encKp x).toArray 51)
theorem KBlk.row {w : World} {vb : Nat} {x : KeptV} (h : KBlk w vb x) : RowOf 8 encKp w (.slice (some ⟨vb, 0, none⟩) 1 1) [x] := by
 refine .inr ⟨by simp, vb, 0, 1, by simp, by simp, by decide, blk_lt h, ?_⟩
 intro i y hi j v hj
 cases i with
 | zero =>
  simp at hi
  subst hi
  rw [blk_cell h]
  simpa using hj
 | succ i => simp at hi
set_option maxHeartbeats 1000000 in
set_option maxRecDepth 100000 in
theorem insert_end (base : Nat) (v : Value) (l : List KeptV) (x : KeptV) (vb : Nat) (w : World) (hown : OwnK w base v l) (hb : base ≤ w.heap.size) (hl : l.length ≤ 100000) (hx : KBlk w vb x) :
  Calls Tryz.prog 102 #[v, .int .i64 l.length, .slice (some ⟨vb, 0, none⟩) 1 1] w fun e w' => ∃ v', e = .returned v' ∧ OwnK w' base v' (l ++ [x]) ∧ w.grownBy w' v.ownBlock := by
 obtain ⟨i0, hi, hz0, hz1, hz2⟩ := info_parts infoKp
 have c1 : l.length + [x].length ≤ maxLen := by unfold maxLen; simp; omega
 have c2 : (l.length + [x].length) * 56 ≤ 140737488355328 := by simp; omega
 have HO := hid hown
 have HX := hid hx.row
 rcases Owns.form hown with ⟨rfl, rfl⟩ | ⟨g, c, rfl, hg, hgl⟩
 ·clear hown hx
  go_enter Tryz.func102, Tryz.ntmps102
  go_wp2_with (at_builtin; go_loud (refine append_rows rfl _ _ 29 rfl base 51 i0 _ 56 Tryz.underlying29 hi hz0 hz1 hz2 rfl (by decide) encKp_len encKp_one _ [] rfl HO.out _ [x] rfl HX.out c1 c2 hb ?_); intro v' w1 hown hgrow)
  go_ret
  exact ⟨v', rfl, by simpa using hown, hgrow⟩
 ·have hlc := (Owns.cells hown).2.2.2.1
  clear hown hx
  go_enter Tryz.func102, Tryz.ntmps102
  go_wp2_with (at_builtin; go_loud (refine append_rows rfl _ _ 29 rfl base 51 i0 _ 56 Tryz.underlying29 hi hz0 hz1 hz2 rfl (by decide) encKp_len encKp_one _ l rfl HO.out _ [x] rfl HX.out c1 c2 hb ?_); intro v' w1 hown hgrow)
  all_goals
   go_ret
   exact ⟨v', rfl, hown, hgrow⟩

theorem overlaps_apart (w : World) (_b vb g off : Nat) (lb cb : Nat) (hne : vb ≠ g) {c1 c2 : Array Value} {t1 t2 : TypeId} (h1 : w.heap[vb]? = some (.cells c1 t1)) (h2 : w.heap[g]? = some (.cells c2 t2)) (hk : c2.size ≠ 0) :
  (callFunc 105 #[.slice (some ⟨vb, 0, none⟩) 1 1, .slice (some ⟨g, off, none⟩) lb cb]).run Tryz.prog w = .ok (.value (.bool false)) w := by
 rw [run_callFunc_extern Tryz.func105 (by kernel_rfl) (by kernel_rfl) (by kernel_rfl) (e := Extern.SlicesOverlaps.overlaps #[29, 29] #[4]) (by kernel_rfl),
  Lib.run_overlaps_apart w 29 4 51 Tryz.underlying29 8 (fun w => by kernel_rfl) ⟨vb, 0, none⟩ ⟨g, off, none⟩ 1 1 lb cb hne t1 t2 c1.size c2.size (by unfold World.shape?; simp [h1]) (by unfold World.shape?; simp [h2]) hk (blk_free h1 _) (blk_free h1 _)]
 rfl

set_option maxHeartbeats 4000000 in
set_option maxRecDepth 100000 in
theorem insert_room (base g c i : Nat) (l : List KeptV) (x : KeptV) (vb : Nat) (w : World) (hown : OwnK w base (.slice (some ⟨g, 0, none⟩) l.length c) l) (hi : i < l.length) (hc : l.length + 1 ≤ c) (hl : l.length ≤ 100000) (hx : KBlk w vb x) (hvb : vb ≠ g) :
  Calls Tryz.prog 102 #[.slice (some ⟨g, 0, none⟩) l.length c, .int .i64 i, .slice (some ⟨vb, 0, none⟩) 1 1] w fun e w' => ∃ v', e = .returned v' ∧ OwnK w' base v' (insAt l i x) ∧ w.grownBy w' (some g) := by
 obtain ⟨cur, h1, h2, h3, h4, h5, h6, h7⟩ := Owns.blk hown
 have hcm := h4
 unfold maxLen at hcm
 have hov : ∀ lb cb off, (callFunc 105 #[.slice (some ⟨vb, 0, none⟩) 1 1, .slice (some ⟨g, off, none⟩) lb cb]).run Tryz.prog w = .ok (.value (.bool false)) w := fun lb cb off => overlaps_apart w 0 vb g off lb cb hvb hx h1 (by omega)
 have hsz : (Tryz.prog.info? 51).map (·.size) = some 8 := by kernel_rfl
 have hD : ((l.drop i).flatMap encKp).length = (l.length - i) * 8 := by rw [flat_len encKp_len, List.length_drop]
 have hcell : ∀ j, j < c * 8 → (w.cell? ⟨g, j, none⟩).isSome = true := (Owns.cells hown).1
 have hfz : ∀ j, w.frozen? ⟨g, j, none⟩ = false := blk_free h1
 have hsrc : ∀ j v, ((l.drop i).flatMap encKp)[j]? = some v → w.cell? ⟨g, i * 8 + j, none⟩ = some v := by
  intro j v hj
  have hlt := lt_get hj
  rw [hD] at hlt
  rw [blk_cell h1]
  have e1 : (l.flatMap encKp)[i * 8 + j]? = some v := by
   rw [flat_split l i, List.getElem?_append_right (by rw [flat_len encKp_len, List.length_take, Nat.min_eq_left (by omega)]; omega), flat_len encKp_len, List.length_take, Nat.min_eq_left (by omega)]
   rw [show i * 8 + j - i * 8 = j by omega]; exact hj
  rw [← h7, List.getElem?_take] at e1
  split at e1
  ·simpa using e1
  ·cases e1
 have hone : ∀ v ∈ (l.drop i).flatMap encKp, v.oneCell' = true := by
  intro v hv
  obtain ⟨y, _, hy⟩ := List.mem_flatMap.1 hv
  exact encKp_one y v hy
 have hcp1 : ∀ ty dc sc, (Builtin.copy_ #[29, 29] ty #[.slice (some ⟨g, (i + 1) * 8, none⟩) (l.length - i) dc, .slice (some ⟨g, i * 8, none⟩) (l.length + 1 - i) sc]).run Tryz.prog w.drew = .ok (goInt (l.length - i : Nat)) (w.drew.setCells g ((i + 1) * 8) ((l.drop i).flatMap encKp)) := fun ty dc sc =>
  run_copy_k w.drew _ _ ty 51 8 (l.length - i) g ((i + 1) * 8) (l.length - i) dc ⟨g, i * 8, none⟩ (l.length + 1 - i) sc _ Tryz.underlying29 hsz (by simp only [Nat.min_def]; split <;> omega) hD
   (fun j v hj => by rw [add0]; exact hsrc j v hj) (fun j hj => by rw [hD] at hj; exact hcell _ (by omega)) (fun j _ => hfz _) hone
 obtain ⟨W1, hW1⟩ : ∃ W1, W1 = w.drew.setCells g ((i + 1) * 8) ((l.drop i).flatMap encKp) := ⟨_, rfl⟩
 have hcell1 : ∀ j, j < c * 8 → (W1.cell? ⟨g, j, none⟩).isSome = true := fun j hj => by
  rw [hW1]
  exact isSome_setCells g _ _ _ (fun t ht => by rw [hD] at ht; exact hcell _ (by omega)) _ (hcell j hj)
 have hcp2 : ∀ (W : World), (∀ y, W.cell? y = W1.cell? y) → (∀ y, W.frozen? y = W1.frozen? y) → ∀ ty dc, (Builtin.copy_ #[29, 29] ty #[.slice (some ⟨g, i * 8, none⟩) (l.length + 1 - i) dc, .slice (some ⟨vb, 0, none⟩) 1 1]).run Tryz.prog W = .ok (goInt (1 : Nat)) (W.setCells g (i * 8) (encKp x)) := fun W hWc hWf ty dc =>
  run_copy_k W _ _ ty 51 8 1 g (i * 8) (l.length + 1 - i) dc ⟨vb, 0, none⟩ 1 1 (encKp x) Tryz.underlying29 hsz (by simp only [Nat.min_def]; split <;> omega) rfl
   (fun j v hj => by
    rw [add0, Nat.zero_add, hWc, hW1, World.cell?_setCells_out g _ _ _ _ (fun h _ => absurd h hvb)]
    show w.cell? _ = _
    rw [blk_cell hx]
    simpa using hj)
   (fun j hj => by rw [hWc]; exact hcell1 _ (by rw [encKp_len] at hj; omega)) (fun j _ => by rw [hWf, hW1, World.frozen?_setCells]; exact hfz _) (encKp_one x)
 have HFIN := hid (Owns.insert encKp_len (Owns.below hown (below_drewN (Below.refl _ _) 1)) hi hc x)
 rw [← hW1] at hcp1
 have HW1 := hid hW1
 have HCP1 := hid hcp1
 have HCP2 := hid hcp2
 have HOV := hid hov
 have hb2 : ¬ (c = i + 1) := by omega
 have hb4 : ¬ (c = i) := by omega
 have hin : i ≤ l.length := by omega
 have hz2 : ¬ ((i : Int) = (l.length : Int)) := by omega
 have hq2 : ((i : Int) == (l.length : Int)) = false := by simpa using hz2
 have hz3 : ¬ ((c : Int) < (l.length : Int) + 1) := by omega
 have hz4 : (l.length : Int) + 1 ≤ (c : Int) := by omega
 have hz5 : (i : Int) ≤ (l.length : Int) := by omega
 have hz6 : (i : Int) + 1 ≤ (l.length : Int) + 1 := by omega
 have hw1 : IntKind.i64.wrap ((i : Int) + 1) = (i : Int) + 1 := IntWalk.i64_in _ (by omega)
 have htn : ((i : Int) + 1).toNat = i + 1 := by omega
 have hb1 : (0 : Int) ≤ (i : Int) + 1 := by omega
 have hz7 : (i : Int) ≤ (l.length : Int) + 1 := by omega
 clear hown hx h1 h7 hcell hfz hsrc hone hcell1 hW1 hcp1 hcp2 hov hD
 have k0 := HOV.out
 have k1 := HCP1.out
 have k2 := HCP2.out W1 (fun _ => rfl) (fun _ => rfl)
 have k3 := HCP2.out W1.drew (fun _ => rfl) (fun _ => rfl)
 go_enter Tryz.func102, Tryz.ntmps102
 go_wp2
 go_region
 go_wp2
 go_ret
 refine ⟨_, rfl, ?_, ?_⟩
 ·rw [HW1.out]; exact HFIN.out
 ·rw [HW1.out]
  have q1 := setCells_grown g ((i + 1) * 8) ((l.drop i).flatMap encKp) w.drew
  exact grown_trans (b := w.drew.setCells g ((i + 1) * 8) ((l.drop i).flatMap encKp)) ⟨q1.os, q1.tape, q1.output, q1.size, q1.block⟩ (setCells_grown g _ _ _)

set_option maxHeartbeats 4000000 in
set_option maxRecDepth 100000 in
theorem insert_grow (base g i : Nat) (l : List KeptV) (x : KeptV) (vb : Nat) (w : World) (hown : OwnK w base (.slice (some ⟨g, 0, none⟩) l.length l.length) l) (hi : i < l.length) (hb : base ≤ w.heap.size) (hl : l.length ≤ 100000) (hx : KBlk w vb x) :
  Calls Tryz.prog 102 #[.slice (some ⟨g, 0, none⟩) l.length l.length, .int .i64 i, .slice (some ⟨vb, 0, none⟩) 1 1] w fun e w' => ∃ v', e = .returned v' ∧ OwnK w' base v' (insAt l i x) ∧ w.grownBy w' none := by
 obtain ⟨i0, hi0, hz0, hzs, hzb⟩ := info_parts infoKp
 obtain ⟨cur, h1, h2, h3, h4, h5, h6, h7⟩ := Owns.blk hown
 have hsz : (Tryz.prog.info? 51).map (·.size) = some 8 := by kernel_rfl
 have hgw : g < w.heap.size := blk_lt h1
 have hvw : vb < w.heap.size := blk_lt hx
 have hD : ((l.drop i).flatMap encKp).length = (l.length - i) * 8 := by rw [flat_len encKp_len, List.length_drop]
 have hA : ((l.take i).flatMap encKp).length = i * 8 := by rw [flat_len encKp_len, List.length_take, Nat.min_eq_left (by omega)]
 have hall : ∀ j v, (l.flatMap encKp)[j]? = some v → w.cell? ⟨g, j, none⟩ = some v := by
  intro j v e1
  rw [blk_cell h1]
  rw [← h7, List.getElem?_take] at e1
  split at e1
  ·simpa using e1
  ·cases e1
 have hsrc : ∀ j v, ((l.drop i).flatMap encKp)[j]? = some v → w.cell? ⟨g, i * 8 + j, none⟩ = some v := by
  intro j v hj
  apply hall
  rw [flat_split l i, List.getElem?_append_right (by rw [hA]; omega), hA]
  rw [show i * 8 + j - i * 8 = j by omega]; exact hj
 have hone : ∀ v ∈ (l.drop i).flatMap encKp, v.oneCell' = true := by
  intro v hv
  obtain ⟨y, _, hy⟩ := List.mem_flatMap.1 hv
  exact encKp_one y v hy
 have hold : (Builtin.firstCells i0.size i (.slice (some ⟨g, 0, none⟩) i l.length)).run Tryz.prog w.drew = .ok ((l.take i).flatMap encKp).toArray w.drew := by
  have := run_loadCells_list (P := Tryz.prog) w.drew ⟨g, 0, none⟩ ((l.take i).flatMap encKp) (fun j v hj => by
   rw [add0, Nat.zero_add]
   show w.cell? _ = _
   apply hall
   have := lt_get hj
   rw [flat_split l i, List.getElem?_append_left this]; exact hj)
  rw [hA] at this
  rw [hzs]
  exact this
 have hkk : (l.length : Int) + 1 - (i : Int) = ((l.length + 1 - i : Nat) : Int) := by omega
 have hik : i + (l.length + 1 - i) = l.length + 1 := by omega
 have hrz : ∀ ty, (Builtin.append_ #[29, 3] ty #[.slice (some ⟨g, 0, none⟩) i l.length, .int .i64 ((l.length : Int) + 1 - (i : Int))]).run Tryz.prog w =
   .ok (.slice (some ⟨w.heap.size, 0, none⟩) (l.length + 1) (grownCap w (l.length + 1) l.length 51)) (w.drew.alloc (.cells (((l.take i).flatMap encKp).toArray ++ Builtin.zeroCells (Value.agg #[.int .i64 0, .int .i64 0, .int .i64 0, .int .i64 0, .int .u8 0, .int .i64 0, .bool false, .bool false]).cells (l.length + 1 - i) ++ Builtin.zeroCells (Value.agg #[.int .i64 0, .int .i64 0, .int .i64 0, .int .i64 0, .int .u8 0, .int .i64 0, .bool false, .bool false]).cells (grownCap w (l.length + 1) l.length 51 - (l.length + 1))) 51)) := fun ty => by
  have h := Lib.run_append_grow_zeros w 29 3 ty 51 i0 _ .i64 .i64 Tryz.underlying29 Tryz.underlying3 hi0 hz0 (some ⟨g, 0, none⟩) i l.length _ hold (l.length + 1 - i) (by omega) (by omega) (by omega) (by omega) (by rw [hzb]; omega) (by rw [hzb, hik]; exact growslice_fits (by omega) (by omega))
  rw [hik] at h
  rw [hkk]
  exact h
 obtain ⟨G, hG⟩ : ∃ G, G = grownCap w (l.length + 1) l.length 51 := ⟨_, rfl⟩
 have hGn : l.length + 1 ≤ G := by rw [hG]; exact grownCap_ge w _ _ _
 have hG63 : G ≤ maxLen := by rw [hG]; exact grownCap_le_maxLen w (l.length + 1) l.length 51 (by unfold maxLen; omega)
 obtain ⟨ROW, hROW⟩ : ∃ ROW : Array Value, ROW = ((l.take i).flatMap encKp).toArray ++ Builtin.zeroCells (Value.agg #[.int .i64 0, .int .i64 0, .int .i64 0, .int .i64 0, .int .u8 0, .int .i64 0, .bool false, .bool false]).cells (l.length + 1 - i) ++ Builtin.zeroCells (Value.agg #[.int .i64 0, .int .i64 0, .int .i64 0, .int .i64 0, .int .u8 0, .int .i64 0, .bool false, .bool false]).cells (G - (l.length + 1)) := ⟨_, rfl⟩
 rw [← hG] at hrz
 rw [← hROW] at hrz
 have hRs : ROW.size = G * 8 := by
  rw [hROW]
  simp only [Array.size_append, List.size_toArray, hA, Builtin.zeroCells, Array.size_map, Array.size_range, Value.cells, List.size_toArray, List.length_cons, List.length_nil]
  omega
 have hRA : ∀ q, q < i * 8 → ROW[q]? = ((l.take i).flatMap encKp)[q]? := by
  intro q hq
  rw [hROW, Array.append_assoc, Array.getElem?_append_left (by simp only [List.size_toArray, hA]; exact hq)]
  simp
 obtain ⟨W1, hW1⟩ : ∃ W1, W1 = w.drew.alloc (.cells ROW 51) := ⟨_, rfl⟩
 have hN1 : W1.heap[w.heap.size]? = some (.cells ROW 51) := by rw [hW1]; exact heap_new w.drew _
 have hB1 : Below w.heap.size w W1 := by rw [hW1]; exact (below_drewN (Below.refl _ _) 1).alloc (Nat.le_refl _) _
 rw [← hW1] at hrz
 have hN : ∀ j, j < G * 8 → (W1.cell? ⟨w.heap.size, j, none⟩).isSome = true := fun j hj => by
  rw [blk_cell hN1, Array.getElem?_eq_getElem (by rw [hRs]; exact hj)]; rfl
 have hNf : ∀ j, W1.frozen? ⟨w.heap.size, j, none⟩ = false := blk_free hN1
 have hcpA : ∀ (W : World), (∀ y, W.cell? y = W1.cell? y) → (∀ y, W.frozen? y = W1.frozen? y) → ∀ ty dc, (Builtin.copy_ #[29, 29] ty #[.slice (some ⟨w.heap.size, i * 8, none⟩) (l.length + 1 - i) dc, .slice (some ⟨vb, 0, none⟩) 1 1]).run Tryz.prog W = .ok (goInt (1 : Nat)) (W.setCells w.heap.size (i * 8) (encKp x)) := fun W hWc hWf ty dc =>
  run_copy_k W _ _ ty 51 8 1 w.heap.size (i * 8) (l.length + 1 - i) dc ⟨vb, 0, none⟩ 1 1 (encKp x) Tryz.underlying29 hsz (by simp only [Nat.min_def]; split <;> omega) rfl
   (fun j v hj => by
    rw [add0, Nat.zero_add, hWc, hB1.cell (p := ⟨vb, j, none⟩) hvw, blk_cell hx]
    simpa using hj)
   (fun j hj => by rw [hWc]; exact hN _ (by rw [encKp_len] at hj; omega)) (fun j _ => by rw [hWf]; exact hNf _) (encKp_one x)
 have hcpB : ∀ (W : World), (∀ y, W.cell? y = (W1.setCells w.heap.size (i * 8) (encKp x)).cell? y) → (∀ y, W.frozen? y = (W1.setCells w.heap.size (i * 8) (encKp x)).frozen? y) → ∀ ty dc sc, (Builtin.copy_ #[29, 29] ty #[.slice (some ⟨w.heap.size, (i + 1) * 8, none⟩) (l.length - i) dc, .slice (some ⟨g, i * 8, none⟩) (l.length - i) sc]).run Tryz.prog W = .ok (goInt (l.length - i : Nat)) (W.setCells w.heap.size ((i + 1) * 8) ((l.drop i).flatMap encKp)) := fun W hWc hWf ty dc sc =>
  run_copy_k W _ _ ty 51 8 (l.length - i) w.heap.size ((i + 1) * 8) (l.length - i) dc ⟨g, i * 8, none⟩ (l.length - i) sc _ Tryz.underlying29 hsz (by simp only [Nat.min_def]; split <;> omega) hD
   (fun j v hj => by
    rw [add0, hWc, World.cell?_setCells_out _ _ _ _ _ (fun h _ => absurd h (by show g ≠ w.heap.size; omega)), hB1.cell (p := ⟨g, i * 8 + j, none⟩) hgw]
    exact hsrc j v hj)
   (fun j hj => by rw [hD] at hj; rw [hWc]; exact isSome_setCells _ _ _ _ (fun t ht => by rw [encKp_len] at ht; exact hN _ (by omega)) _ (hN _ (by omega)))
   (fun j _ => by rw [hWf, World.frozen?_setCells]; exact hNf _) hone
 have HFIN := hid (Owns.insertNew (base := base) (l := l) encKp_len hN1 hRs hb hGn hG63 hi hRA x)
 have HB1 := hid hB1
 have HRZ := hid hrz
 have HCPA := hid hcpA
 have HCPB := hid hcpB
 have HW1 := hid hW1
 have hGi : ¬ (G = i) := by omega
 have hGim : ¬ (G = i + 1) := by omega
 have hci : ¬ (l.length = i) := by omega
 have hz2 : ¬ ((i : Int) = (l.length : Int)) := by omega
 have hq2 : ((i : Int) == (l.length : Int)) = false := by simpa using hz2
 have hz3 : (l.length : Int) < (l.length : Int) + 1 := by omega
 have hw1 : IntKind.i64.wrap ((i : Int) + 1) = (i : Int) + 1 := IntWalk.i64_in _ (by omega)
 have hb1 : (0 : Int) ≤ (i : Int) + 1 := by omega
 have htn : ((i : Int) + 1).toNat = i + 1 := by omega
 have hin : i ≤ l.length := by omega
 have hb3 : (i : Int) ≤ (l.length : Int) := by omega
 have hz7 : (i : Int) ≤ (l.length : Int) + 1 := by omega
 have hz6 : (i : Int) + 1 ≤ (l.length : Int) + 1 := by omega
 unfold maxLen at hG63
 clear hown hx h1 h7 hsrc hone hall hold hkk hik hROW hG hRs hRA hN1 hB1 hrz hN hNf hcpA hcpB hW1 hD hA
 obtain ⟨W2, hW2⟩ : ∃ W2, W2 = W1.setCells w.heap.size (i * 8) (encKp x) := ⟨_, rfl⟩
 have kA := HCPA.out W1 (fun _ => rfl) (fun _ => rfl)
 rw [← hW2] at kA HCPB
 have kB := HCPB.out W2.drew (fun _ => rfl) (fun _ => rfl)
 have HW2 := hid hW2
 clear hW2
 go_enter Tryz.func102, Tryz.ntmps102
 go_wp2_with (at_builtin; refine Lib.wpList_append_run _ rfl _ _ _ _ rfl _ _ rfl rfl _ _ (HRZ.out _) ?_)
 go_region
 go_wp2
 go_ret
 have hfin := owns_drew HFIN.out
 rw [drew_setCells, ← HW2.out] at hfin
 have hb2 : Below w.heap.size w W2 := by rw [HW2.out]; exact set_below HB1.out (Nat.le_refl _) HB1.out.size _ _
 have hb3 : Below w.heap.size w W2.drew := below_drewN hb2 1
 exact ⟨_, rfl, hfin, grown_of_below (set_below hb3 (Nat.le_refl _) hb3.size _ _) none⟩
end Go.Proofs.YtgcajfglidflnaaGreatDoor

/- brain.keep: one more that is kept. -/
namespace Go.Proofs.YtgcajfglidflnaaGreatDoor
open Go.RowKit Go.Shelf

theorem insAt_end {α : Type} (l : List α) (x : α) : insAt l l.length x = l ++ [x] := by unfold insAt; simp
theorem insertK_any (base : Nat) (v : Value) (l : List KeptV) (i : Nat) (x : KeptV) (vb : Nat) (w : World) (hown : OwnK w base v l) (hi : i ≤ l.length) (hb : base ≤ w.heap.size) (hl : l.length ≤ 100000) (hx : KBlk w vb x) (hvb : ∀ g, v.ownBlock = some g → vb ≠ g) :
  Calls Tryz.prog 102 #[v, .int .i64 i, .slice (some ⟨vb, 0, none⟩) 1 1] w fun e w' => ∃ v', e = .returned v' ∧ OwnK w' base v' (insAt l i x) ∧ w.grownBy w' v.ownBlock := by
 by_cases h : i = l.length
 ·subst h
  rw [insAt_end]
  exact insert_end base v l x vb w hown hb hl hx
 ·rcases Owns.form hown with ⟨rfl, rfl⟩ | ⟨g, c, rfl, hg, hgl⟩
  ·simp at h hi; exact absurd hi h
  ·have hlc := (Owns.cells hown).2.2.2.1
   by_cases hc : l.length + 1 ≤ c
   ·exact insert_room base g c i l x vb w hown (by omega) hc hl hx (hvb g rfl)
   ·obtain rfl : c = l.length := by omega
    refine (insert_grow base g i l x vb w hown (by omega) hb hl hx).mono ?_
    rintro e w' ⟨v', h1, h2, h3⟩
    exact ⟨v', h1, h2, ⟨h3.os, h3.tape, h3.output, h3.size, fun k hk _ => h3.block k hk (by simp)⟩⟩
/-- Where one of an id is put. -/
def placeK (K : List KeptV) (t : Int) : Nat := (K.findIdx? (fun y => decide (t < y.id))).getD K.length
theorem placeK_le (K : List KeptV) (t : Int) : placeK K t ≤ K.length := by
 unfold placeK
 cases h : K.findIdx? (fun y => decide (t < y.id)) with
 | none => simp
 | some k => obtain ⟨hk, _⟩ := List.findIdx?_eq_some_iff_getElem.1 h; simp; omega
def keepB (B : BrainV) (x : KeptV) : BrainV := { B with K := insAt B.K (placeK B.K x.id) x }
theorem placeK_idx (K : List KeptV) (t : Int) : idxL K (fun y => decide (t < y.id)) = if idxL K (fun y => decide (t < y.id)) < 0 then -1 else (placeK K t : Int) := by
 unfold idxL placeK
 cases h : K.findIdx? (fun y => decide (t < y.id)) with
 | none => simp
 | some k => simp
theorem placeK_neg {K : List KeptV} {t : Int} (h : idxL K (fun y => decide (t < y.id)) < 0) : placeK K t = K.length := by
 unfold idxL at h
 unfold placeK
 cases hf : K.findIdx? (fun y => decide (t < y.id)) with
 | none => simp
 | some k => rw [hf] at h; simp at h; omega
section
variable {base : World} {b : Nat} {B : BrainV} {mv iv kv : Value} {W : World}
/-- A brain whose row of Kept is another one. -/
theorem BO.setKept (h : BO base b B mv iv kv W) {W' : World} {kv' : Value} {K' : List KeptV} (hg : W.grownBy W' kv.ownBlock) (ho : OwnK W' base.heap.size kv' K') : BO base b { B with K := K' } mv iv kv' (W'.setCell ⟨b, 19, none⟩ kv') := by
 have hty := Owns.typed h.rk
 have hb : W'.heap[b]? = some (.cells (brT B.f B.g mv iv kv) 33) := blk_grown h.box hg (fun e => by obtain ⟨c, hc⟩ := hty b e.symm; have := h.box; unfold BB at this; rw [hc] at this; cases this)
 have hbl : Below base.heap.size base W' := h.bel.grown hg h.bel.size (fun k e => (Owns.block h.rk k e).1)
 refine ⟨?_, h.hb, ?_, ?_, ?_, hbl.setCell (p := ⟨b, 19, none⟩) h.hb _⟩
 ·have := blk_set hb 19 kv'
  exact this
 ·exact (h.rm.kept (KeptT.grown hg hty (by decide))).kept (KeptT.set (p := ⟨b, 19, none⟩) hb (by decide) _)
 ·have h1 : OwnN W' base.heap.size iv B.I := World.ownsRow.kept h.ri hg (by
   rcases Owns.form h.ri with ⟨rfl, _⟩ | ⟨gi, ci, rfl, _, _⟩
   ·exact .inl rfl
   ·refine .inr fun e => ?_
    obtain ⟨c, hc⟩ := hty gi e.symm
    obtain ⟨cur, hq, _⟩ := Owns.blk h.ri
    rw [hc] at hq
    cases hq)
  exact owns_at h1 hb (by decide) _ _
 ·exact owns_at ho hb (by decide) _ _
theorem KeepsX.grown {W V U : World} {kv : Value} (h : KeepsX b W V) (hg : V.grownBy U kv.ownBlock) (hty : ∀ r, kv.ownBlock = some r → ∃ c, V.heap[r]? = some (.cells c 51)) : KeepsX b W U := by
 refine h.trans ⟨hg.size, fun k c t hk h1 h2 h3 => blk_grown hk hg (fun e => ?_), ⟨hg.size, fun k o hk ho => blk_grown hk hg (fun e => ?_)⟩⟩
 ·obtain ⟨c', hc⟩ := hty k e.symm
  rw [hc] at hk
  cases hk
  exact h3 rfl
 ·obtain ⟨c', hc⟩ := hty k e.symm
  rw [hc] at hk
  cases hk
  cases ho
end
end Go.Proofs.YtgcajfglidflnaaGreatDoor

/- brain.keep, walked. -/
namespace Go.Proofs.YtgcajfglidflnaaGreatDoor
open Go.RowKit Go.Shelf
section
variable {base : World} {b : Nat} {B : BrainV} {mv iv kv : Value} {W : World}
set_option maxRecDepth 100000 in
set_option maxHeartbeats 4000000 in
theorem keep_any (x : KeptV) (h : BO base b B mv iv kv W) (hl : B.K.length ≤ 10000) : Calls Tryz.prog 95 #[.pointer (some ⟨b, 0, none⟩), encKv x] W fun e W' => DeedEnd base b W (keepB B x) e W' := by
 have hmf := mkfunc
 obtain ⟨W1, hW1⟩ : ∃ W1, W1 = W.alloc (.cells #[.int .i64 x.id, .int .i64 x.token, .int .i64 x.version, .int .i64 x.zone, .int .u8 x.phase, .int .i64 x.since, .bool x.guarded, .bool x.complete] 51) := ⟨_, rfl⟩
 have hb1 : Below W.heap.size W W1 := by rw [hW1]; exact (Below.refl _ _).alloc (Nat.le_refl _) _
 have q1 : KBlk W1 W.heap.size x := by unfold KBlk; rw [hW1]; exact heap_new _ _
 have H1 := hid (h.below hb1)
 have Q1 := hid q1
 have HB1 := hid hb1
 have c19 := (h.below hb1).cell 19 kv rfl
 have hlt := (h.below hb1).lt
 have HIX := hid (indexG_any kv B.K W.heap.size x.id W1 (Owns.row (h.below hb1).rk encKp_len (by decide)) (by omega) (by have := blk_cell q1 0; exact this))
 obtain ⟨r, hr⟩ : ∃ r, idxL B.K (fun y => decide (x.id < y.id)) = r := ⟨_, rfl⟩
 rw [hr] at HIX
 have HRR := hid hr
 obtain ⟨ka, kn, kc, hkv⟩ := Owns.shape h.rk
 have HKV := hid hkv
 have hkn : kn = B.K.length := by
  rcases Owns.form h.rk with ⟨e1, e2⟩ | ⟨g, c, e1, _, _⟩
  ·rw [hkv] at e1; cases e1; rw [e2]; rfl
  ·rw [hkv] at e1; cases e1; rfl
 subst hkn
 subst hkv
 rw [hW1] at c19 hlt
 have HW1 := hid hW1
 unfold encKv
 clear h hb1 q1 hr hW1
 go_enter Tryz.func95, Tryz.ntmps95
 go_wp2_with fail
 rw [← HW1.out]
 refine HIX.out.mono ?_
 rintro e V ⟨rfl, hb⟩
 have H2 := hid (H1.out.below hb)
 have Q2 := hid (show KBlk V W.heap.size x from blk_below Q1.out hb (blk_lt Q1.out))
 have HBV := hid (HB1.out.trans (hb.mono HB1.out.size))
 clear hb c19 hlt
 have c19 := H2.out.cell 19 (.slice ka B.K.length kc) rfl
 have f19 := H2.out.free 19
 have hlt := H2.out.lt
 obtain ⟨x0, x1, x2, x3, x4, x5, x6, x7⟩ := rowK (l := [x]) (i := 0) (b := W.heap.size) (off := 0) (w := V) (by
  rcases Q2.out.row with ⟨_, _, e, _⟩ | ⟨_, b', o', c', e, _, _, _, hr⟩
  ·cases e
  ·cases e; exact hr) rfl
 simp only [Nat.zero_mul, Nat.add_zero, Nat.zero_add] at x0 x1 x2 x3 x4 x5 x6 x7
 have hxl : W.heap.size < V.heap.size := blk_lt Q2.out
 obtain ⟨P, hP⟩ : ∃ P, placeK B.K x.id = P := ⟨_, rfl⟩
 have hPl : P ≤ B.K.length := by rw [← hP]; exact placeK_le _ _
 obtain ⟨VA, hVA⟩ : ∃ VA, VA = (V.alloc (.cells #[.int .i64 x.id, .int .i64 x.token, .int .i64 x.version, .int .i64 x.zone, .int .u8 x.phase, .int .i64 x.since, .bool x.guarded, .bool x.complete] 51)).drew := ⟨_, rfl⟩
 have hbA : Below V.heap.size V VA := by rw [hVA]; exact below_drewN ((Below.refl _ _).alloc (Nat.le_refl _) _) 1
 have HA := hid (H2.out.below hbA)
 have HINS := hid (insertK_any base.heap.size _ B.K P x V.heap.size VA HA.out.rk hPl HA.out.bel.size (by omega) (by unfold KBlk; rw [hVA]; exact heap_new V _) (fun g e hg => by have := (Owns.block H2.out.rk g e).2; omega))
 have HBA := hid hbA
 have HP := hid hP
 have HVA := hid hVA
 have cA := HA.out.cell 19 (.slice ka B.K.length kc) rfl
 have lA := HA.out.lt
 rw [hVA] at cA lA
 clear hbA hP hVA
 by_cases hneg : r < 0
 ·have hp : P = B.K.length := by rw [← HP.out]; exact placeK_neg (by rw [HRR.out]; exact hneg)
  subst hp
  go_wp2_with fail
  go_region_law (go_simp; go_at_call 102; rw [← HVA.out]; refine HINS.out.mono ?_; rintro e x1 ⟨v', rfl, hown', hg'⟩; obtain ⟨va, vn, vc, hv'⟩ := Owns.shape hown'; subst hv'; have HO := hid hown'; have HG := hid hg'; have hbx := blk_grown HA.out.box hg' (fun e' => by obtain ⟨c', hc'⟩ := Owns.typed HA.out.rk b e'.symm; have := HA.out.box; unfold BB at this; rw [hc'] at this; cases this); have HBX := hid hbx; have d19 : x1.cell? ⟨b, 19, none⟩ = some (.slice ka B.K.length kc) := blk_cell hbx 19; have e19 := blk_free hbx 19; have lx := blk_lt hbx; clear hown' hg' hbx)
  all_goals
   go_wp2
   go_end0
   have HBB := HBA.out
   have hres := HA.out.setKept HG.out HO.out
   rw [← HP.out] at hres
   exact ⟨rfl, ⟨_, _, _, hres⟩, ((KeepsX.below (HBV.out.trans (HBA.out.mono HBV.out.size))).grown HG.out (Owns.typed HA.out.rk)).set 19 _⟩
 ·obtain rfl : r = (P : Int) := by have := placeK_idx B.K x.id; rw [HRR.out, if_neg hneg, HP.out] at this; exact this
  go_wp2_with fail
  go_region_law (go_simp; go_at_call 102; rw [← HVA.out]; refine HINS.out.mono ?_; rintro e x1 ⟨v', rfl, hown', hg'⟩; obtain ⟨va, vn, vc, hv'⟩ := Owns.shape hown'; subst hv'; have HO := hid hown'; have HG := hid hg'; have hbx := blk_grown HA.out.box hg' (fun e' => by obtain ⟨c', hc'⟩ := Owns.typed HA.out.rk b e'.symm; have := HA.out.box; unfold BB at this; rw [hc'] at this; cases this); have HBX := hid hbx; have d19 : x1.cell? ⟨b, 19, none⟩ = some (.slice ka B.K.length kc) := blk_cell hbx 19; have e19 := blk_free hbx 19; have lx := blk_lt hbx; clear hown' hg' hbx)
  all_goals
   go_wp2
   go_end0
   have HBB := HBA.out
   have hres := HA.out.setKept HG.out HO.out
   rw [← HP.out] at hres
   exact ⟨rfl, ⟨_, _, _, hres⟩, ((KeepsX.below (HBV.out.trans (HBA.out.mono HBV.out.size))).grown HG.out (Owns.typed HA.out.rk)).set 19 _⟩
end
end Go.Proofs.YtgcajfglidflnaaGreatDoor

/- Deeds that mean a launch, let one go, keep a stray one. -/
namespace Go.Proofs.YtgcajfglidflnaaGreatDoor
open Go.RowKit Go.Shelf

/-- 'append' of one thing to a slice of the call's own, as one step of a region that draws. -/
theorem step_append_one {α : Type} {k : Nat} {enc : α → List Value} {P : Program} {ops : Array Oper} {o : Oper} {a : Act} {w : World} {K : Act → World → Prop} {Q : Exit → Act → World → Prop} {E : Prop}
  (hgd : o.guard = none) (s x : Operand) (t : TypeId) (ho : o.op = Op.call { callee := Callee.builtin Builtin.append, args := #[s, x], argTypes := #[t, t] })
  (base : Nat) (e : TypeId) (i : TypeInfo) (z : Value) (bytes : Nat) (ht : P.underlying t = some (.slice e)) (hi : P.info? e = some i) (hz : i.zero = some z)
  (hsize : i.size = k) (hby : i.bytes = bytes) (hzs : z.cells.size = k) (hsz : 0 < k) (hk : ∀ x, (enc x).length = k)
  (v : Value) (l : List α) (hs : a.eval s = v) (hown : Owns k e enc w base v l)
  (ad : Addr) (y : α) (hx : a.eval x = .slice (some ad) 1 1) (hone : ∀ u ∈ enc y, u.oneCell' = true) (hnew : ∀ (j : Nat) u, (enc y)[j]? = some u → w.cell? (ad.add j) = some u)
  (h63 : l.length + 1 ≤ maxLen) (hbytes : (l.length + 1) * bytes ≤ 140737488355328) (hbase : base ≤ w.heap.size)
  (h : ∀ v' w', Owns k e enc w' base v' (l ++ [y]) → Below base w w' → w.grownBy w' v.ownBlock → K (a.put o.dst v') w') :
  if Region.wanted o (yielded ops a.tmps) = true then Oper.wp P o a w K Q else E := by
 have hw : Region.wanted o (yielded ops a.tmps) = true := by simp [Region.wanted, hgd]
 rw [if_pos hw]
 obtain ⟨v', w', hrun, r1, r2, r3⟩ := run_append_own (P := P) w base t o.type e i z k bytes ht hi hz hsize hby hzs hsz v l.length _ hown ad 1 1 (enc y) (by rw [hk y]; simp) hnew hone h63 hbytes hbase
 unfold Oper.wp
 simp [execOp, ho, resolve, invoke, builtin, hs, hx, hrun, Result.andThen]
 refine h v' w' ?_ (below_own r2 hbase (fun g e => (Owns.block hown g e).1)) r2
 unfold Owns
 rw [List.length_append, List.flatMap_append]
 simpa using r1


def intentB (B : BrainV) (v z m : Int) : BrainV :=
 if B.g 2 = true ∧ 1 ≤ v ∧ z ≤ 3 ∧ m ≤ 1 ∧ B.f 1 < 1099511627776 then { B with f := upd B.f 1 (wrap64 (B.f 1 + 1)), I := B.I ++ [⟨wrap64 (B.f 1 + 1), v, z, m == 1⟩] } else B
def goneAt (B : BrainV) (i : Nat) : BrainV := { B with K := B.K.eraseIdx i }
theorem new_cellsN (W : World) (x : IntentV) (t : TypeId) : ∀ j u, (encIn x)[j]? = some u → (W.alloc (.cells #[.int .i64 x.token, .int .i64 x.version, .int .i64 x.zone, .bool x.warm] t)).cell? ((⟨W.heap.size, 0, none⟩ : Addr).add j) = some u := by
 intro j u hj
 rw [show ((⟨W.heap.size, 0, none⟩ : Addr).add j) = ⟨W.heap.size, j, none⟩ by unfold Addr.add; split <;> simp_all]
 rw [blk_cell (heap_new W _)]
 simpa [encIn] using hj
section
variable {base : World} {b : Nat} {B : BrainV} {mv iv kv : Value} {W : World}
/-- A brain whose row of Intents is another one. -/
theorem BO.setInt (h : BO base b B mv iv kv W) {W' : World} {iv' : Value} {I' : List IntentV} (hg : W.grownBy W' iv.ownBlock) (ho : OwnN W' base.heap.size iv' I') : BO base b { B with I := I' } mv iv' kv (W'.setCell ⟨b, 18, none⟩ iv') := by
 have hty := Owns.typed h.ri
 have hb : W'.heap[b]? = some (.cells (brT B.f B.g mv iv kv) 33) := blk_grown h.box hg (fun e => by obtain ⟨c, hc⟩ := hty b e.symm; have := h.box; unfold BB at this; rw [hc] at this; cases this)
 have hbl : Below base.heap.size base W' := h.bel.grown hg h.bel.size (fun k e => (Owns.block h.ri k e).1)
 refine ⟨?_, h.hb, ?_, ?_, ?_, hbl.setCell (p := ⟨b, 18, none⟩) h.hb _⟩
 ·have := blk_set hb 18 iv'
  exact this
 ·exact (h.rm.kept (KeptT.grown hg hty (by decide))).kept (KeptT.set (p := ⟨b, 18, none⟩) hb (by decide) _)
 ·exact owns_at ho hb (by decide) _ _
 ·have h1 : OwnK W' base.heap.size kv B.K := World.ownsRow.kept h.rk hg (by
   rcases Owns.form h.rk with ⟨rfl, _⟩ | ⟨gi, ci, rfl, _, _⟩
   ·exact .inl rfl
   ·refine .inr fun e => ?_
    obtain ⟨c, hc⟩ := hty gi e.symm
    obtain ⟨cur, hq, _⟩ := Owns.blk h.rk
    rw [hc] at hq
    cases hq)
  exact owns_at h1 hb (by decide) _ _
theorem KeepsX.grownI {W V U : World} {kv : Value} (h : KeepsX b W V) (hg : V.grownBy U kv.ownBlock) (hty : ∀ r, kv.ownBlock = some r → ∃ c, V.heap[r]? = some (.cells c 54)) : KeepsX b W U := by
 refine h.trans ⟨hg.size, fun k c t hk h1 h2 h3 => blk_grown hk hg (fun e => ?_), ⟨hg.size, fun k o hk ho => blk_grown hk hg (fun e => ?_)⟩⟩
 ·obtain ⟨c', hc⟩ := hty k e.symm
  rw [hc] at hk
  cases hk
  exact h2 rfl
 ·obtain ⟨c', hc⟩ := hty k e.symm
  rw [hc] at hk
  cases hk
  cases ho

end
end Go.Proofs.YtgcajfglidflnaaGreatDoor
