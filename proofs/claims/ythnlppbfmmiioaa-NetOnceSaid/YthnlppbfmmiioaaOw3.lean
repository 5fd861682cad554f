/- The reference: answers, what is on its way, in memory of the call's own. -/
import Derived.Test.YthnlppbfmmiioaaOw2
import Derived.Deep.RegionLaw
import Derived.Deep.RegionHeld3
namespace Go.Proofs.Ythnlppbfmmiioaa
open Go.RowKit Go.Shelf

/-- 'append' of one thing to a slice of the call's own, as one step of a region that draws. -/
theorem step_append_one {α : Type} {k : Nat} {enc : α → List Value} {P : Program} {ops : Array Oper} {o : Oper} {a : Act} {w : World} {K : Act → World → Prop} {Q : Exit → Act → World → Prop} {E : Prop}
    (hgd : o.guard = none) (s x : Operand) (t : TypeId) (ho : o.op = Op.call { callee := Callee.builtin Builtin.append, args := #[s, x], argTypes := #[t, t] })
    (base : Nat) (e : TypeId) (i : TypeInfo) (z : Value) (bytes : Nat) (ht : P.underlying t = some (.slice e)) (hi : P.info? e = some i) (hz : i.zero = some z)
    (hsize : i.size = k) (hby : i.bytes = bytes) (hzs : z.cells.size = k) (hsz : 0 < k) (hk : ∀ x, (enc x).length = k)
    (v : Value) (l : List α) (hs : a.eval s = v) (hown : Owns k e enc w base v l)
    (ad : Addr) (y : α) (hx : a.eval x = .slice (some ad) 1 1) (hone : ∀ u ∈ enc y, u.oneCell' = true) (hnew : ∀ (j : Nat) u, (enc y)[j]? = some u → w.cell? (ad.add j) = some u)
    (h63 : l.length + 1 ≤ maxLen) (hbytes : (l.length + 1) * bytes ≤ 140737488355328) (hbase : base ≤ w.heap.size)
    (h : ∀ v' w', Owns k e enc w' base v' (l ++ [y]) → Below base w w' → w.grownBy w' v.ownBlock → K (a.put o.dst v') w') :
    if Region.wanted o (yielded ops a.tmps) = true then Oper.wp P o a w K Q else E := by
  have hw : Region.wanted o (yielded ops a.tmps) = true := by simp [Region.wanted, hgd]
  rw [if_pos hw]
  obtain ⟨v', w', hrun, r1, r2, r3⟩ := run_append_own (P := P) w base t o.type e i z k bytes ht hi hz hsize hby hzs hsz v l.length _ hown ad 1 1 (enc y) (by rw [hk y]; simp) hnew hone h63 hbytes hbase
  unfold Oper.wp
  simp [execOp, ho, resolve, invoke, builtin, hs, hx, hrun, Result.andThen]
  refine h v' w' ?_ (below_own r2 hbase (fun g e => (Owns.block hown g e).1)) r2
  unfold Owns
  rw [List.length_append, List.flatMap_append]
  simpa using r1

set_option maxHeartbeats 1000000 in
set_option maxRecDepth 100000 in
theorem rtell_any (ca ki co di : Int) (a : Option Addr) (n c : Nat) (mo : Bool) (L : List SeenV) (w : World) (hL : L.length ≤ 1000000) (hs : RowN w (.slice a n c) L) :
    Calls Try.prog 29 #[.agg #[.int .i64 ca, .int .u8 ki, .int .u8 co, .int .i64 di, .slice a n c, .bool mo]] w fun e w' => ∃ a' n' c', e = .returned (.agg #[.int .i64 ca, .int .u8 ki, .int .u8 co, .int .i64 di, .slice a' n' c', .bool mo]) ∧ OwnN w' w.heap.size (.slice a' n' c') L ∧ Below w.heap.size w w' := by
  obtain ⟨i0, hi, hz0, hz1, hz2⟩ := info_parts infoN
  obtain ⟨W, hW⟩ : ∃ W, W = ((w.alloc (.cells #[.int .i64 ca, .int .u8 ki, .int .u8 co, .int .i64 di, .slice a n c, .bool mo] 30)).alloc (.cells #[.int .i64 0, .int .u8 0, .int .u8 0, .int .i64 0, .slice none 0 0, .bool false] 30)).alloc (.cells #[] 51) := ⟨_, rfl⟩
  have hB : Below w.heap.size w W := by rw [hW]; exact (((Below.refl _ _).alloc (Nat.le_refl _) _).alloc (by simp) _).alloc (by simp; omega) _
  have B0 : Hid (W.heap[w.heap.size]? = some (.cells #[.int .i64 ca, .int .u8 ki, .int .u8 co, .int .i64 di, .slice a n c, .bool mo] 30)) := hid (by rw [hW]; exact blk_alloc (blk_alloc (heap_new _ _) _) _)
  have R0 : Hid (W.heap[w.heap.size + 1]? = some (.cells #[.int .i64 0, .int .u8 0, .int .u8 0, .int .i64 0, .slice none 0 0, .bool false] 30)) := hid (by rw [hW]; exact blk_alloc (heap_new2 _ _ _) _)
  have hown : OwnN W (w.heap.size + 2) (.slice (some ⟨w.heap.size + 2, 0, none⟩) 0 0) ([] : List SeenV) := by
    rw [hW]
    have := World.ownsRow_made (e := 51) (size := 7) (base := w.heap.size + 2) ((w.alloc (.cells #[.int .i64 ca, .int .u8 ki, .int .u8 co, .int .i64 di, .slice a n c, .bool mo] 30)).alloc (.cells #[.int .i64 0, .int .u8 0, .int .u8 0, .int .i64 0, .slice none 0 0, .bool false] 30)) #[] 0 (by simp) (by decide) rfl
    simpa [Owns] using this
  have HS := hid (RowOf.below hs hB)
  have HB := hid hB
  have HOWN := hid hown
  have hsz : W.heap.size = w.heap.size + 3 := by rw [hW]; simp
  have HSZ := hid hsz
  have c1 : ([] : List SeenV).length + L.length ≤ maxLen := by unfold maxLen; simp; omega
  have c2 : (([] : List SeenV).length + L.length) * 40 ≤ 140737488355328 := by simp; omega
  have c3 : w.heap.size + 2 ≤ W.heap.size := by omega
  have HW := hid hW
  clear hs hB hown hsz hW
  go_enter Try.func29, Try.ntmps29
  go_wp2_with (at_builtin; rw [← HW.out]; refine append_rows rfl _ _ 28 rfl (w.heap.size + 2) 51 i0 _ 40 Try.underlying28 hi hz0 hz1 hz2 rfl (by decide) encN_len encN_one _ [] rfl HOWN.out _ L rfl HS.out c1 c2 c3 ?_; intro v' w1 hown hgrow; obtain ⟨va, vn, vc, rfl⟩ := hown.shape; have HOW := hid hown; have HGR := hid hgrow; clear hown hgrow; have G0 := hid (blk_grown B0.out HGR.out (show some w.heap.size ≠ some (w.heap.size + 2) by simp)); have G1 := hid (blk_grown R0.out HGR.out (show some (w.heap.size + 1) ≠ some (w.heap.size + 2) by simp)); obtain ⟨y0, y1, y2, y3, y4, y5, yf, yl⟩ := blk6 G0.out; obtain ⟨z0, z1, z2, z3, z4, z5, zf, zl⟩ := blk6 G1.out)
  have hg : Below w.heap.size w w1 := HB.out.grown HGR.out (by have := HSZ.out; omega) (fun r e => by cases e; show w.heap.size ≤ w.heap.size + 1 + 1; omega)
  refine bodyPost_ret (res_tell rfl rfl (blk_set (blk_set (blk_set (blk_set (blk_set (blk_set (blk_other G1.out (by simp) _) 0 _) 1 _) 2 _) 3 _) 4 _) 5 _)) rfl ⟨_, _, _, rfl, ?_, ?_⟩
  · exact Owns.mono (((((((Owns.other HOW.out (p := ⟨w.heap.size, 4, none⟩) (by simp) _).other (p := ⟨w.heap.size + 1, 0, none⟩) (by simp) _).other (p := ⟨w.heap.size + 1, 1, none⟩) (by simp) _).other (p := ⟨w.heap.size + 1, 2, none⟩) (by simp) _).other (p := ⟨w.heap.size + 1, 3, none⟩) (by simp) _).other (p := ⟨w.heap.size + 1, 4, none⟩) (by simp) _).other (p := ⟨w.heap.size + 1, 5, none⟩) (by simp) _) (by omega)
  · exact (((((((hg.setCell (p := ⟨w.heap.size, 4, none⟩) (by simp) _).setCell (p := ⟨w.heap.size + 1, 0, none⟩) (by simp) _).setCell (p := ⟨w.heap.size + 1, 1, none⟩) (by simp) _).setCell (p := ⟨w.heap.size + 1, 2, none⟩) (by simp) _).setCell (p := ⟨w.heap.size + 1, 3, none⟩) (by simp) _).setCell (p := ⟨w.heap.size + 1, 4, none⟩) (by simp) _).setCell (p := ⟨w.heap.size + 1, 5, none⟩) (by simp) _)
end Go.Proofs.Ythnlppbfmmiioaa
