
/- A part of the proofs about open calls: contracts of functions, or plain facts that they want. -/
import Derived.Test.YthhgpiolcnojfaaDoorKpt
namespace Go.Proofs.YthhgpiolcnojfaaDoor
open Go.RowKit Go.Shelf

set_option maxHeartbeats 400000 in
theorem close1_any (x : CallV) (p : Nat) (id : Int) (W : World) (h : W.cell? ⟨p, 0, none⟩ = some (.int .i64 id)) :
    Calls Tryd.prog 23 (#[encS x] ++ #[.pointer (some ⟨p, 0, none⟩)]) W fun e W' => e = .returned (.bool (x.id != id)) ∧ Below W.heap.size W W' := by
  have hp := lt_of_cell h
  simp only [encS, List.append_toArray, List.nil_append, List.cons_append]
  go_enter Tryd.func23, Tryd.ntmps23
  go_wp2
  go_ret
  exact ⟨rfl, (Below.refl _ _).alloc (Nat.le_refl _) _⟩

set_option maxHeartbeats 1000000 in
theorem close_any (ep nx id : Int) (s : Value) (L : List CallV) (w : World) (hn : L.length ≤ 1000000) (hs : Row12 w s L) :
    Calls Tryd.prog 11 #[calls ep nx s, .int .i64 id] w fun e w' => ∃ v, e = .returned (calls ep nx v) ∧ Own12 w' w.heap.size v (keptL ⟨ep, nx, L⟩ (fun x => x.id != id)) ∧ Below w.heap.size w w' := by
  have hmf := mkfunc
  obtain ⟨W, hW⟩ : ∃ W, W = ((w.alloc (.cells #[.int .i64 ep, .int .i64 nx, s] 37)).alloc (.cells #[.int .i64 id] 3)).alloc (.cells #[.int .i64 0, .int .i64 0, .slice none 0 0] 37) := ⟨_, rfl⟩
  have hB : Below w.heap.size w W := by rw [hW]; exact (((Below.refl _ _).alloc (Nat.le_refl _) _).alloc (by simp) _).alloc (by simp; omega) _
  have q1 : W.heap[w.heap.size + 1]? = some (.cells #[.int .i64 id] 3) := by rw [hW]; exact blk_alloc (heap_new2 _ _ _) _
  have q2 : W.heap[w.heap.size + 2]? = some (.cells #[.int .i64 0, .int .i64 0, .slice none 0 0] 37) := by rw [hW]; simpa using heap_new2 (w.alloc _) _ _
  have hz : W.heap.size = w.heap.size + 3 := by rw [hW]; simp
  have hK := kept_any ep nx s L 23 #[.pointer (some ⟨w.heap.size + 1, 0, none⟩)] (fun x => x.id != id) W hn (hs.below hB) (enters_of Tryd.func23 (by kernel_rfl) rfl)
    (fun W' x hO => close1_any x _ id W' ((hO.cell 0 (by show _ < _; omega) (by omega)).trans (blk_cell q1 0)))
  have HK := hid hK
  have Q2 := hid q2
  have HZ := hid hz
  have HB := hid hB
  clear hK q1 q2 hz hB hs
  unfold calls at HK ⊢
  go_enter Tryd.func11, Tryd.ntmps11
  go_wp2_with fail
  subst hW
  refine HK.out.mono ?_
  rintro e w1 ⟨v, rfl, hown, hb1⟩
  obtain ⟨v1, v2, v3, rfl⟩ := hown.shape
  obtain ⟨m0, m1, m2, mf, ml⟩ := blk3 (blk_below Q2.out hb1 (by have := HZ.out; omega))
  have HO := hid hown
  clear hown
  go_wp2
  refine bodyPost_ret (res_calls rfl rfl (blk_set (blk_set (blk_set (blk_below Q2.out hb1 (by have := HZ.out; omega)) 0 _) 1 _) 2 _)) rfl ?_
  have hz := HZ.out
  refine ⟨_, rfl, Owns.mono (((HO.out.other (p := ⟨w.heap.size + 2, 0, none⟩) (by simp) _).other (p := ⟨w.heap.size + 2, 1, none⟩) (by simp) _).other (p := ⟨w.heap.size + 2, 2, none⟩) (by simp) _) (by omega), ?_⟩
  exact (((HB.out.trans (hb1.mono (by omega))).setCell (p := ⟨w.heap.size + 2, 0, none⟩) (by simp) _).setCell (p := ⟨w.heap.size + 2, 1, none⟩) (by simp) _).setCell (p := ⟨w.heap.size + 2, 2, none⟩) (by simp) _
end Go.Proofs.YthhgpiolcnojfaaDoor
