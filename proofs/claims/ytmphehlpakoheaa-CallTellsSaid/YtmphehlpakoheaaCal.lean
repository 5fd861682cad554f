/- A part of the proofs about open calls: contracts of functions, or plain facts that they want. -/
import Derived.Test.YtmphehlpakoheaaKpt
namespace Go.Proofs.Ytmphehlpakoheaa
open Go.RowKit Go.Shelf

set_option maxHeartbeats 400000 in
theorem close1_any (x : CallV) (p : Nat) (id : Int) (W : World) (h : W.cell? ⟨p, 0, none⟩ = some (.int .i64 id)) :
    Calls Try.prog 29 (#[encS x] ++ #[.pointer (some ⟨p, 0, none⟩)]) W fun e W' => e = .returned (.bool (x.id != id)) ∧ Below W.heap.size W W' := by
  have hp := lt_of_cell h
  simp only [encS, List.push_toArray, List.append_toArray, List.nil_append, List.cons_append]
  go_enter Try.func29, Try.ntmps29
  go_wp2
  go_ret
  exact ⟨rfl, (Below.refl _ _).alloc (Nat.le_refl _) _⟩

set_option maxHeartbeats 400000 in
theorem late2_any (x : CallV) (W : World) :
    Calls Try.prog 42 (#[encS x] ++ #[]) W fun e W' => e = .returned (.bool true) ∧ Below W.heap.size W W' := by
  simp only [encS, List.push_toArray, List.append_toArray, List.nil_append, List.cons_append, Array.append_empty]
  go_enter Try.func42, Try.ntmps42
  go_wp2
  go_ret
  exact ⟨rfl, (Below.refl _ _).alloc (Nat.le_refl _) _⟩

set_option maxHeartbeats 400000 in
theorem late3_any (x : CallV) (p q : Nat) (now tm : Int) (W : World) (h : W.cell? ⟨p, 0, none⟩ = some (.int .i64 now)) (h' : W.cell? ⟨q, 0, none⟩ = some (.int .i64 tm)) :
    Calls Try.prog 43 (#[encS x] ++ #[.pointer (some ⟨p, 0, none⟩), .pointer (some ⟨q, 0, none⟩)]) W fun e W' => e = .returned (.bool (decide (now < wrap64 (x.sent + tm)))) ∧ Below W.heap.size W W' := by
  have hp := lt_of_cell h
  have hq := lt_of_cell h'
  simp only [encS, List.push_toArray, List.append_toArray, List.nil_append, List.cons_append]
  go_enter Try.func43, Try.ntmps43
  go_wp2
  go_ret
  exact ⟨rfl, (Below.refl _ _).alloc (Nat.le_refl _) _⟩

set_option maxHeartbeats 400000 in
theorem late1_any (p q : Nat) (now tm : Int) (W : World) (h : W.cell? ⟨p, 0, none⟩ = some (.int .i64 now)) (h' : W.cell? ⟨q, 0, none⟩ = some (.int .i64 tm)) :
    Calls Try.prog 41 #[.pointer (some ⟨p, 0, none⟩), .pointer (some ⟨q, 0, none⟩)] W fun e W' => EndsBy (numB now && numB tm) 2 e ∧ Below W.heap.size W W' := by
  have hb : Below W.heap.size W (W.alloc (.cells #[.int .i64 now, .int .i64 tm] 3)) := (Below.refl _ _).alloc (Nat.le_refl _) _
  have hc := numbers2 W.heap.size now tm (W.alloc (.cells #[.int .i64 now, .int .i64 tm] 3)) (by simp) (by simp)
  have HC := hid hc
  clear hc
  generalize (numB now && numB tm) = bb at HC ⊢
  go_enter Try.func41, Try.ntmps41
  go_wp2_with fail
  refine HC.out.mono ?_
  rintro e w' ⟨he, rfl⟩
  cases bb with
  | true =>
    obtain rfl : e = .returned (.tuple #[]) := he
    go_wp2
    go_end0
    exact ⟨rfl, hb⟩
  | false =>
    obtain rfl : e = .panicked (errno 2) := he
    exact ⟨rfl, rfl, hb⟩

set_option maxHeartbeats 1000000 in
theorem close_any (ep nx id : Int) (s : Value) (L : List CallV) (w : World) (hn : L.length ≤ 1000000) (hs : Row12 w s L) :
    Calls Try.prog 11 #[calls ep nx s, .int .i64 id] w fun e w' => ∃ v, e = .returned (calls ep nx v) ∧ Own12 w' w.heap.size v (keptL ⟨ep, nx, L⟩ (fun x => x.id != id)) ∧ Below w.heap.size w w' := by
  have hmf := mkfunc
  obtain ⟨W, hW⟩ : ∃ W, W = ((w.alloc (.cells #[.int .i64 ep, .int .i64 nx, s] 24)).alloc (.cells #[.int .i64 id] 3)).alloc (.cells #[.int .i64 0, .int .i64 0, .slice none 0 0] 24) := ⟨_, rfl⟩
  have hB : Below w.heap.size w W := by rw [hW]; exact (((Below.refl _ _).alloc (Nat.le_refl _) _).alloc (by simp) _).alloc (by simp; omega) _
  have q1 : W.heap[w.heap.size + 1]? = some (.cells #[.int .i64 id] 3) := by rw [hW]; exact blk_alloc (heap_new2 _ _ _) _
  have q2 : W.heap[w.heap.size + 2]? = some (.cells #[.int .i64 0, .int .i64 0, .slice none 0 0] 24) := by rw [hW]; simpa using heap_new2 (w.alloc _) _ _
  have hz : W.heap.size = w.heap.size + 3 := by rw [hW]; simp
  have hK := kept_any ep nx s L 29 #[.pointer (some ⟨w.heap.size + 1, 0, none⟩)] (fun x => x.id != id) W hn (hs.below hB) (enters_of Try.func29 (by kernel_rfl) rfl)
    (fun W' x hO => close1_any x _ id W' ((hO.cell 0 (by show _ < _; omega) (by omega)).trans (blk_cell q1 0)))
  have HK := hid hK
  have Q2 := hid q2
  have HZ := hid hz
  have HB := hid hB
  clear hK q1 q2 hz hB hs
  unfold calls at HK ⊢
  go_enter Try.func11, Try.ntmps11
  go_wp2_with fail
  subst hW
  refine HK.out.mono ?_
  rintro e w1 ⟨v, rfl, hown, hb1⟩
  obtain ⟨v1, v2, v3, rfl⟩ := hown.shape
  obtain ⟨m0, m1, m2, mf, ml⟩ := blk3 (blk_below Q2.out hb1 (by have := HZ.out; omega))
  have HO := hid hown
  clear hown
  go_wp2
  refine bodyPost_ret (res_calls rfl rfl (blk_set (blk_set (blk_set (blk_below Q2.out hb1 (by have := HZ.out; omega)) 0 _) 1 _) 2 _)) rfl ?_
  have hz := HZ.out
  refine ⟨_, rfl, Owns.mono (((HO.out.other (p := ⟨w.heap.size + 2, 0, none⟩) (by simp) _).other (p := ⟨w.heap.size + 2, 1, none⟩) (by simp) _).other (p := ⟨w.heap.size + 2, 2, none⟩) (by simp) _) (by omega), ?_⟩
  exact (((HB.out.trans (hb1.mono (by omega))).setCell (p := ⟨w.heap.size + 2, 0, none⟩) (by simp) _).setCell (p := ⟨w.heap.size + 2, 1, none⟩) (by simp) _).setCell (p := ⟨w.heap.size + 2, 2, none⟩) (by simp) _
end Go.Proofs.Ytmphehlpakoheaa
