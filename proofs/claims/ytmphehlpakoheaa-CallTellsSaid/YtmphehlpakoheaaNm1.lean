/- The contracts that the walk of CallNumbers meets, at calls that may be. -/
import Derived.Test.YtmphehlpakoheaaNm0
import Derived.Test.YtmphehlpakoheaaFul
namespace Go.Proofs.Ytmphehlpakoheaa
open Go.RowKit Go.Shelf

def newX (C : CallsV) (k key now : Int) : CallV := ⟨C.epoch * 1048576 + C.next, k, key, now⟩

theorem shape_row {α : Type} {k : Nat} {enc : α → List Value} {w : World} {v : Value} {l : List α} (h : RowOf k enc w v l) : ∃ a c, v = .slice a l.length c := by
  obtain ⟨a, c, rfl, _⟩ := h.open; exact ⟨a, c, rfl⟩

theorem nm_open_ok (C : CallsV) (v : Value) (k key now : Int) (w : World) (hr : Row12 w v C.opens) (hl : C.opens.length ≤ 40) (h0 : openErr C k key now = 0) :
    Calls Try.prog 13 #[calls C.epoch C.next v, .int .u8 k, .int .i64 key, .int .i64 now] w fun e w' => ∃ a c, e = .returned (.tuple #[calls C.epoch (C.next + 1) (.slice a (C.opens.length + 1) c), .int .i64 (C.epoch * 1048576 + C.next), .int .i64 0]) ∧ Own12 w' w.heap.size (.slice a (C.opens.length + 1) c) (C.opens ++ [newX C k key now]) ∧ Below w.heap.size w w' := by
  have hC : openC C k key now = ⟨C.epoch, C.next + 1, C.opens ++ [newX C k key now]⟩ := by unfold openC; rw [h0]; rfl
  have hI : openId C k key now = C.epoch * 1048576 + C.next := by unfold openId; rw [h0]; rfl
  refine (open_any C.epoch C.next k key now v C.opens w (by omega) hr).mono ?_
  rintro e w' ⟨v', he, ho, hb⟩
  rw [hC, hI, h0] at he
  rw [hC] at ho
  have hrow := ho.row encC_len (by decide)
  obtain ⟨a, c, rfl⟩ := shape_row hrow
  rw [show (C.opens ++ [newX C k key now]).length = C.opens.length + 1 by simp] at he ho
  exact ⟨a, c, he, ho, hb⟩
theorem nm_open_err (C : CallsV) (v : Value) (k key now : Int) (w : World) (hr : Row12 w v C.opens) (hl : C.opens.length ≤ 40) (h0 : ¬ openErr C k key now = 0) :
    Calls Try.prog 13 #[calls C.epoch C.next v, .int .u8 k, .int .i64 key, .int .i64 now] w fun e w' => ∃ a c, e = .returned (.tuple #[calls C.epoch C.next (.slice a C.opens.length c), .int .i64 0, .int .i64 (openErr C k key now)]) ∧ Row12 w' (.slice a C.opens.length c) C.opens ∧ Below w.heap.size w w' := by
  have hC : openC C k key now = C := by unfold openC; rw [if_neg h0]
  have hI : openId C k key now = 0 := by unfold openId; rw [if_neg h0]
  refine (open_any C.epoch C.next k key now v C.opens w (by omega) hr).mono ?_
  rintro e w' ⟨v', he, ho, hb⟩
  rw [hC, hI] at he
  rw [hC] at ho
  have hrow := ho.row encC_len (by decide)
  obtain ⟨a, c, rfl⟩ := shape_row hrow
  exact ⟨a, c, he, hrow, hb⟩
theorem nm_has (C : CallsV) (v : Value) (k key : Int) (b : Bool) (w : World) (hr : Row12 w v C.opens) (hl : C.opens.length ≤ 40) (hb : hasB C.opens k key = b) :
    Calls Try.prog 12 #[calls C.epoch C.next v, .int .u8 k, .int .i64 key] w fun e w' => e = .returned (.bool b) ∧ Below w.heap.size w w' := by
  rw [← hb]; exact has_row C.epoch C.next k key v C.opens w (by omega) hr
theorem nm_same (C : CallsV) (v v' : Value) (w : World) (hr : Row12 w v C.opens) (hr' : Row12 w v' C.opens) (hl : C.opens.length ≤ 40) :
    Calls Try.prog 25 #[calls C.epoch C.next v, calls C.epoch C.next v'] w fun e w' => e = .returned (.bool true) ∧ Below w.heap.size w w' := by
  have h := same_any C.epoch C.next C.epoch C.next v v' C.opens C.opens w hr hr' (by omega) (by omega)
  rw [show sameV ⟨C.epoch, C.next, C.opens⟩ ⟨C.epoch, C.next, C.opens⟩ = true by simp [sameV]] at h
  exact h
theorem nm_find (C : CallsV) (v : Value) (k key now : Int) (w : World) (hC : rightB C = true) (hr : Row12 w v (C.opens ++ [newX C k key now])) (hl : C.opens.length ≤ 40) :
    Calls Try.prog 14 #[calls C.epoch (C.next + 1) v, .int .i64 (C.epoch * 1048576 + C.next)] w fun e w' => e = .returned (.tuple #[encS (newX C k key now), .bool true]) ∧ Below w.heap.size w w' := by
  have h := find_any C.epoch (C.next + 1) (C.epoch * 1048576 + C.next) v _ w (by simp; omega) hr
  rw [show findC (C.opens ++ [newX C k key now]) (C.epoch * 1048576 + C.next) = (newX C k key now, true) from open_find hC] at h
  exact h
theorem nm_right (C : CallsV) (v : Value) (w : World) (hC : rightB C = true) (hr : Row12 w v C.opens) (hl : C.opens.length ≤ 41) :
    Calls Try.prog 15 #[calls C.epoch C.next v] w fun e w' => e = .returned (.bool true) ∧ Below w.heap.size w w' := by
  have h := right_any C.epoch C.next v C.opens w (by omega) hr
  rw [show rightB ⟨C.epoch, C.next, C.opens⟩ = true from hC] at h
  exact h
theorem nm_close (C : CallsV) (v : Value) (id : Int) (w : World) (hr : Row12 w v C.opens) (hl : C.opens.length ≤ 40) :
    Calls Try.prog 11 #[calls C.epoch C.next v, .int .i64 id] w fun e w' => ∃ a n c, e = .returned (calls C.epoch C.next (.slice a n c)) ∧ Own12 w' w.heap.size (.slice a n c) (keptL C (fun x => x.id != id)) ∧ Below w.heap.size w w' := by
  refine (close_any C.epoch C.next id v C.opens w (by omega) hr).mono ?_
  rintro e w' ⟨v', he, ho, hb⟩
  obtain ⟨a, n, c, rfl⟩ := ho.shape
  exact ⟨a, n, c, he, ho, hb⟩
theorem nm_find0 (C : CallsV) (v : Value) (id : Int) (w : World) (hC : rightB C = true) (hr : Row12 w v (keptL C (fun x => x.id != id))) (hl : C.opens.length ≤ 40) :
    Calls Try.prog 14 #[calls C.epoch C.next v, .int .i64 id] w fun e w' => e = .returned (.tuple #[encS ⟨0, 0, 0, 0⟩, .bool false]) ∧ Below w.heap.size w w' := by
  have h := find_any C.epoch C.next id v _ w (by have := kept_len C (fun x => x.id != id); omega) hr
  rw [close_find id hC] at h
  exact h
theorem nm_late (C : CallsV) (v : Value) (now tm : Int) (w : World) (hr : Row12 w v C.opens) (hl : C.opens.length ≤ 40) :
    Calls Try.prog 23 #[calls C.epoch C.next v, .int .i64 now, .int .i64 tm] w fun e w' => ∃ a n c, e = .returned (calls C.epoch C.next (.slice a n c)) ∧ Own12 w' w.heap.size (.slice a n c) (lateL C now tm) ∧ Below w.heap.size w w' := by
  refine (late_any C.epoch C.next now tm v C.opens w (by omega) hr).mono ?_
  rintro e w' ⟨v', he, ho, hb⟩
  obtain ⟨a, n, c, rfl⟩ := ho.shape
  exact ⟨a, n, c, he, ho, hb⟩

theorem new_cell1 (W : World) (a : Obj) (n : Int) (t : TypeId) : ∀ j u, ([Value.int .i64 n] : List Value)[j]? = some u → ((W.alloc a).alloc (.cells #[.int .i64 n] t)).cell? ((⟨W.heap.size + 1, 0, none⟩ : Addr).add j) = some u := by
  intro j u hj
  rw [show ((⟨W.heap.size + 1, 0, none⟩ : Addr).add j) = ⟨W.heap.size + 1, j, none⟩ by unfold Addr.add; split <;> simp_all]
  rw [blk_cell (heap_new2 W _ _)]
  simpa using hj
theorem pick_idx (key : Int) (n : Nat) (hn : 0 < n) (hn' : n ≤ 1000000) : ∃ j : Nat, j < n ∧ (wrap64 (key.tmod (n : Int) + (n : Int))).tmod (n : Int) = (j : Int) := by
  have h1 : key.tmod (n : Int) < n := Int.tmod_lt_of_pos _ (by omega)
  have h2 : -(n : Int) < key.tmod (n : Int) := Int.lt_tmod_of_pos _ (by omega)
  have h3 : wrap64 (key.tmod (n : Int) + (n : Int)) = key.tmod (n : Int) + (n : Int) := by unfold wrap64; omega
  rw [h3]
  have h4 : 0 ≤ (key.tmod (n : Int) + (n : Int)).tmod (n : Int) := Int.tmod_nonneg _ (by omega)
  have h5 : (key.tmod (n : Int) + (n : Int)).tmod (n : Int) < n := Int.tmod_lt_of_pos _ (by omega)
  exact ⟨((key.tmod (n : Int) + (n : Int)).tmod (n : Int)).toNat, by omega, by omega⟩
theorem num_err (E : Int) (h0 : 0 ≤ E) (h1 : E ≤ 524288) : openErr ⟨E, 1, []⟩ 7 0 0 = 0 := by
  have hr : rightB ⟨E, 1, []⟩ = true := by rw [rightB_iff]; exact ⟨⟨h0, h1, by simp, by simp⟩, rfl⟩
  unfold openErr openOk; rw [hr]; rfl
theorem num_last (E : Int) (w : World) (h0 : 0 ≤ E) (h1 : E ≤ 524288) :
    Calls Try.prog 13 #[calls E 1 (.slice none 0 0), .int .u8 7, .int .i64 0, .int .i64 0] w fun e w' => ∃ a c, e = .returned (.tuple #[calls E 2 (.slice a 1 c), .int .i64 (E * 1048576 + 1), .int .i64 0]) ∧ Below w.heap.size w w' := by
  refine (nm_open_ok ⟨E, 1, []⟩ (.slice none 0 0) 7 0 0 w RowOf.nil (by simp) (num_err E h0 h1)).mono ?_
  rintro e w' ⟨a, c, he, _, hb⟩
  exact ⟨a, c, he, hb⟩
theorem own12_row {w : World} {base : Nat} {v : Value} {l : List CallV} (h : Own12 w base v l) : Row12 w v l := h.row encC_len (by decide)
end Go.Proofs.Ytmphehlpakoheaa
