/- A part of the proofs about open calls: contracts of functions, or plain facts that they want. -/
import Derived.Test.YtmphehlpakoheaaOpe
import Derived.Test.YtmphehlpakoheaaLat
namespace Go.Proofs.Ytmphehlpakoheaa
open Go.RowKit Go.Shelf

/-- The call that the statements open first. -/
def x1 : CallV := ⟨2097153, 4, 5, 9⟩

theorem rightB_wd : rightB ⟨2, 2, [x1]⟩ = true := by decide
theorem rightB_00 : rightB ⟨0, 0, []⟩ = false := by decide

theorem wk_begin (w : World) : Calls Try.prog 18 #[.int .i64 2] w fun e w' => e = .returned (.tuple #[calls 2 1 (.slice none 0 0), .int .i64 0]) ∧ Below w.heap.size w w' := by
  have h := begin_any 2 w
  rw [show beginV 2 = (2, 1, 0) by decide] at h
  exact h
theorem wk_open1 (w : World) : Calls Try.prog 13 #[calls 2 1 (.slice none 0 0), .int .u8 4, .int .i64 5, .int .i64 9] w fun e w' => ∃ g c, e = .returned (.tuple #[calls 2 2 (.slice (some ⟨g, 0, none⟩) 1 c), .int .i64 2097153, .int .i64 0]) ∧ Row12 w' (.slice (some ⟨g, 0, none⟩) 1 c) [x1] ∧ Below w.heap.size w w' := by
  refine (open_any 2 1 4 5 9 (.slice none 0 0) [] w (by simp) RowOf.nil).mono ?_
  rintro e w' ⟨v, he, ho, hb⟩
  rw [show openC ⟨2, 1, []⟩ 4 5 9 = ⟨2, 2, [x1]⟩ by rfl] at he ho
  rw [show openId ⟨2, 1, []⟩ 4 5 9 = 2097153 by rfl, show openErr ⟨2, 1, []⟩ 4 5 9 = 0 by rfl] at he
  rcases ho.form with ⟨_, h⟩ | ⟨g, c, rfl, _⟩
  · cases h
  · exact ⟨g, c, he, ho.row encC_len (by decide), hb⟩
theorem wk_open2 (v : Value) (w : World) (hr : Row12 w v [x1]) : Calls Try.prog 13 #[calls 2 2 v, .int .u8 4, .int .i64 5, .int .i64 9] w fun e w' => ∃ a n c, e = .returned (.tuple #[calls 2 2 (.slice a n c), .int .i64 0, .int .i64 2]) ∧ Below w.heap.size w w' := by
  refine (open_any 2 2 4 5 9 v [x1] w (by simp) hr).mono ?_
  rintro e w' ⟨v', he, ho, hb⟩
  rw [show openC ⟨2, 2, [x1]⟩ 4 5 9 = ⟨2, 2, [x1]⟩ by rfl] at he ho
  rw [show openId ⟨2, 2, [x1]⟩ 4 5 9 = 0 by rfl, show openErr ⟨2, 2, [x1]⟩ 4 5 9 = 2 by rfl] at he
  obtain ⟨a, n, c, rfl⟩ := ho.shape
  exact ⟨a, n, c, he, hb⟩
theorem wk_find1 (v : Value) (w : World) (hr : Row12 w v [x1]) : Calls Try.prog 14 #[calls 2 2 v, .int .i64 2097153] w fun e w' => e = .returned (.tuple #[encS x1, .bool true]) ∧ Below w.heap.size w w' := by
  have h := find_any 2 2 2097153 v [x1] w (by simp) hr
  rw [show findC [x1] 2097153 = (x1, true) by rfl] at h
  exact h
theorem wk_close (v : Value) (w : World) (hr : Row12 w v [x1]) : Calls Try.prog 11 #[calls 2 2 v, .int .i64 2097153] w fun e w' => ∃ a n c, e = .returned (calls 2 2 (.slice a n c)) ∧ Row12 w' (.slice a n c) [] ∧ Below w.heap.size w w' := by
  refine (close_any 2 2 2097153 v [x1] w (by simp) hr).mono ?_
  rintro e w' ⟨v', he, ho, hb⟩
  rw [show keptL ⟨2, 2, [x1]⟩ (fun x => x.id != 2097153) = [] by rfl] at ho
  obtain ⟨a, n, c, rfl⟩ := ho.shape
  exact ⟨a, n, c, he, ho.row encC_len (by decide), hb⟩
theorem wk_late (v : Value) (w : World) (hr : Row12 w v [x1]) : Calls Try.prog 23 #[calls 2 2 v, .int .i64 12, .int .i64 3] w fun e w' => ∃ a n c, e = .returned (calls 2 2 (.slice a n c)) ∧ Row12 w' (.slice a n c) [] ∧ Below w.heap.size w w' := by
  refine (late_any 2 2 12 3 v [x1] w (by simp) hr).mono ?_
  rintro e w' ⟨v', he, ho, hb⟩
  rw [show lateL ⟨2, 2, [x1]⟩ 12 3 = [] by kernel_rfl] at ho
  obtain ⟨a, n, c, rfl⟩ := ho.shape
  exact ⟨a, n, c, he, ho.row encC_len (by decide), hb⟩
theorem wk_find0 (v : Value) (w : World) (hr : Row12 w v []) : Calls Try.prog 14 #[calls 2 2 v, .int .i64 2097153] w fun e w' => e = .returned (.tuple #[encS ⟨0, 0, 0, 0⟩, .bool false]) ∧ Below w.heap.size w w' := by
  have h := find_any 2 2 2097153 v [] w (by simp) hr
  rw [show findC [] 2097153 = (⟨0, 0, 0, 0⟩, false) by rfl] at h
  exact h
theorem wk_open3 (w : World) : Calls Try.prog 13 #[calls 0 0 (.slice none 0 0), .int .u8 4, .int .i64 5, .int .i64 9] w fun e w' => ∃ a n c, e = .returned (.tuple #[calls 0 0 (.slice a n c), .int .i64 0, .int .i64 2]) ∧ Below w.heap.size w w' := by
  refine (open_any 0 0 4 5 9 (.slice none 0 0) [] w (by simp) RowOf.nil).mono ?_
  rintro e w' ⟨v', he, ho, hb⟩
  rw [show openC ⟨0, 0, []⟩ 4 5 9 = ⟨0, 0, []⟩ by rfl] at he ho
  rw [show openId ⟨0, 0, []⟩ 4 5 9 = 0 by rfl, show openErr ⟨0, 0, []⟩ 4 5 9 = 2 by rfl] at he
  obtain ⟨a, n, c, rfl⟩ := ho.shape
  exact ⟨a, n, c, he, hb⟩
theorem wk_has1 (v : Value) (w : World) (hr : Row12 w v [x1]) : Calls Try.prog 12 #[calls 2 2 v, .int .u8 4, .int .i64 5] w fun e w' => e = .returned (.bool true) ∧ Below w.heap.size w w' :=
  has_row 2 2 4 5 v [x1] w (by simp) hr
theorem wk_has0 (w : World) : Calls Try.prog 12 #[calls 2 1 (.slice none 0 0), .int .u8 4, .int .i64 5] w fun e w' => e = .returned (.bool false) ∧ Below w.heap.size w w' :=
  has_row 2 1 4 5 _ [] w (by simp) RowOf.nil
theorem wk_right1 (v : Value) (w : World) (hr : Row12 w v [x1]) : Calls Try.prog 15 #[calls 2 2 v] w fun e w' => e = .returned (.bool true) ∧ Below w.heap.size w w' := by
  have h := right_any 2 2 v [x1] w (by simp) hr
  rw [rightB_wd] at h
  exact h
theorem wk_right0 (w : World) : Calls Try.prog 15 #[calls 0 0 (.slice none 0 0)] w fun e w' => e = .returned (.bool false) ∧ Below w.heap.size w w' := by
  have h := right_any 0 0 (.slice none 0 0) [] w (by simp) RowOf.nil
  rw [rightB_00] at h
  exact h
end Go.Proofs.Ytmphehlpakoheaa
