
/- A part of the proofs about open calls: contracts of functions, or plain facts that they want. -/
import Derived.Test.YthhgpiolcnojfaaDoorChk
namespace Go.Proofs.YthhgpiolcnojfaaDoor
open Go.RowKit Go.Shelf

set_option maxHeartbeats 400000 in
theorem check_out (ep nx : Int) (s : Value) (w : World) (h : ¬ (0 ≤ ep ∧ ep ≤ 524288 ∧ 1 ≤ nx ∧ nx ≤ 1048576)) :
    Calls Tryd.prog 44 #[calls ep nx s] w fun e w' => e = .panicked (errno 2) ∧ Below w.heap.size w w' := by
  unfold calls
  by_cases h1 : 0 ≤ ep
  · have d1 : decide (0 ≤ ep) = true := by simpa using h1
    by_cases h2 : ep ≤ 524288
    · have d2 : decide (ep ≤ 524288) = true := by simpa using h2
      by_cases h3 : 1 ≤ nx
      · have d3 : decide (1 ≤ nx) = true := by simpa using h3
        have d4 : decide (nx ≤ 1048576) = false := by simp; omega
        go_enter Tryd.func44, Tryd.ntmps44
        go_wp2_with (go_at_call 57; refine (must_no _ _).mono ?_; rintro e w' ⟨rfl, rfl⟩)
        exact ⟨rfl, rfl, (Below.refl _ _).alloc (Nat.le_refl _) _⟩
      · have d3 : decide (1 ≤ nx) = false := by simp; omega
        go_enter Tryd.func44, Tryd.ntmps44
        go_wp2_with (go_at_call 57; refine (must_no _ _).mono ?_; rintro e w' ⟨rfl, rfl⟩)
        exact ⟨rfl, rfl, (Below.refl _ _).alloc (Nat.le_refl _) _⟩
    · have d2 : decide (ep ≤ 524288) = false := by simp; omega
      go_enter Tryd.func44, Tryd.ntmps44
      go_wp2_with (go_at_call 57; refine (must_no _ _).mono ?_; rintro e w' ⟨rfl, rfl⟩)
      exact ⟨rfl, rfl, (Below.refl _ _).alloc (Nat.le_refl _) _⟩
  · have d1 : decide (0 ≤ ep) = false := by simp; omega
    go_enter Tryd.func44, Tryd.ntmps44
    go_wp2_with (go_at_call 57; refine (must_no _ _).mono ?_; rintro e w' ⟨rfl, rfl⟩)
    exact ⟨rfl, rfl, (Below.refl _ _).alloc (Nat.le_refl _) _⟩

theorem check_any (ep nx : Int) (s : Value) (l : List CallV) (w : World) (hn : l.length ≤ 1000000) (hs : Row12 w s l) :
    Calls Tryd.prog 44 #[calls ep nx s] w fun e w' => EndsBy (crightB ⟨ep, nx, l⟩) 2 e ∧ Below w.heap.size w w' := by
  by_cases h : 0 ≤ ep ∧ ep ≤ 524288 ∧ 1 ≤ nx ∧ nx ≤ 1048576
  · have : crightB ⟨ep, nx, l⟩ = goR (ep * 1048576 + nx) (ep * 1048576) [] l := by simp [crightB, h]
    rw [this]
    exact check_in ep nx s l w hn hs h.1 h.2.1 h.2.2.1 h.2.2.2
  · have : crightB ⟨ep, nx, l⟩ = false := by
      simp only [crightB]
      apply Bool.eq_false_iff.2
      simp only [Bool.and_eq_true, decide_eq_true_eq, ne_eq]
      rintro ⟨⟨⟨⟨a, b⟩, c⟩, d⟩, _⟩
      exact h ⟨a, b, c, d⟩
    rw [this]
    exact (check_out ep nx s w h).mono fun e w' ⟨he, hw⟩ => ⟨he, hw⟩

/-- Right's closure: it checks the calls in the variable that it has caught. -/
theorem right1_any (p : Addr) (ep nx : Int) (s : Value) (l : List CallV) (w : World) (hn : l.length ≤ 1000000) (hs : Row12 w s l)
    (h0 : w.cell? ⟨p.block, 0, none⟩ = some (.int .i64 ep)) (h1 : w.cell? ⟨p.block, 1, none⟩ = some (.int .i64 nx)) (h2 : w.cell? ⟨p.block, 2, none⟩ = some s) :
    Calls Tryd.prog 43 #[.pointer (some ⟨p.block, 0, none⟩)] w fun e w' => EndsBy (crightB ⟨ep, nx, l⟩) 2 e ∧ Below w.heap.size w w' := by
  have HC := hid (check_any ep nx s l w hn hs)
  clear hs
  generalize crightB ⟨ep, nx, l⟩ = bb at HC ⊢
  go_enter Tryd.func43, Tryd.ntmps43
  go_wp2_with fail
  refine HC.out.mono ?_
  rintro e w1 ⟨he, hb⟩
  cases bb with
  | true =>
    obtain rfl : e = .returned (.tuple #[]) := he
    go_wp2
    go_end0
    exact ⟨rfl, hb⟩
  | false =>
    obtain rfl : e = .panicked (errno 2) := he
    exact ⟨rfl, rfl, hb⟩

theorem frozen_new (w : World) (c : Array Value) (t : TypeId) (i : Nat) : (w.alloc (.cells c t)).frozen? ⟨w.heap.size, i, none⟩ = false := by
  unfold World.frozen?
  rw [show (w.alloc (.cells c t)).heap[w.heap.size]? = some (.cells c t) from heap_new w _]
  simp

/-- What told leaves behind, where what it calls keeps all that was there. -/
theorem told_below (g : Nat) (cap : Array Value) (b : Bool) (n : Int) (w : World)
    (he : ∀ args w, (callFunc g args).run Tryd.prog w = .ok (.enter g args) w)
    (hc : Calls Tryd.prog g cap (toldW w) fun e w' => EndsBy b n e ∧ Below (toldW w).heap.size (toldW w) w') :
    Calls Tryd.prog 42 #[.func (.func g) #[] cap] w fun e w' => e = .returned (.int .i64 (if b then 0 else n)) ∧ Below w.heap.size w w' := by
  refine (told_any g cap b n (fun w1 => Below (toldW w).heap.size (toldW w) w1) w he (fun w1 h1 => ?_) hc).mono ?_
  · have hlt : w.heap.size < (toldW w).heap.size := by simp [toldW]
    rw [h1.cell (p := ⟨w.heap.size, 0, none⟩) hlt, h1.frozen (p := ⟨w.heap.size, 0, none⟩) hlt]
    exact ⟨by simp [toldW], frozen_new _ _ _ _⟩
  · rintro e w' ⟨rfl, w1, h1, rfl⟩
    refine ⟨rfl, ?_⟩
    have h0 : Below w.heap.size w (toldW w) := (Below.refl _ _).alloc (Nat.le_refl _) _
    exact (h0.trans (h1.mono (by simp [toldW]))).setCell (p := ⟨w.heap.size, 0, none⟩) (Nat.le_refl _) _

set_option maxHeartbeats 400000 in
theorem cright_any (ep nx : Int) (s : Value) (l : List CallV) (w : World) (hn : l.length ≤ 1000000) (hs : Row12 w s l) :
    Calls Tryd.prog 32 #[calls ep nx s] w fun e w' => e = .returned (.bool (crightB ⟨ep, nx, l⟩)) ∧ Below w.heap.size w w' := by
  have hmf := mkfunc
  have hC : Calls Tryd.prog 42 #[.func (.func 43) #[] #[.pointer (some ⟨w.heap.size, 0, none⟩)]] (w.alloc (.cells #[.int .i64 ep, .int .i64 nx, s] 37)) fun e w' => e = .returned (.int .i64 (if crightB ⟨ep, nx, l⟩ then 0 else 2)) ∧ Below w.heap.size w w' := by
    refine (told_below 43 _ (crightB ⟨ep, nx, l⟩) 2 _ (enters_of Tryd.func43 (by kernel_rfl) rfl) ?_).mono fun e w' ⟨he, hb⟩ => ⟨he, ?_⟩
    · refine right1_any ⟨w.heap.size, 0, none⟩ ep nx s l _ hn (hs.below ?_) (by simp [toldW, go_sem]) (by simp [toldW, go_sem]) (by simp [toldW, go_sem])
      exact ((Below.refl _ _).alloc (Nat.le_refl _) _).alloc (by simp) _
    · exact ((Below.refl _ _).alloc (Nat.le_refl _) _).trans (hb.mono (by simp))
  have HC := hid hC
  clear hC hs
  unfold calls
  generalize crightB ⟨ep, nx, l⟩ = bb at HC ⊢
  go_enter Tryd.func32, Tryd.ntmps32
  go_wp2_with fail
  refine HC.out.mono ?_
  rintro e w1 ⟨rfl, hb⟩
  cases bb with
  | true =>
    simp only [if_true]
    go_wp2
    go_ret
    exact ⟨rfl, hb⟩
  | false =>
    simp only [Bool.false_eq_true, if_false]
    go_wp2
    go_ret
    exact ⟨rfl, hb⟩
end Go.Proofs.YthhgpiolcnojfaaDoor
