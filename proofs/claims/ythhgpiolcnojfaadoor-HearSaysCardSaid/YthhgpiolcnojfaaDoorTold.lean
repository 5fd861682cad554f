
/- A part of the proofs about open calls: contracts of functions, or plain facts that they want. -/
import Derived.Test.YthhgpiolcnojfaaDoorCl
namespace Go.Proofs.YthhgpiolcnojfaaDoor
open Go.RowKit Go.Shelf

def entry (n : Int) : PanicEntry := { v := .iface 101 (.int .i64 n), recovered := false }
def errno (n : Int) : List PanicEntry := [entry n]

/-- How a call that may leave by an error ends: it is so, or it has left by the error. -/
def EndsBy (b : Bool) (n : Int) (e : Ending) : Prop := e = if b then .returned (.tuple #[]) else .panicked (errno n)

set_option maxHeartbeats 400000 in
theorem must_yes (n : Int) (w : World) :
    Calls Tryd.prog 57 #[.bool true, .int .i64 n] w fun e w' => e = .returned (.tuple #[]) ∧ w = w' := by
  go_enter Tryd.func57, Tryd.ntmps57
  go_wp2
  go_end0
  exact ⟨rfl, rfl⟩

set_option maxHeartbeats 400000 in
theorem must_no (n : Int) (w : World) :
    Calls Tryd.prog 57 #[.bool false, .int .i64 n] w fun e w' => e = .panicked (errno n) ∧ w = w' := by
  go_enter Tryd.func57, Tryd.ntmps57
  go_wp2
  exact ⟨rfl, rfl, rfl⟩

set_option maxHeartbeats 400000 in
theorem kind_yes (k : Int) (w : World) (h1 : 1 ≤ k) (h2 : k < 8) :
    Calls Tryd.prog 58 #[.int .u8 k] w fun e w' => e = .returned (.tuple #[]) ∧ w = w' := by
  have d1 : decide (1 ≤ k) = true := by simpa using h1
  have d2 : decide (k < 8) = true := by simpa using h2
  go_enter Tryd.func58, Tryd.ntmps58
  go_wp2_with (go_at_call 57; refine (must_yes _ _).mono ?_; rintro e w' ⟨rfl, rfl⟩)
  go_end0
  exact ⟨rfl, rfl⟩

set_option maxHeartbeats 400000 in
theorem kind_no (k : Int) (w : World) (h : k < 1 ∨ 8 ≤ k) :
    Calls Tryd.prog 58 #[.int .u8 k] w fun e w' => e = .panicked (errno 2) ∧ w = w' := by
  by_cases h1 : 1 ≤ k
  · have d1 : decide (1 ≤ k) = true := by simpa using h1
    have d2 : decide (k < 8) = false := by simp; omega
    go_enter Tryd.func58, Tryd.ntmps58
    go_wp2_with (go_at_call 57; refine (must_no _ _).mono ?_; rintro e w' ⟨rfl, rfl⟩)
    exact ⟨rfl, rfl, rfl⟩
  · have d1 : decide (1 ≤ k) = false := by simp; omega
    go_enter Tryd.func58, Tryd.ntmps58
    go_wp2_with (go_at_call 57; refine (must_no _ _).mono ?_; rintro e w' ⟨rfl, rfl⟩)
    exact ⟨rfl, rfl, rfl⟩

def kindB (k : Int) : Bool := decide (1 ≤ k ∧ k < 8)
def numB (n : Int) : Bool := decide (0 ≤ n ∧ n ≤ 1099511627776)
theorem kindB_yes {k : Int} (h : kindB k = true) : 1 ≤ k ∧ k < 8 := by simpa [kindB] using h
theorem kindB_no {k : Int} (h : kindB k = false) : k < 1 ∨ 8 ≤ k := by simp [kindB] at h; omega
theorem numB_yes {n : Int} (h : numB n = true) : 0 ≤ n ∧ n ≤ 1099511627776 := by simpa [numB] using h

set_option maxHeartbeats 400000 in
theorem numbers_row (b off cap : Nat) (l : List Int) (w : World) (hm : l.length ≤ 1000000) (hc : ∀ i x, l[i]? = some x → w.cell? ⟨b, off + i, none⟩ = some (.int .i64 x)) :
    Calls Tryd.prog 59 #[.slice (some ⟨b, off, none⟩) l.length cap] w fun e w' => EndsBy (l.all numB) 2 e ∧ w = w' := by
  have HC := hid hc
  clear hc
  go_enter Tryd.func59, Tryd.ntmps59
  go_wp2
  go_loop [6] (fun i => ∃ k : Nat, k ≤ l.length ∧ i = .int .i64 k ∧ (l.take k).all numB = true) (fun i => l.length - (intOf i).toNat)
  case atStart => exact ⟨0, Nat.zero_le _, rfl, rfl⟩
  case round =>
    obtain ⟨k, hk, rfl, hall⟩ := hrel
    have HA := hid hall
    clear hall
    by_cases hlt : k < l.length
    · obtain ⟨x, hx⟩ := get_lt hlt
      have hcell := HC.out k x hx
      have HS := hid (take_snoc l k x hx)
      have HX := hid hx
      clear hx
      by_cases h1 : 0 ≤ x
      · have d1 : decide (0 ≤ x) = true := by simpa using h1
        by_cases h2 : x ≤ 1099511627776
        · have d2 : decide (x ≤ 1099511627776) = true := by simpa using h2
          go_wp2_with (go_at_call 57; refine (must_yes _ _).mono ?_; rintro e w' ⟨rfl, rfl⟩)
          go_round
          case rel => exact ⟨k + 1, by omega, by go_num, by rw [HS.out, List.all_append, HA.out]; simp [numB, h1, h2]⟩
          case measure => simp [intOf]; omega
        · have d2 : decide (x ≤ 1099511627776) = false := by simpa using h2
          go_wp2_with (go_at_call 57; refine (must_no _ _).mono ?_; rintro e w' ⟨rfl, rfl⟩)
          refine ⟨rfl, ?_, rfl⟩
          have : l.all numB = false := by
            rw [List.all_eq_false]; exact ⟨x, mem_get HX.out, by simp [numB, h2]⟩
          rw [this]; rfl
      · have d1 : decide (0 ≤ x) = false := by simpa using h1
        go_wp2_with (go_at_call 57; refine (must_no _ _).mono ?_; rintro e w' ⟨rfl, rfl⟩)
        refine ⟨rfl, ?_, rfl⟩
        have : l.all numB = false := by
          rw [List.all_eq_false]; exact ⟨x, mem_get HX.out, by simp [numB]; omega⟩
        rw [this]; rfl
    · obtain rfl : k = l.length := by omega
      go_wp2
      go_end0
      refine ⟨?_, rfl⟩
      have := HA.out
      rw [List.take_length] at this
      rw [this]; rfl

theorem numbers2 (b : Nat) (x y : Int) (w : World) (h0 : w.cell? ⟨b, 0, none⟩ = some (.int .i64 x)) (h1 : w.cell? ⟨b, 1, none⟩ = some (.int .i64 y)) :
    Calls Tryd.prog 59 #[.slice (some ⟨b, 0, none⟩) 2 2] w fun e w' => EndsBy (numB x && numB y) 2 e ∧ w = w' := by
  have h := numbers_row b 0 2 [x, y] w (by simp) (fun i z hi => by
    match i, hi with
    | 0, hi => simp at hi; subst hi; simpa using h0
    | 1, hi => simp at hi; subst hi; simpa using h1
    | i + 2, hi => simp at hi)
  refine Calls.mono h ?_
  rintro e w' ⟨he, hw⟩
  exact ⟨by simpa [List.all] using he, hw⟩
theorem numbers2_yes (b : Nat) (x y : Int) (w : World) (h0 : w.cell? ⟨b, 0, none⟩ = some (.int .i64 x)) (h1 : w.cell? ⟨b, 1, none⟩ = some (.int .i64 y)) (hx : numB x = true) (hy : numB y = true) :
    Calls Tryd.prog 59 #[.slice (some ⟨b, 0, none⟩) 2 2] w fun e w' => e = .returned (.tuple #[]) ∧ w = w' :=
  (numbers2 b x y w h0 h1).mono fun e w' ⟨he, hw⟩ => ⟨by simpa [EndsBy, hx, hy] using he, hw⟩
theorem numbers2_no (b : Nat) (x y : Int) (w : World) (h0 : w.cell? ⟨b, 0, none⟩ = some (.int .i64 x)) (h1 : w.cell? ⟨b, 1, none⟩ = some (.int .i64 y)) (hx : (numB x && numB y) = false) :
    Calls Tryd.prog 59 #[.slice (some ⟨b, 0, none⟩) 2 2] w fun e w' => e = .panicked (errno 2) ∧ w = w' :=
  (numbers2 b x y w h0 h1).mono fun e w' ⟨he, hw⟩ => ⟨by simpa [EndsBy, hx] using he, hw⟩

theorem told1_panicking (p : Addr) (x n : Int) (older : List PanicEntry) (w : World) (hc : w.cell? p = some (.int .i64 x)) (hz : w.frozen? p = false) :
    CallsD Tryd.prog 56 #[.pointer (some p)] (.panicking (entry n :: older)) w fun e u' w' =>
      e = .returned (.tuple #[]) ∧ u' = .panicking ({ entry n with recovered := true } :: older) ∧ w' = w.setCell p (.int .i64 n) := by
  refine callsD_of_wpS Tryd.func56 rfl fun c₀ cs hu => ?_
  unfold entry at hu
  have hta : ∀ w, (Instr.typeAssert (.iface 101 (.int .i64 n)) 20 101 true).run Tryd.prog w = .ok (.tuple #[.int .i64 n, .bool true]) w := fun w => by kernel_rfl
  apply wpS_seq
  apply wpS_region
  simp [wpOpsS, go_sem, recoverD, hu, Tryd.ntmps56, Exit.thenS, hta]
  apply wpS_seq
  apply wpS_region
  simp [wpOpsS, go_sem, Exit.thenS]
  refine wpS_cond (t := true) (by simp [Act.eval, Array.replicate]) ?_
  simp only [if_true]
  apply wpS_region
  simp [wpOpsS, go_sem, hc, hz, bodyPostS, results, Tryd.results56, entry]

theorem told1_idle (p : Addr) (w : World) :
    CallsD Tryd.prog 56 #[.pointer (some p)] .returning w fun e u' w' => e = .returned (.tuple #[]) ∧ u' = .returning ∧ w' = w := by
  refine callsD_of_wpS Tryd.func56 rfl fun c₀ cs hu => ?_
  have hta : ∀ w, (Instr.typeAssert .nilIface 20 101 true).run Tryd.prog w = .ok (.tuple #[.int .i64 0, .bool false]) w := fun w => by kernel_rfl
  apply wpS_seq
  apply wpS_region
  simp [wpOpsS, go_sem, recoverD, hu, Tryd.ntmps56, Exit.thenS, hta]
  apply wpS_seq
  apply wpS_region
  simp [wpOpsS, go_sem, Exit.thenS]
  refine wpS_cond (t := false) (by simp [Act.eval, Array.replicate]) ?_
  simp only [Bool.false_eq_true, if_false]
  refine wpS_of_wp (wp_skip ?_)
  cases c₀
  simp_all [bodyPostS, results, Tryd.results56]

/-- The world in which told calls what it was handed. -/
def toldW (w : World) : World := w.alloc (.cells #[.int .i64 0] 101)

set_option maxHeartbeats 400000 in
theorem told_any (g : Nat) (cap : Array Value) (b : Bool) (n : Int) (R : World → Prop) (w : World)
    (he : ∀ args w, (callFunc g args).run Tryd.prog w = .ok (.enter g args) w)
    (hR : ∀ w1, R w1 → w1.cell? ⟨w.heap.size, 0, none⟩ = some (.int .i64 0) ∧ w1.frozen? ⟨w.heap.size, 0, none⟩ = false)
    (hc : Calls Tryd.prog g cap (toldW w) fun e w' => EndsBy b n e ∧ R w') :
    Calls Tryd.prog 42 #[.func (.func g) #[] cap] w fun e w' => e = .returned (.int .i64 (if b then 0 else n)) ∧ ∃ w1, R w1 ∧ w' = w1.setCell ⟨w.heap.size, 0, none⟩ (.int .i64 (if b then 0 else n)) := by
  have hmf := mkfunc
  have HR := hid hR
  have HC := hid hc
  clear hR hc
  go_enter_defers Tryd.func42, Tryd.ntmps42
  go_wp2_with fail
  refine HC.out.mono ?_
  rintro e w1 ⟨he1, h1⟩
  obtain ⟨c1, f1⟩ := HR.out w1 h1
  unfold EndsBy at he1
  cases b with
  | true =>
    obtain rfl := he1
    go_wp2
    refine leaves_cons (f := 56) (args := #[.pointer (some ⟨w.heap.size, 0, none⟩)]) (by simp) (by simp [go_sem]) ?_
    refine (told1_idle _ _).mono ?_
    rintro e u' w'' ⟨rfl, rfl, rfl⟩
    simp [Leaves, settle, results, Tryd.results42, go_sem, c1]
    exact ⟨_, h1, rfl⟩
  | false =>
    obtain rfl := he1
    go_wp2
    refine leaves_cons (f := 56) (args := #[.pointer (some ⟨w.heap.size, 0, none⟩)]) (by simp) (by simp [go_sem]) ?_
    refine (told1_panicking _ 0 n [] w1 c1 f1).mono ?_
    rintro e u' w'' ⟨rfl, rfl, rfl⟩
    simp [Leaves, settle, results, Tryd.results42, go_sem, c1]
    exact ⟨_, h1, rfl⟩
end Go.Proofs.YthhgpiolcnojfaaDoor
