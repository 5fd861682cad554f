import Derived.Test.YtgcajfglidflnaaGreatDoorClm
import Derived.BigQuiet
/- Kepts, Intents, refreshes, a group's numbers: held against each other. Printed by gn_eq3.py. -/
namespace Go.Proofs.YtgcajfglidflnaaGreatDoor
open Go.RowKit Go.Shelf

/-- Thirteen numbers are the same. -/
def eq13 (f h : Nat → Int) : Bool := f 0 == h 0 && (f 1 == h 1 && (f 2 == h 2 && (f 3 == h 3 && (f 4 == h 4 && (f 5 == h 5 && (f 6 == h 6 && (f 7 == h 7 && (f 8 == h 8 && (f 9 == h 9 && (f 10 == h 10 && (f 11 == h 11 && (f 12 == h 12))))))))))))
theorem eq13_iff {f h : Nat → Int} : eq13 f h = true ↔ ∀ i, i < 13 → f i = h i := by
 unfold eq13
 simp only [Bool.and_eq_true, beq_iff_eq]
 constructor
 ·rintro ⟨h0, h1, h2, h3, h4, h5, h6, h7, h8, h9, h10, h11, h12⟩ i hi
  match i, hi with
  | 0, _ => exact h0
  | 1, _ => exact h1
  | 2, _ => exact h2
  | 3, _ => exact h3
  | 4, _ => exact h4
  | 5, _ => exact h5
  | 6, _ => exact h6
  | 7, _ => exact h7
  | 8, _ => exact h8
  | 9, _ => exact h9
  | 10, _ => exact h10
  | 11, _ => exact h11
  | 12, _ => exact h12
 ·intro k
  exact ⟨k 0 (by decide), k 1 (by decide), k 2 (by decide), k 3 (by decide), k 4 (by decide), k 5 (by decide), k 6 (by decide), k 7 (by decide), k 8 (by decide), k 9 (by decide), k 10 (by decide), k 11 (by decide), k 12 (by decide)⟩
/-- The same. -/
def inEB (x y : IntentV) : Bool := x.token == y.token && (x.version == y.version && (x.zone == y.zone && (x.warm == y.warm)))
theorem inEB_iff {x y : IntentV} : inEB x y = true ↔ x = y := by
 cases x; cases y
 simp [inEB]
set_option maxHeartbeats 4000000 in
theorem neqinE_run (x y : IntentV) (w : World) : (binOp .neq 54 (.agg #[.int .i64 x.token, .int .i64 x.version, .int .i64 x.zone, .bool x.warm]) (.agg #[.int .i64 y.token, .int .i64 y.version, .int .i64 y.zone, .bool y.warm])).run Tryz.prog w = .ok (.bool (!inEB x y)) w := by
 simp [go_sem]
 by_cases h0 : x.token = y.token
 rotate_left
 ·simp [inEB, h0]
 by_cases h1 : x.version = y.version
 rotate_left
 ·simp [inEB, h0, h1]
 by_cases h2 : x.zone = y.zone
 rotate_left
 ·simp [inEB, h0, h1, h2]
 by_cases h3 : x.warm = y.warm
 rotate_left
 ·simp [inEB, h0, h1, h2, h3]
 simp [inEB, h0, h1, h2, h3]
/-- The same. -/
def kpEB (x y : KeptV) : Bool := x.id == y.id && (x.token == y.token && (x.version == y.version && (x.zone == y.zone && (x.phase == y.phase && (x.since == y.since && (x.guarded == y.guarded && (x.complete == y.complete)))))))
theorem kpEB_iff {x y : KeptV} : kpEB x y = true ↔ x = y := by
 cases x; cases y
 simp [kpEB]
set_option maxHeartbeats 4000000 in
theorem neqkpE_run (x y : KeptV) (w : World) : (binOp .neq 51 (.agg #[.int .i64 x.id, .int .i64 x.token, .int .i64 x.version, .int .i64 x.zone, .int .u8 x.phase, .int .i64 x.since, .bool x.guarded, .bool x.complete]) (.agg #[.int .i64 y.id, .int .i64 y.token, .int .i64 y.version, .int .i64 y.zone, .int .u8 y.phase, .int .i64 y.since, .bool y.guarded, .bool y.complete])).run Tryz.prog w = .ok (.bool (!kpEB x y)) w := by
 simp [go_sem]
 by_cases h0 : x.id = y.id
 rotate_left
 ·simp [kpEB, h0]
 by_cases h1 : x.token = y.token
 rotate_left
 ·simp [kpEB, h0, h1]
 by_cases h2 : x.version = y.version
 rotate_left
 ·simp [kpEB, h0, h1, h2]
 by_cases h3 : x.zone = y.zone
 rotate_left
 ·simp [kpEB, h0, h1, h2, h3]
 by_cases h4 : x.phase = y.phase
 rotate_left
 ·simp [kpEB, h0, h1, h2, h3, h4]
 by_cases h5 : x.since = y.since
 rotate_left
 ·simp [kpEB, h0, h1, h2, h3, h4, h5]
 by_cases h6 : x.guarded = y.guarded
 rotate_left
 ·simp [kpEB, h0, h1, h2, h3, h4, h5, h6]
 by_cases h7 : x.complete = y.complete
 rotate_left
 ·simp [kpEB, h0, h1, h2, h3, h4, h5, h6, h7]
 simp [kpEB, h0, h1, h2, h3, h4, h5, h6, h7]
/-- A refresh. -/
structure RefV where
 state : Int
 rfrom : Int
 target : Int
 step : Int
 paused : Bool
 since : Int
 fails : Int
/-- The same. -/
def rfEB (x y : RefV) : Bool := x.state == y.state && (x.rfrom == y.rfrom && (x.target == y.target && (x.step == y.step && (x.paused == y.paused && (x.since == y.since && (x.fails == y.fails))))))
theorem rfEB_iff {x y : RefV} : rfEB x y = true ↔ x = y := by
 cases x; cases y
 simp [rfEB]
set_option maxHeartbeats 4000000 in
theorem eqlrfE_run (x y : RefV) (w : World) : (binOp .eql 31 (.agg #[.int .u8 x.state, .int .i64 x.rfrom, .int .i64 x.target, .int .i64 x.step, .bool x.paused, .int .i64 x.since, .int .i64 x.fails]) (.agg #[.int .u8 y.state, .int .i64 y.rfrom, .int .i64 y.target, .int .i64 y.step, .bool y.paused, .int .i64 y.since, .int .i64 y.fails])).run Tryz.prog w = .ok (.bool (rfEB x y)) w := by
 simp [go_sem]
 by_cases h0 : x.state = y.state
 rotate_left
 ·simp [rfEB, h0]
 by_cases h1 : x.rfrom = y.rfrom
 rotate_left
 ·simp [rfEB, h0, h1]
 by_cases h2 : x.target = y.target
 rotate_left
 ·simp [rfEB, h0, h1, h2]
 by_cases h3 : x.step = y.step
 rotate_left
 ·simp [rfEB, h0, h1, h2, h3]
 by_cases h4 : x.paused = y.paused
 rotate_left
 ·simp [rfEB, h0, h1, h2, h3, h4]
 by_cases h5 : x.since = y.since
 rotate_left
 ·simp [rfEB, h0, h1, h2, h3, h4, h5]
 by_cases h6 : x.fails = y.fails
 rotate_left
 ·simp [rfEB, h0, h1, h2, h3, h4, h5, h6]
 simp [rfEB, h0, h1, h2, h3, h4, h5, h6]
instance : DecidableEq IntentV := fun a b => decidable_of_iff (inEB a b = true) inEB_iff
instance : DecidableEq KeptV := fun a b => decidable_of_iff (kpEB a b = true) kpEB_iff
def refOf (B : BrainV) : RefV := ⟨B.f 20, B.f 21, B.f 22, B.f 23, B.g 24, B.f 25, B.f 26⟩
end Go.Proofs.YtgcajfglidflnaaGreatDoor

/- herdref07.Same, herdref13.Same: exact. Printed by gn_smx.py. -/
namespace Go.Proofs.YtgcajfglidflnaaGreatDoor
open Go.RowKit Go.Shelf
attribute [-go_sem] loadVar run_equalIn_agg
attribute [local go_sem] load_other2

/-- Two groups are the same. -/
def sameC (f : Nat → Int) (g : Bool) (M : List Int) (f' : Nat → Int) (g' : Bool) (M' : List Int) : Bool := decide (M = M') && (g == g' && eq13 f f')
/-- Two brains are the same. -/
def sameB (A B : BrainV) : Bool := A.f 0 == B.f 0 && (A.f 1 == B.f 1 && (A.g 2 == B.g 2 && (sameC (fun i => A.f (i + 3)) (A.g 16) A.M (fun i => B.f (i + 3)) (B.g 16) B.M && (rfEB (refOf A) (refOf B) && (decide (A.I = B.I) && decide (A.K = B.K))))))
end Go.Proofs.YtgcajfglidflnaaGreatDoor

/- herdref13.Same: exact. Printed by gn_sme.py. -/
namespace Go.Proofs.YtgcajfglidflnaaGreatDoor
open Go.RowKit Go.Shelf
attribute [-go_sem] loadVar run_equalIn_agg
attribute [local go_sem] load_other2

theorem sameB_iff_parts {A B : BrainV} : sameB A B = true ↔ A.f 0 = B.f 0 ∧ A.f 1 = B.f 1 ∧ A.g 2 = B.g 2 ∧ sameC (fun i => A.f (i + 3)) (A.g 16) A.M (fun i => B.f (i + 3)) (B.g 16) B.M = true ∧ refOf A = refOf B ∧ A.I = B.I ∧ A.K = B.K := by
 unfold sameB
 simp only [Bool.and_eq_true, beq_iff_eq, decide_eq_true_eq, rfEB_iff]
theorem sameB_no {A B : BrainV} {r : Bool} (hr : sameB A B = r) (h : ¬ (A.f 0 = B.f 0 ∧ A.f 1 = B.f 1 ∧ A.g 2 = B.g 2 ∧ sameC (fun i => A.f (i + 3)) (A.g 16) A.M (fun i => B.f (i + 3)) (B.g 16) B.M = true ∧ refOf A = refOf B ∧ A.I = B.I ∧ A.K = B.K)) : r = false := by
 rw [← hr, Bool.eq_false_iff]
 intro e
 exact h (sameB_iff_parts.1 e)
end Go.Proofs.YtgcajfglidflnaaGreatDoor
