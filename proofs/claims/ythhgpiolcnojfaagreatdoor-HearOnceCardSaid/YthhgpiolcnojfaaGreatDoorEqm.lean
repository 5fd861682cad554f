import Derived.Test.YthhgpiolcnojfaaGreatDoorClm
import Derived.BigQuiet
/- Kepts, Intents, refreshes, a group's numbers: held against each other. Printed by gn_eq3.py. -/
namespace Go.Proofs.YthhgpiolcnojfaaGreatDoor
open Go.RowKit Go.Shelf

/-- Thirteen numbers are the same. -/
def eq13 (f h : Nat → Int) : Bool := f 0 == h 0 && (f 1 == h 1 && (f 2 == h 2 && (f 3 == h 3 && (f 4 == h 4 && (f 5 == h 5 && (f 6 == h 6 && (f 7 == h 7 && (f 8 == h 8 && (f 9 == h 9 && (f 10 == h 10 && (f 11 == h 11 && (f 12 == h 12))))))))))))
theorem eq13_iff {f h : Nat → Int} : eq13 f h = true ↔ ∀ i, i < 13 → f i = h i := by
 unfold eq13
 simp only [Bool.and_eq_true, beq_iff_eq]
 constructor
 ·rintro ⟨h0, h1, h2, h3, h4, h5, h6, h7, h8, h9, h10, h11, h12⟩ i hi
  match i, hi with
  | 0, _ => exact h0
  | 1, _ => exact h1
  | 2, _ => exact h2
  | 3, _ => exact h3
  | 4, _ => exact h4
  | 5, _ => exact h5
  | 6, _ => exact h6
  | 7, _ => exact h7
  | 8, _ => exact h8
  | 9, _ => exact h9
  | 10, _ => exact h10
  | 11, _ => exact h11
  | 12, _ => exact h12
 ·intro k
  exact ⟨k 0 (by decide), k 1 (by decide), k 2 (by decide), k 3 (by decide), k 4 (by decide), k 5 (by decide), k 6 (by decide), k 7 (by decide), k 8 (by decide), k 9 (by decide), k 10 (by decide), k 11 (by decide), k 12 (by decide)⟩
set_option maxHeartbeats 4000000 in
theorem arr13_any (f h : Nat → Int) (w : World) : (Op.equalIn 10000 138 (.agg #[.int .i64 (f 0), .int .i64 (f 1), .int .i64 (f 2), .int .i64 (f 3), .int .i64 (f 4), .int .i64 (f 5), .int .i64 (f 6), .int .i64 (f 7), .int .i64 (f 8), .int .i64 (f 9), .int .i64 (f 10), .int .i64 (f 11), .int .i64 (f 12)]) (.agg #[.int .i64 (h 0), .int .i64 (h 1), .int .i64 (h 2), .int .i64 (h 3), .int .i64 (h 4), .int .i64 (h 5), .int .i64 (h 6), .int .i64 (h 7), .int .i64 (h 8), .int .i64 (h 9), .int .i64 (h 10), .int .i64 (h 11), .int .i64 (h 12)])).run Tryz.prog w = .ok (eq13 f h) w := by
 have hu : Tryz.prog.underlying 138 = some (.array 13 3) := by kernel_rfl
 have hi : Tryz.prog.underlying 3 = some (.int .i64) := by kernel_rfl
 have hs : ∀ w, (sizeOf 3).run Tryz.prog w = .ok 1 w := fun w => by kernel_rfl
 have pf0 : ∀ w, (_root_.Go.part 3 #[.int .i64 (f 0), .int .i64 (f 1), .int .i64 (f 2), .int .i64 (f 3), .int .i64 (f 4), .int .i64 (f 5), .int .i64 (f 6), .int .i64 (f 7), .int .i64 (f 8), .int .i64 (f 9), .int .i64 (f 10), .int .i64 (f 11), .int .i64 (f 12)] 0).run Tryz.prog w = .ok (.int .i64 (f 0)) w := fun w => by kernel_rfl
 have pf1 : ∀ w, (_root_.Go.part 3 #[.int .i64 (f 0), .int .i64 (f 1), .int .i64 (f 2), .int .i64 (f 3), .int .i64 (f 4), .int .i64 (f 5), .int .i64 (f 6), .int .i64 (f 7), .int .i64 (f 8), .int .i64 (f 9), .int .i64 (f 10), .int .i64 (f 11), .int .i64 (f 12)] 1).run Tryz.prog w = .ok (.int .i64 (f 1)) w := fun w => by kernel_rfl
 have pf2 : ∀ w, (_root_.Go.part 3 #[.int .i64 (f 0), .int .i64 (f 1), .int .i64 (f 2), .int .i64 (f 3), .int .i64 (f 4), .int .i64 (f 5), .int .i64 (f 6), .int .i64 (f 7), .int .i64 (f 8), .int .i64 (f 9), .int .i64 (f 10), .int .i64 (f 11), .int .i64 (f 12)] 2).run Tryz.prog w = .ok (.int .i64 (f 2)) w := fun w => by kernel_rfl
 have pf3 : ∀ w, (_root_.Go.part 3 #[.int .i64 (f 0), .int .i64 (f 1), .int .i64 (f 2), .int .i64 (f 3), .int .i64 (f 4), .int .i64 (f 5), .int .i64 (f 6), .int .i64 (f 7), .int .i64 (f 8), .int .i64 (f 9), .int .i64 (f 10), .int .i64 (f 11), .int .i64 (f 12)] 3).run Tryz.prog w = .ok (.int .i64 (f 3)) w := fun w => by kernel_rfl
 have pf4 : ∀ w, (_root_.Go.part 3 #[.int .i64 (f 0), .int .i64 (f 1), .int .i64 (f 2), .int .i64 (f 3), .int .i64 (f 4), .int .i64 (f 5), .int .i64 (f 6), .int .i64 (f 7), .int .i64 (f 8), .int .i64 (f 9), .int .i64 (f 10), .int .i64 (f 11), .int .i64 (f 12)] 4).run Tryz.prog w = .ok (.int .i64 (f 4)) w := fun w => by kernel_rfl
 have pf5 : ∀ w, (_root_.Go.part 3 #[.int .i64 (f 0), .int .i64 (f 1), .int .i64 (f 2), .int .i64 (f 3), .int .i64 (f 4), .int .i64 (f 5), .int .i64 (f 6), .int .i64 (f 7), .int .i64 (f 8), .int .i64 (f 9), .int .i64 (f 10), .int .i64 (f 11), .int .i64 (f 12)] 5).run Tryz.prog w = .ok (.int .i64 (f 5)) w := fun w => by kernel_rfl
 have pf6 : ∀ w, (_root_.Go.part 3 #[.int .i64 (f 0), .int .i64 (f 1), .int .i64 (f 2), .int .i64 (f 3), .int .i64 (f 4), .int .i64 (f 5), .int .i64 (f 6), .int .i64 (f 7), .int .i64 (f 8), .int .i64 (f 9), .int .i64 (f 10), .int .i64 (f 11), .int .i64 (f 12)] 6).run Tryz.prog w = .ok (.int .i64 (f 6)) w := fun w => by kernel_rfl
 have pf7 : ∀ w, (_root_.Go.part 3 #[.int .i64 (f 0), .int .i64 (f 1), .int .i64 (f 2), .int .i64 (f 3), .int .i64 (f 4), .int .i64 (f 5), .int .i64 (f 6), .int .i64 (f 7), .int .i64 (f 8), .int .i64 (f 9), .int .i64 (f 10), .int .i64 (f 11), .int .i64 (f 12)] 7).run Tryz.prog w = .ok (.int .i64 (f 7)) w := fun w => by kernel_rfl
 have pf8 : ∀ w, (_root_.Go.part 3 #[.int .i64 (f 0), .int .i64 (f 1), .int .i64 (f 2), .int .i64 (f 3), .int .i64 (f 4), .int .i64 (f 5), .int .i64 (f 6), .int .i64 (f 7), .int .i64 (f 8), .int .i64 (f 9), .int .i64 (f 10), .int .i64 (f 11), .int .i64 (f 12)] 8).run Tryz.prog w = .ok (.int .i64 (f 8)) w := fun w => by kernel_rfl
 have pf9 : ∀ w, (_root_.Go.part 3 #[.int .i64 (f 0), .int .i64 (f 1), .int .i64 (f 2), .int .i64 (f 3), .int .i64 (f 4), .int .i64 (f 5), .int .i64 (f 6), .int .i64 (f 7), .int .i64 (f 8), .int .i64 (f 9), .int .i64 (f 10), .int .i64 (f 11), .int .i64 (f 12)] 9).run Tryz.prog w = .ok (.int .i64 (f 9)) w := fun w => by kernel_rfl
 have pf10 : ∀ w, (_root_.Go.part 3 #[.int .i64 (f 0), .int .i64 (f 1), .int .i64 (f 2), .int .i64 (f 3), .int .i64 (f 4), .int .i64 (f 5), .int .i64 (f 6), .int .i64 (f 7), .int .i64 (f 8), .int .i64 (f 9), .int .i64 (f 10), .int .i64 (f 11), .int .i64 (f 12)] 10).run Tryz.prog w = .ok (.int .i64 (f 10)) w := fun w => by kernel_rfl
 have pf11 : ∀ w, (_root_.Go.part 3 #[.int .i64 (f 0), .int .i64 (f 1), .int .i64 (f 2), .int .i64 (f 3), .int .i64 (f 4), .int .i64 (f 5), .int .i64 (f 6), .int .i64 (f 7), .int .i64 (f 8), .int .i64 (f 9), .int .i64 (f 10), .int .i64 (f 11), .int .i64 (f 12)] 11).run Tryz.prog w = .ok (.int .i64 (f 11)) w := fun w => by kernel_rfl
 have pf12 : ∀ w, (_root_.Go.part 3 #[.int .i64 (f 0), .int .i64 (f 1), .int .i64 (f 2), .int .i64 (f 3), .int .i64 (f 4), .int .i64 (f 5), .int .i64 (f 6), .int .i64 (f 7), .int .i64 (f 8), .int .i64 (f 9), .int .i64 (f 10), .int .i64 (f 11), .int .i64 (f 12)] 12).run Tryz.prog w = .ok (.int .i64 (f 12)) w := fun w => by kernel_rfl
 have ph0 : ∀ w, (_root_.Go.part 3 #[.int .i64 (h 0), .int .i64 (h 1), .int .i64 (h 2), .int .i64 (h 3), .int .i64 (h 4), .int .i64 (h 5), .int .i64 (h 6), .int .i64 (h 7), .int .i64 (h 8), .int .i64 (h 9), .int .i64 (h 10), .int .i64 (h 11), .int .i64 (h 12)] 0).run Tryz.prog w = .ok (.int .i64 (h 0)) w := fun w => by kernel_rfl
 have ph1 : ∀ w, (_root_.Go.part 3 #[.int .i64 (h 0), .int .i64 (h 1), .int .i64 (h 2), .int .i64 (h 3), .int .i64 (h 4), .int .i64 (h 5), .int .i64 (h 6), .int .i64 (h 7), .int .i64 (h 8), .int .i64 (h 9), .int .i64 (h 10), .int .i64 (h 11), .int .i64 (h 12)] 1).run Tryz.prog w = .ok (.int .i64 (h 1)) w := fun w => by kernel_rfl
 have ph2 : ∀ w, (_root_.Go.part 3 #[.int .i64 (h 0), .int .i64 (h 1), .int .i64 (h 2), .int .i64 (h 3), .int .i64 (h 4), .int .i64 (h 5), .int .i64 (h 6), .int .i64 (h 7), .int .i64 (h 8), .int .i64 (h 9), .int .i64 (h 10), .int .i64 (h 11), .int .i64 (h 12)] 2).run Tryz.prog w = .ok (.int .i64 (h 2)) w := fun w => by kernel_rfl
 have ph3 : ∀ w, (_root_.Go.part 3 #[.int .i64 (h 0), .int .i64 (h 1), .int .i64 (h 2), .int .i64 (h 3), .int .i64 (h 4), .int .i64 (h 5), .int .i64 (h 6), .int .i64 (h 7), .int .i64 (h 8), .int .i64 (h 9), .int .i64 (h 10), .int .i64 (h 11), .int .i64 (h 12)] 3).run Tryz.prog w = .ok (.int .i64 (h 3)) w := fun w => by kernel_rfl
 have ph4 : ∀ w, (_root_.Go.part 3 #[.int .i64 (h 0), .int .i64 (h 1), .int .i64 (h 2), .int .i64 (h 3), .int .i64 (h 4), .int .i64 (h 5), .int .i64 (h 6), .int .i64 (h 7), .int .i64 (h 8), .int .i64 (h 9), .int .i64 (h 10), .int .i64 (h 11), .int .i64 (h 12)] 4).run Tryz.prog w = .ok (.int .i64 (h 4)) w := fun w => by kernel_rfl
 have ph5 : ∀ w, (_root_.Go.part 3 #[.int .i64 (h 0), .int .i64 (h 1), .int .i64 (h 2), .int .i64 (h 3), .int .i64 (h 4), .int .i64 (h 5), .int .i64 (h 6), .int .i64 (h 7), .int .i64 (h 8), .int .i64 (h 9), .int .i64 (h 10), .int .i64 (h 11), .int .i64 (h 12)] 5).run Tryz.prog w = .ok (.int .i64 (h 5)) w := fun w => by kernel_rfl
 have ph6 : ∀ w, (_root_.Go.part 3 #[.int .i64 (h 0), .int .i64 (h 1), .int .i64 (h 2), .int .i64 (h 3), .int .i64 (h 4), .int .i64 (h 5), .int .i64 (h 6), .int .i64 (h 7), .int .i64 (h 8), .int .i64 (h 9), .int .i64 (h 10), .int .i64 (h 11), .int .i64 (h 12)] 6).run Tryz.prog w = .ok (.int .i64 (h 6)) w := fun w => by kernel_rfl
 have ph7 : ∀ w, (_root_.Go.part 3 #[.int .i64 (h 0), .int .i64 (h 1), .int .i64 (h 2), .int .i64 (h 3), .int .i64 (h 4), .int .i64 (h 5), .int .i64 (h 6), .int .i64 (h 7), .int .i64 (h 8), .int .i64 (h 9), .int .i64 (h 10), .int .i64 (h 11), .int .i64 (h 12)] 7).run Tryz.prog w = .ok (.int .i64 (h 7)) w := fun w => by kernel_rfl
 have ph8 : ∀ w, (_root_.Go.part 3 #[.int .i64 (h 0), .int .i64 (h 1), .int .i64 (h 2), .int .i64 (h 3), .int .i64 (h 4), .int .i64 (h 5), .int .i64 (h 6), .int .i64 (h 7), .int .i64 (h 8), .int .i64 (h 9), .int .i64 (h 10), .int .i64 (h 11), .int .i64 (h 12)] 8).run Tryz.prog w = .ok (.int .i64 (h 8)) w := fun w => by kernel_rfl
 have ph9 : ∀ w, (_root_.Go.part 3 #[.int .i64 (h 0), .int .i64 (h 1), .int .i64 (h 2), .int .i64 (h 3), .int .i64 (h 4), .int .i64 (h 5), .int .i64 (h 6), .int .i64 (h 7), .int .i64 (h 8), .int .i64 (h 9), .int .i64 (h 10), .int .i64 (h 11), .int .i64 (h 12)] 9).run Tryz.prog w = .ok (.int .i64 (h 9)) w := fun w => by kernel_rfl
 have ph10 : ∀ w, (_root_.Go.part 3 #[.int .i64 (h 0), .int .i64 (h 1), .int .i64 (h 2), .int .i64 (h 3), .int .i64 (h 4), .int .i64 (h 5), .int .i64 (h 6), .int .i64 (h 7), .int .i64 (h 8), .int .i64 (h 9), .int .i64 (h 10), .int .i64 (h 11), .int .i64 (h 12)] 10).run Tryz.prog w = .ok (.int .i64 (h 10)) w := fun w => by kernel_rfl
 have ph11 : ∀ w, (_root_.Go.part 3 #[.int .i64 (h 0), .int .i64 (h 1), .int .i64 (h 2), .int .i64 (h 3), .int .i64 (h 4), .int .i64 (h 5), .int .i64 (h 6), .int .i64 (h 7), .int .i64 (h 8), .int .i64 (h 9), .int .i64 (h 10), .int .i64 (h 11), .int .i64 (h 12)] 11).run Tryz.prog w = .ok (.int .i64 (h 11)) w := fun w => by kernel_rfl
 have ph12 : ∀ w, (_root_.Go.part 3 #[.int .i64 (h 0), .int .i64 (h 1), .int .i64 (h 2), .int .i64 (h 3), .int .i64 (h 4), .int .i64 (h 5), .int .i64 (h 6), .int .i64 (h 7), .int .i64 (h 8), .int .i64 (h 9), .int .i64 (h 10), .int .i64 (h 11), .int .i64 (h 12)] 12).run Tryz.prog w = .ok (.int .i64 (h 12)) w := fun w => by kernel_rfl
 rw [show (10000 : Nat) = 9998 + 2 from rfl]
 rw [Op.equalIn]
 simp only [Sem.run_bind, run_underlying hu, Result.andThen_ok, hs, Std.Legacy.Range.forIn_eq_forIn_range', Std.Legacy.Range.size]
 simp [List.range', pf0, pf1, pf2, pf3, pf4, pf5, pf6, pf7, pf8, pf9, pf10, pf11, pf12, ph0, ph1, ph2, ph3, ph4, ph5, ph6, ph7, ph8, ph9, ph10, ph11, ph12, run_equalIn_int _ 9998 3 .i64 .i64 _ _ hi]
 unfold eq13
 by_cases e0 : f 0 = h 0
 rotate_left
 ·simp [e0]
 by_cases e1 : f 1 = h 1
 rotate_left
 ·simp [e0, e1]
 by_cases e2 : f 2 = h 2
 rotate_left
 ·simp [e0, e1, e2]
 by_cases e3 : f 3 = h 3
 rotate_left
 ·simp [e0, e1, e2, e3]
 by_cases e4 : f 4 = h 4
 rotate_left
 ·simp [e0, e1, e2, e3, e4]
 by_cases e5 : f 5 = h 5
 rotate_left
 ·simp [e0, e1, e2, e3, e4, e5]
 by_cases e6 : f 6 = h 6
 rotate_left
 ·simp [e0, e1, e2, e3, e4, e5, e6]
 by_cases e7 : f 7 = h 7
 rotate_left
 ·simp [e0, e1, e2, e3, e4, e5, e6, e7]
 by_cases e8 : f 8 = h 8
 rotate_left
 ·simp [e0, e1, e2, e3, e4, e5, e6, e7, e8]
 by_cases e9 : f 9 = h 9
 rotate_left
 ·simp [e0, e1, e2, e3, e4, e5, e6, e7, e8, e9]
 by_cases e10 : f 10 = h 10
 rotate_left
 ·simp [e0, e1, e2, e3, e4, e5, e6, e7, e8, e9, e10]
 by_cases e11 : f 11 = h 11
 rotate_left
 ·simp [e0, e1, e2, e3, e4, e5, e6, e7, e8, e9, e10, e11]
 by_cases e12 : f 12 = h 12
 rotate_left
 ·simp [e0, e1, e2, e3, e4, e5, e6, e7, e8, e9, e10, e11, e12]
 simp [e0, e1, e2, e3, e4, e5, e6, e7, e8, e9, e10, e11, e12]
/-- The same. -/
def inEB (x y : IntentV) : Bool := x.token == y.token && (x.version == y.version && (x.zone == y.zone && (x.warm == y.warm)))
theorem inEB_iff {x y : IntentV} : inEB x y = true ↔ x = y := by
 cases x; cases y
 simp [inEB]
set_option maxHeartbeats 4000000 in
theorem neqinE_run (x y : IntentV) (w : World) : (binOp .neq 96 (.agg #[.int .i64 x.token, .int .i64 x.version, .int .i64 x.zone, .bool x.warm]) (.agg #[.int .i64 y.token, .int .i64 y.version, .int .i64 y.zone, .bool y.warm])).run Tryz.prog w = .ok (.bool (!inEB x y)) w := by
 simp [go_sem]
 by_cases h0 : x.token = y.token
 rotate_left
 ·simp [inEB, h0]
 by_cases h1 : x.version = y.version
 rotate_left
 ·simp [inEB, h0, h1]
 by_cases h2 : x.zone = y.zone
 rotate_left
 ·simp [inEB, h0, h1, h2]
 by_cases h3 : x.warm = y.warm
 rotate_left
 ·simp [inEB, h0, h1, h2, h3]
 simp [inEB, h0, h1, h2, h3]
/-- The same. -/
def kpEB (x y : KeptV) : Bool := x.id == y.id && (x.token == y.token && (x.version == y.version && (x.zone == y.zone && (x.phase == y.phase && (x.since == y.since && (x.guarded == y.guarded && (x.complete == y.complete)))))))
theorem kpEB_iff {x y : KeptV} : kpEB x y = true ↔ x = y := by
 cases x; cases y
 simp [kpEB]
set_option maxHeartbeats 4000000 in
theorem neqkpE_run (x y : KeptV) (w : World) : (binOp .neq 63 (.agg #[.int .i64 x.id, .int .i64 x.token, .int .i64 x.version, .int .i64 x.zone, .int .u8 x.phase, .int .i64 x.since, .bool x.guarded, .bool x.complete]) (.agg #[.int .i64 y.id, .int .i64 y.token, .int .i64 y.version, .int .i64 y.zone, .int .u8 y.phase, .int .i64 y.since, .bool y.guarded, .bool y.complete])).run Tryz.prog w = .ok (.bool (!kpEB x y)) w := by
 simp [go_sem]
 by_cases h0 : x.id = y.id
 rotate_left
 ·simp [kpEB, h0]
 by_cases h1 : x.token = y.token
 rotate_left
 ·simp [kpEB, h0, h1]
 by_cases h2 : x.version = y.version
 rotate_left
 ·simp [kpEB, h0, h1, h2]
 by_cases h3 : x.zone = y.zone
 rotate_left
 ·simp [kpEB, h0, h1, h2, h3]
 by_cases h4 : x.phase = y.phase
 rotate_left
 ·simp [kpEB, h0, h1, h2, h3, h4]
 by_cases h5 : x.since = y.since
 rotate_left
 ·simp [kpEB, h0, h1, h2, h3, h4, h5]
 by_cases h6 : x.guarded = y.guarded
 rotate_left
 ·simp [kpEB, h0, h1, h2, h3, h4, h5, h6]
 by_cases h7 : x.complete = y.complete
 rotate_left
 ·simp [kpEB, h0, h1, h2, h3, h4, h5, h6, h7]
 simp [kpEB, h0, h1, h2, h3, h4, h5, h6, h7]
/-- A refresh. -/
structure RefV where
 state : Int
 rfrom : Int
 target : Int
 step : Int
 paused : Bool
 since : Int
 fails : Int
/-- The same. -/
def rfEB (x y : RefV) : Bool := x.state == y.state && (x.rfrom == y.rfrom && (x.target == y.target && (x.step == y.step && (x.paused == y.paused && (x.since == y.since && (x.fails == y.fails))))))
theorem rfEB_iff {x y : RefV} : rfEB x y = true ↔ x = y := by
 cases x; cases y
 simp [rfEB]
set_option maxHeartbeats 4000000 in
theorem neqrfE_run (x y : RefV) (w : World) : (binOp .neq 28 (.agg #[.int .u8 x.state, .int .i64 x.rfrom, .int .i64 x.target, .int .i64 x.step, .bool x.paused, .int .i64 x.since, .int .i64 x.fails]) (.agg #[.int .u8 y.state, .int .i64 y.rfrom, .int .i64 y.target, .int .i64 y.step, .bool y.paused, .int .i64 y.since, .int .i64 y.fails])).run Tryz.prog w = .ok (.bool (!rfEB x y)) w := by
 simp [go_sem]
 by_cases h0 : x.state = y.state
 rotate_left
 ·simp [rfEB, h0]
 by_cases h1 : x.rfrom = y.rfrom
 rotate_left
 ·simp [rfEB, h0, h1]
 by_cases h2 : x.target = y.target
 rotate_left
 ·simp [rfEB, h0, h1, h2]
 by_cases h3 : x.step = y.step
 rotate_left
 ·simp [rfEB, h0, h1, h2, h3]
 by_cases h4 : x.paused = y.paused
 rotate_left
 ·simp [rfEB, h0, h1, h2, h3, h4]
 by_cases h5 : x.since = y.since
 rotate_left
 ·simp [rfEB, h0, h1, h2, h3, h4, h5]
 by_cases h6 : x.fails = y.fails
 rotate_left
 ·simp [rfEB, h0, h1, h2, h3, h4, h5, h6]
 simp [rfEB, h0, h1, h2, h3, h4, h5, h6]
set_option maxHeartbeats 4000000 in
theorem eqlrfE_run (x y : RefV) (w : World) : (binOp .eql 28 (.agg #[.int .u8 x.state, .int .i64 x.rfrom, .int .i64 x.target, .int .i64 x.step, .bool x.paused, .int .i64 x.since, .int .i64 x.fails]) (.agg #[.int .u8 y.state, .int .i64 y.rfrom, .int .i64 y.target, .int .i64 y.step, .bool y.paused, .int .i64 y.since, .int .i64 y.fails])).run Tryz.prog w = .ok (.bool (rfEB x y)) w := by
 simp [go_sem]
 by_cases h0 : x.state = y.state
 rotate_left
 ·simp [rfEB, h0]
 by_cases h1 : x.rfrom = y.rfrom
 rotate_left
 ·simp [rfEB, h0, h1]
 by_cases h2 : x.target = y.target
 rotate_left
 ·simp [rfEB, h0, h1, h2]
 by_cases h3 : x.step = y.step
 rotate_left
 ·simp [rfEB, h0, h1, h2, h3]
 by_cases h4 : x.paused = y.paused
 rotate_left
 ·simp [rfEB, h0, h1, h2, h3, h4]
 by_cases h5 : x.since = y.since
 rotate_left
 ·simp [rfEB, h0, h1, h2, h3, h4, h5]
 by_cases h6 : x.fails = y.fails
 rotate_left
 ·simp [rfEB, h0, h1, h2, h3, h4, h5, h6]
 simp [rfEB, h0, h1, h2, h3, h4, h5, h6]
instance : DecidableEq IntentV := fun a b => decidable_of_iff (inEB a b = true) inEB_iff
instance : DecidableEq KeptV := fun a b => decidable_of_iff (kpEB a b = true) kpEB_iff
def refOf (B : BrainV) : RefV := ⟨B.f 20, B.f 21, B.f 22, B.f 23, B.g 24, B.f 25, B.f 26⟩
end Go.Proofs.YthhgpiolcnojfaaGreatDoor

/- herdref07.Same, herdref13.Same: exact. Printed by gn_smx.py. -/
namespace Go.Proofs.YthhgpiolcnojfaaGreatDoor
open Go.RowKit Go.Shelf
attribute [-go_sem] loadVar run_equalIn_agg
attribute [local go_sem] load_other2

/-- Two groups are the same. -/
def sameC (f : Nat → Int) (g : Bool) (M : List Int) (f' : Nat → Int) (g' : Bool) (M' : List Int) : Bool := decide (M = M') && (g == g' && eq13 f f')
theorem take_ne {α : Type} {l m : List α} {k : Nat} {x y : α} (hx : l[k]? = some x) (hy : m[k]? = some y) (h : x ≠ y) : l ≠ m := by
 rintro rfl
 rw [hx] at hy
 exact h (Option.some.inj hy)
set_option maxRecDepth 100000 in
set_option maxHeartbeats 1000000 in
theorem same07_any (f f' : Nat → Int) (g g' : Bool) (m1 m2 : Value) (M M' : List Int) (w : World) (h1 : RowOf 1 encI w m1 M) (h2 : RowOf 1 encI w m2 M') :
  Calls Tryz.prog 51 #[.agg (confA f g m1), .agg (confA f' g' m2)] w fun e w' => e = .returned (.bool (sameC f g M f' g' M')) ∧ Below w.heap.size w w' := by
 obtain ⟨a1, c1, rfl, p1, p2, p3, hop1⟩ := h1.open
 obtain ⟨a2, c2, rfl, q1, q2, q3, hop2⟩ := h2.open
 obtain ⟨n', hn'⟩ : ∃ n', M'.length = n' := ⟨_, rfl⟩
 rw [hn'] at q1 q3 hop2 ⊢
 obtain ⟨W1, hW1⟩ : ∃ W1, W1 = (w.alloc (.cells (confA f g (.slice a1 M.length c1)) 24)).alloc (.cells (confA f' g' (.slice a2 n' c2)) 24) := ⟨_, rfl⟩
 have hb1 : Below w.heap.size w W1 := by rw [hW1]; exact ((Below.refl _ _).alloc (Nat.le_refl _) _).alloc (by simp) _
 have n1 : W1.heap[w.heap.size]? = some (.cells (confA f g (.slice a1 M.length c1)) 24) := by rw [hW1]; exact blk_alloc (heap_new _ _) _
 have n2 : W1.heap[w.heap.size + 1]? = some (.cells (confA f' g' (.slice a2 n' c2)) 24) := by rw [hW1]; exact heap_new2 _ _ _
 have hz : W1.heap.size = w.heap.size + 2 := by rw [hW1]; simp
 have HW1 := hid hW1
 have N1 := hid n1
 have N2 := hid n2
 have HB1 := hid hb1
 have HO1 := hid hop1
 have HO2 := hid hop2
 have x14 : W1.cell? ⟨w.heap.size, 14, none⟩ = some (.slice a1 M.length c1) := blk_cell n1 14
 have y14 : W1.cell? ⟨w.heap.size + 1, 14, none⟩ = some (.slice a2 n' c2) := blk_cell n2 14
 have x13 : W1.cell? ⟨w.heap.size, 13, none⟩ = some (.bool g) := blk_cell n1 13
 have y13 : W1.cell? ⟨w.heap.size + 1, 13, none⟩ = some (.bool g') := blk_cell n2 13
 have hl1 : w.heap.size < W1.heap.size := by omega
 have hl2 : w.heap.size + 1 < W1.heap.size := by omega
 obtain ⟨r, hr⟩ : ∃ r, sameC f g M f' g' M' = r := ⟨_, rfl⟩
 rw [hr]
 have HR := hid hr
 have HN := hid hn'
 clear h1 h2 hop1 hop2 n1 n2 hb1 hr hn'
 rw [hW1] at x13 x14 y13 y14 hl1 hl2
 by_cases hn : M.length = n'
 rotate_left
 ·have hMM : ((M.length : Int) != (n' : Int)) = true := by simp; omega
  obtain rfl : r = false := by rw [← HR.out]; unfold sameC; rw [decide_eq_false (fun e => hn (by rw [e]; exact HN.out))]; rfl
  clear hn
  go_enter Tryz.func51, Tryz.ntmps51
  go_wp2
  go_ret
  rw [← HW1.out]
  exact ⟨rfl, HB1.out⟩
 subst hn
 have hMM : ((M.length : Int) != (M.length : Int)) = false := by simp
 by_cases hgg : g = g'
 rotate_left
 ·obtain rfl : r = false := by rw [← HR.out]; unfold sameC; rw [show (g == g') = false by simpa using hgg]; simp
  obtain rfl : g' = !g := by cases g <;> cases g' <;> simp_all
  clear hgg
  go_enter Tryz.func51, Tryz.ntmps51
  go_wp2
  go_ret
  rw [← HW1.out]
  exact ⟨rfl, HB1.out⟩
 subst hgg
 go_enter Tryz.func51, Tryz.ntmps51
 go_wp2
 rw [← HW1.out]
 rw [← HW1.out] at x13 x14 y13 y14 hl1 hl2
 clear x13 y13
 go_loopw [5] (fun i wr => ∃ k : Nat, k ≤ M.length ∧ i = .int .i64 k ∧ M.take k = M'.take k ∧ Below W1.heap.size W1 wr) (fun i _ => M.length - (intOf i).toNat)
 case atStart => exact ⟨0, Nat.zero_le _, rfl, rfl, Below.refl _ _⟩
 case round =>
  obtain ⟨k, hk, rfl, htk, hB⟩ := hrel
  have HT := hid htk
  have HB := hid hB
  have hbw := HB1.out.trans (hB.mono HB1.out.size)
  have z14 := cell_below x14 hB
  have v14 := cell_below y14 hB
  have hlr1 : w.heap.size < wr.heap.size := Nat.lt_of_lt_of_le hl1 hB.size
  have hlr2 : w.heap.size + 1 < wr.heap.size := Nat.lt_of_lt_of_le hl2 hB.size
  clear htk
  by_cases hlt : k < M.length
  ·obtain ⟨b1, o1, rfl, hb1, hr1⟩ := HO1.out (by omega)
   obtain ⟨b2, o2, rfl, hb2, hr2⟩ := HO2.out (by omega)
   obtain ⟨x, hx⟩ := get_lt hlt
   obtain ⟨y, hy⟩ := get_lt (show k < M'.length by have := HN.out; omega)
   have g1 := rowN1 (hr1.below hbw hb1) hx
   have g2 := rowN1 (hr2.below hbw hb2) hy
   have hkL : (k : Int) < (M.length : Int) := by omega
   have hb1w : b1 < wr.heap.size := Nat.lt_of_lt_of_le hb1 hbw.size
   have hb2w : b2 < wr.heap.size := Nat.lt_of_lt_of_le hb2 hbw.size
   have HX := hid hx
   have HY := hid hy
   have HBW := hid hbw
   by_cases hxy : x = y
   ·have hxx : (x != y) = false := by simpa using hxy
    have HXY := hid hxy
    clear hx hy hr1 hr2 hB hbw x14 y14 hxy
    go_wp2
    go_quiet (fail)
    go_wp2
    go_roundw
    case rel => exact ⟨k + 1, by omega, by go_num, by rw [take_snoc M k x HX.out, take_snoc M' k y HY.out, HT.out, HXY.out], below_drewN HB.out _⟩
    case measure => simp [intOf]; omega
   ·have hxx : (x != y) = true := by simpa using hxy
    obtain rfl : r = false := by rw [← HR.out]; unfold sameC; rw [decide_eq_false (take_ne hx hy hxy)]; rfl
    clear hx hy hr1 hr2 hB hbw x14 y14 hxy
    go_wp2
    go_quiet (fail)
    go_wp2
    go_ret
    exact ⟨rfl, below_drewN HBW.out _⟩
  ·obtain rfl : k = M.length := by omega
   have HEQ := hid (show M = M' by have := HT.out; rwa [List.take_length, ← HN.out, List.take_length] at this)
   have D1 := hid (blk_below N1.out hB (blk_lt N1.out))
   have D2 := hid (blk_below N2.out hB (blk_lt N2.out))
   have k0 : wr.cell? ⟨w.heap.size, 0, none⟩ = some (.int .i64 (f 0)) := blk_cell D1.out 0
   have l0 : wr.cell? ⟨w.heap.size + 1, 0, none⟩ = some (.int .i64 (f' 0)) := blk_cell D2.out 0
   have k1 : wr.cell? ⟨w.heap.size, 1, none⟩ = some (.int .i64 (f 1)) := blk_cell D1.out 1
   have l1 : wr.cell? ⟨w.heap.size + 1, 1, none⟩ = some (.int .i64 (f' 1)) := blk_cell D2.out 1
   have k2 : wr.cell? ⟨w.heap.size, 2, none⟩ = some (.int .i64 (f 2)) := blk_cell D1.out 2
   have l2 : wr.cell? ⟨w.heap.size + 1, 2, none⟩ = some (.int .i64 (f' 2)) := blk_cell D2.out 2
   have k3 : wr.cell? ⟨w.heap.size, 3, none⟩ = some (.int .i64 (f 3)) := blk_cell D1.out 3
   have l3 : wr.cell? ⟨w.heap.size + 1, 3, none⟩ = some (.int .i64 (f' 3)) := blk_cell D2.out 3
   have k4 : wr.cell? ⟨w.heap.size, 4, none⟩ = some (.int .i64 (f 4)) := blk_cell D1.out 4
   have l4 : wr.cell? ⟨w.heap.size + 1, 4, none⟩ = some (.int .i64 (f' 4)) := blk_cell D2.out 4
   have k5 : wr.cell? ⟨w.heap.size, 5, none⟩ = some (.int .i64 (f 5)) := blk_cell D1.out 5
   have l5 : wr.cell? ⟨w.heap.size + 1, 5, none⟩ = some (.int .i64 (f' 5)) := blk_cell D2.out 5
   have k6 : wr.cell? ⟨w.heap.size, 6, none⟩ = some (.int .i64 (f 6)) := blk_cell D1.out 6
   have l6 : wr.cell? ⟨w.heap.size + 1, 6, none⟩ = some (.int .i64 (f' 6)) := blk_cell D2.out 6
   have k7 : wr.cell? ⟨w.heap.size, 7, none⟩ = some (.int .i64 (f 7)) := blk_cell D1.out 7
   have l7 : wr.cell? ⟨w.heap.size + 1, 7, none⟩ = some (.int .i64 (f' 7)) := blk_cell D2.out 7
   have k8 : wr.cell? ⟨w.heap.size, 8, none⟩ = some (.int .i64 (f 8)) := blk_cell D1.out 8
   have l8 : wr.cell? ⟨w.heap.size + 1, 8, none⟩ = some (.int .i64 (f' 8)) := blk_cell D2.out 8
   have k9 : wr.cell? ⟨w.heap.size, 9, none⟩ = some (.int .i64 (f 9)) := blk_cell D1.out 9
   have l9 : wr.cell? ⟨w.heap.size + 1, 9, none⟩ = some (.int .i64 (f' 9)) := blk_cell D2.out 9
   have k10 : wr.cell? ⟨w.heap.size, 10, none⟩ = some (.int .i64 (f 10)) := blk_cell D1.out 10
   have l10 : wr.cell? ⟨w.heap.size + 1, 10, none⟩ = some (.int .i64 (f' 10)) := blk_cell D2.out 10
   have k11 : wr.cell? ⟨w.heap.size, 11, none⟩ = some (.int .i64 (f 11)) := blk_cell D1.out 11
   have l11 : wr.cell? ⟨w.heap.size + 1, 11, none⟩ = some (.int .i64 (f' 11)) := blk_cell D2.out 11
   have k12 : wr.cell? ⟨w.heap.size, 12, none⟩ = some (.int .i64 (f 12)) := blk_cell D1.out 12
   have l12 : wr.cell? ⟨w.heap.size + 1, 12, none⟩ = some (.int .i64 (f' 12)) := blk_cell D2.out 12
   have heq := arr13_any f f'
   obtain ⟨q, hq⟩ : ∃ q, eq13 f f' = q := ⟨_, rfl⟩
   rw [hq] at heq
   obtain rfl : q = r := by rw [← HR.out, ← hq]; unfold sameC; rw [decide_eq_true HEQ.out, show (g == g) = true by simp]; rfl
   have HBW := hid hbw
   clear hB hbw x14 y14 hq
   go_wp2
   go_ret
   exact ⟨rfl, (HBW.out.alloc HBW.out.size _).alloc (by have := HBW.out.size; simp; omega) _⟩
theorem same07_at (f f' : Nat → Int) (g g' : Bool) (m1 m2 : Value) (M M' : List Int) (b : Bool) (hb : sameC f g M f' g' M' = b) (w : World) (h1 : RowOf 1 encI w m1 M) (h2 : RowOf 1 encI w m2 M') :
  Calls Tryz.prog 51 #[.agg (confA f g m1), .agg (confA f' g' m2)] w fun e w' => e = .returned (.bool b) ∧ Below w.heap.size w w' := by
 rw [← hb]; exact same07_any f f' g g' m1 m2 M M' w h1 h2

/-- Two brains are the same. -/
def sameB (A B : BrainV) : Bool := A.f 0 == B.f 0 && (A.f 1 == B.f 1 && (A.g 2 == B.g 2 && (sameC (fun i => A.f (i + 3)) (A.g 16) A.M (fun i => B.f (i + 3)) (B.g 16) B.M && (rfEB (refOf A) (refOf B) && (decide (A.I = B.I) && decide (A.K = B.K))))))
end Go.Proofs.YthhgpiolcnojfaaGreatDoor

/- herdref13.Same: exact. Printed by gn_sme.py. -/
namespace Go.Proofs.YthhgpiolcnojfaaGreatDoor
open Go.RowKit Go.Shelf
attribute [-go_sem] loadVar run_equalIn_agg
attribute [local go_sem] load_other2

theorem sameB_iff_parts {A B : BrainV} : sameB A B = true ↔ A.f 0 = B.f 0 ∧ A.f 1 = B.f 1 ∧ A.g 2 = B.g 2 ∧ sameC (fun i => A.f (i + 3)) (A.g 16) A.M (fun i => B.f (i + 3)) (B.g 16) B.M = true ∧ refOf A = refOf B ∧ A.I = B.I ∧ A.K = B.K := by
 unfold sameB
 simp only [Bool.and_eq_true, beq_iff_eq, decide_eq_true_eq, rfEB_iff]
theorem sameB_no {A B : BrainV} {r : Bool} (hr : sameB A B = r) (h : ¬ (A.f 0 = B.f 0 ∧ A.f 1 = B.f 1 ∧ A.g 2 = B.g 2 ∧ sameC (fun i => A.f (i + 3)) (A.g 16) A.M (fun i => B.f (i + 3)) (B.g 16) B.M = true ∧ refOf A = refOf B ∧ A.I = B.I ∧ A.K = B.K)) : r = false := by
 rw [← hr, Bool.eq_false_iff]
 intro e
 exact h (sameB_iff_parts.1 e)
set_option maxRecDepth 100000 in
set_option maxHeartbeats 2000000 in
theorem rsame13_any (A B : BrainV) (m1 i1 k1 m2 i2 k2 : Value) (w : World) (hm1 : RowOf 1 encI w m1 A.M) (hi1 : RowOf 4 encIn w i1 A.I) (hk1 : RowOf 8 encKp w k1 A.K) (hm2 : RowOf 1 encI w m2 B.M) (hi2 : RowOf 4 encIn w i2 B.I) (hk2 : RowOf 8 encKp w k2 B.K) :
  Calls Tryz.prog 22 #[.agg (brT A.f A.g m1 i1 k1), .agg (brT B.f B.g m2 i2 k2)] w fun e w' => e = .returned (.bool (sameB A B)) ∧ Below w.heap.size w w' := by
 obtain ⟨ia, ic, rfl, ip1, ip2, ip3, hio1⟩ := hi1.open
 obtain ⟨ja, jc, rfl, jp1, jp2, jp3, hio2⟩ := hi2.open
 obtain ⟨ka, kc, rfl, kp1, kp2, kp3, hko1⟩ := hk1.open
 obtain ⟨la, lc, rfl, lp1, lp2, lp3, hko2⟩ := hk2.open
 obtain ⟨ni, hni⟩ : ∃ n, B.I.length = n := ⟨_, rfl⟩
 obtain ⟨nk, hnk⟩ : ∃ n, B.K.length = n := ⟨_, rfl⟩
 rw [hni] at jp1 jp3 hio2 ⊢
 rw [hnk] at lp1 lp3 hko2 ⊢
 obtain ⟨W1, hW1⟩ : ∃ W1, W1 = (w.alloc (.cells (brT A.f A.g m1 (.slice ia A.I.length ic) (.slice ka A.K.length kc)) 30)).alloc (.cells (brT B.f B.g m2 (.slice ja ni jc) (.slice la nk lc)) 30) := ⟨_, rfl⟩
 have hb1 : Below w.heap.size w W1 := by rw [hW1]; exact ((Below.refl _ _).alloc (Nat.le_refl _) _).alloc (by simp) _
 have n1 : BB W1 w.heap.size (brT A.f A.g m1 (.slice ia A.I.length ic) (.slice ka A.K.length kc)) := by rw [hW1]; exact blk_alloc (heap_new _ _) _
 have n2 : BB W1 (w.heap.size + 1) (brT B.f B.g m2 (.slice ja ni jc) (.slice la nk lc)) := by rw [hW1]; exact heap_new2 _ _ _
 have hz : W1.heap.size = w.heap.size + 2 := by rw [hW1]; simp
 obtain ⟨r, hr⟩ : ∃ r, sameB A B = r := ⟨_, rfl⟩
 rw [hr]
 have HR := hid hr
 obtain ⟨a0, ha0⟩ : ∃ a, A.f 0 = a := ⟨_, rfl⟩
 obtain ⟨b0, hb0⟩ : ∃ a, B.f 0 = a := ⟨_, rfl⟩
 obtain ⟨a1, ha1⟩ : ∃ a, A.f 1 = a := ⟨_, rfl⟩
 obtain ⟨b1, hbb1⟩ : ∃ a, B.f 1 = a := ⟨_, rfl⟩
 obtain ⟨ga, hga⟩ : ∃ a, A.g 2 = a := ⟨_, rfl⟩
 obtain ⟨gb, hgb⟩ : ∃ a, B.g 2 = a := ⟨_, rfl⟩
 have HW1 := hid hW1
 have N1 := hid n1
 have N2 := hid n2
 have HB1 := hid hb1
 have HIO1 := hid hio1
 have HIO2 := hid hio2
 have HKO1 := hid hko1
 have HKO2 := hid hko2
 have HA0 := hid ha0
 have HB0 := hid hb0
 have HA1 := hid ha1
 have HBB1 := hid hbb1
 have HGA := hid hga
 have HGB := hid hgb
 have HNI := hid hni
 have HNK := hid hnk
 have HM1 := hid (hm1.below hb1)
 have HM2 := hid (hm2.below hb1)
 have hl1 : w.heap.size < W1.heap.size := by omega
 have hl2 : w.heap.size + 1 < W1.heap.size := by omega
 have x0 : W1.cell? ⟨w.heap.size, 0, none⟩ = some (.int .i64 a0) := by rw [← ha0]; exact blk_cell n1 0
 have x1 : W1.cell? ⟨w.heap.size, 1, none⟩ = some (.int .i64 a1) := by rw [← ha1]; exact blk_cell n1 1
 have x2 : W1.cell? ⟨w.heap.size, 2, none⟩ = some (.bool ga) := by rw [← hga]; exact blk_cell n1 2
 have y0 : W1.cell? ⟨w.heap.size + 1, 0, none⟩ = some (.int .i64 b0) := by rw [← hb0]; exact blk_cell n2 0
 have y1 : W1.cell? ⟨w.heap.size + 1, 1, none⟩ = some (.int .i64 b1) := by rw [← hbb1]; exact blk_cell n2 1
 have y2 : W1.cell? ⟨w.heap.size + 1, 2, none⟩ = some (.bool gb) := by rw [← hgb]; exact blk_cell n2 2
 have lm1 := load_mid n1
 have lm2 := load_mid n2
 rw [hW1] at x0 x1 x2 y0 y1 y2 hl1 hl2 lm1 lm2
 clear hm1 hi1 hk1 hm2 hi2 hk2 hio1 hio2 hko1 hko2 n1 n2 hb1 hr ha0 hb0 ha1 hbb1 hga hgb hni hnk hW1
 by_cases h0 : a0 = b0
 rotate_left
 ·have q0 : (a0 != b0) = true := by simpa using h0
  obtain rfl : r = false := sameB_no HR.out (fun e => h0 (by rw [← HA0.out, ← HB0.out]; exact e.1))
  clear h0
  go_enter Tryz.func22, Tryz.ntmps22
  go_wp2
  go_ret
  rw [← HW1.out]
  exact ⟨rfl, HB1.out⟩
 subst h0
 by_cases h0 : a1 = b1
 rotate_left
 ·have q0 : (a1 != b1) = true := by simpa using h0
  obtain rfl : r = false := sameB_no HR.out (fun e => h0 (by rw [← HA1.out, ← HBB1.out]; exact e.2.1))
  clear h0
  go_enter Tryz.func22, Tryz.ntmps22
  go_wp2
  go_ret
  rw [← HW1.out]
  exact ⟨rfl, HB1.out⟩
 subst h0
 by_cases h0 : ga = gb
 rotate_left
 ·obtain rfl : r = false := sameB_no HR.out (fun e => h0 (by rw [← HGA.out, ← HGB.out]; exact e.2.2.1))
  obtain rfl : gb = !ga := by cases ga <;> cases gb <;> simp_all
  clear h0
  go_enter Tryz.func22, Tryz.ntmps22
  go_wp2
  go_ret
  rw [← HW1.out]
  exact ⟨rfl, HB1.out⟩
 subst h0
 obtain ⟨s, hs⟩ : ∃ s, sameC (fun i => A.f (i + 3)) (A.g 16) A.M (fun i => B.f (i + 3)) (B.g 16) B.M = s := ⟨_, rfl⟩
 have HS := hid hs
 have HC := hid (same07_at _ _ _ _ _ _ _ _ s hs W1 HM1.out HM2.out)
 clear hs
 go_enter Tryz.func22, Tryz.ntmps22
 go_wp2_with fail
 rw [← HW1.out]
 refine HC.out.mono ?_
 rintro e V ⟨rfl, hb⟩
 have HBV := hid (HB1.out.trans (hb.mono HB1.out.size))
 have D1 := hid (N1.out.below hb (blk_lt N1.out))
 have D2 := hid (N2.out.below hb (blk_lt N2.out))
 have l1 := blk_lt D1.out
 have l2 := blk_lt D2.out
 clear hb x0 x1 x2 y0 y1 y2 lm1 lm2 hl1 hl2
 cases s with
 | false =>
  obtain rfl : r = false := sameB_no HR.out (fun e => by have := e.2.2.2.1; rw [HS.out] at this; cases this)
  go_wp2
  go_ret
  exact ⟨rfl, HBV.out⟩
 | true =>
  have x20 : V.cell? ⟨w.heap.size, 20, none⟩ = some (.int .u8 (A.f 20)) := blk_cell D1.out 20
  have x21 : V.cell? ⟨w.heap.size, 21, none⟩ = some (.int .i64 (A.f 21)) := blk_cell D1.out 21
  have x22 : V.cell? ⟨w.heap.size, 22, none⟩ = some (.int .i64 (A.f 22)) := blk_cell D1.out 22
  have x23 : V.cell? ⟨w.heap.size, 23, none⟩ = some (.int .i64 (A.f 23)) := blk_cell D1.out 23
  have x24 : V.cell? ⟨w.heap.size, 24, none⟩ = some (.bool (A.g 24)) := blk_cell D1.out 24
  have x25 : V.cell? ⟨w.heap.size, 25, none⟩ = some (.int .i64 (A.f 25)) := blk_cell D1.out 25
  have x26 : V.cell? ⟨w.heap.size, 26, none⟩ = some (.int .i64 (A.f 26)) := blk_cell D1.out 26
  have y20 : V.cell? ⟨w.heap.size + 1, 20, none⟩ = some (.int .u8 (B.f 20)) := blk_cell D2.out 20
  have y21 : V.cell? ⟨w.heap.size + 1, 21, none⟩ = some (.int .i64 (B.f 21)) := blk_cell D2.out 21
  have y22 : V.cell? ⟨w.heap.size + 1, 22, none⟩ = some (.int .i64 (B.f 22)) := blk_cell D2.out 22
  have y23 : V.cell? ⟨w.heap.size + 1, 23, none⟩ = some (.int .i64 (B.f 23)) := blk_cell D2.out 23
  have y24 : V.cell? ⟨w.heap.size + 1, 24, none⟩ = some (.bool (B.g 24)) := blk_cell D2.out 24
  have y25 : V.cell? ⟨w.heap.size + 1, 25, none⟩ = some (.int .i64 (B.f 25)) := blk_cell D2.out 25
  have y26 : V.cell? ⟨w.heap.size + 1, 26, none⟩ = some (.int .i64 (B.f 26)) := blk_cell D2.out 26
  have x18 : V.cell? ⟨w.heap.size, 18, none⟩ = some (.slice ia A.I.length ic) := blk_cell D1.out 18
  have x19 : V.cell? ⟨w.heap.size, 19, none⟩ = some (.slice ka A.K.length kc) := blk_cell D1.out 19
  have y18 : V.cell? ⟨w.heap.size + 1, 18, none⟩ = some (.slice ja ni jc) := blk_cell D2.out 18
  have y19 : V.cell? ⟨w.heap.size + 1, 19, none⟩ = some (.slice la nk lc) := blk_cell D2.out 19
  have hne := neqrfE_run ⟨A.f 20, A.f 21, A.f 22, A.f 23, A.g 24, A.f 25, A.f 26⟩ ⟨B.f 20, B.f 21, B.f 22, B.f 23, B.g 24, B.f 25, B.f 26⟩
  dsimp only at hne
  by_cases h0 : refOf A = refOf B
  rotate_left
  ·rw [show rfEB ⟨A.f 20, A.f 21, A.f 22, A.f 23, A.g 24, A.f 25, A.f 26⟩ ⟨B.f 20, B.f 21, B.f 22, B.f 23, B.g 24, B.f 25, B.f 26⟩ = false by rw [Bool.eq_false_iff]; intro e; exact h0 (rfEB_iff.1 e)] at hne
   obtain rfl : r = false := sameB_no HR.out (fun e => h0 e.2.2.2.2.1)
   clear h0
   go_wp2
   go_ret
   exact ⟨rfl, HBV.out⟩
  rw [show rfEB ⟨A.f 20, A.f 21, A.f 22, A.f 23, A.g 24, A.f 25, A.f 26⟩ ⟨B.f 20, B.f 21, B.f 22, B.f 23, B.g 24, B.f 25, B.f 26⟩ = true from rfEB_iff.2 h0] at hne
  have HRF := hid h0
  clear h0
  by_cases h0 : A.I.length = ni
  rotate_left
  ·have q0 : ((A.I.length : Int) != (ni : Int)) = true := by simp; omega
   obtain rfl : r = false := sameB_no HR.out (fun e => h0 (by rw [e.2.2.2.2.2.1]; exact HNI.out))
   clear h0
   go_wp2
   go_ret
   exact ⟨rfl, HBV.out⟩
  subst h0
  by_cases h0 : A.K.length = nk
  rotate_left
  ·have q0 : ((A.K.length : Int) != (nk : Int)) = true := by simp; omega
   obtain rfl : r = false := sameB_no HR.out (fun e => h0 (by rw [e.2.2.2.2.2.2]; exact HNK.out))
   clear h0
   go_wp2
   go_ret
   exact ⟨rfl, HBV.out⟩
  subst h0
  go_wp2
  clear hne x20 x21 x22 x23 x24 x25 x26 y20 y21 y22 y23 y24 y25 y26
  go_loopw [5] (fun i wr => ∃ k : Nat, k ≤ A.I.length ∧ i = .int .i64 k ∧ A.I.take k = B.I.take k ∧ Below V.heap.size V wr) (fun i _ => A.I.length - (intOf i).toNat)
  case atStart => exact ⟨0, Nat.zero_le _, rfl, rfl, Below.refl _ _⟩
  case round =>
   obtain ⟨k, hk, rfl, htk, hB⟩ := hrel
   have HT := hid htk
   have HB := hid hB
   have HBW := hid (HBV.out.trans (hB.mono HBV.out.size))
   have z1 := cell_below x18 hB
   have z2 := cell_below y18 hB
   have lr1 : w.heap.size < wr.heap.size := Nat.lt_of_lt_of_le l1 hB.size
   have lr2 : w.heap.size + 1 < wr.heap.size := Nat.lt_of_lt_of_le l2 hB.size
   clear htk
   by_cases hlt : k < A.I.length
   ·obtain ⟨b1, o1, rfl, hb1, hr1⟩ := HIO1.out (by omega)
    obtain ⟨b2, o2, rfl, hb2, hr2⟩ := HIO2.out (by omega)
    obtain ⟨x, hx⟩ := get_lt hlt
    obtain ⟨y, hy⟩ := get_lt (show k < B.I.length by have := HNI.out; omega)
    obtain ⟨g0, g1, g2, g3⟩ := rowI (hr1.below HBW.out hb1) hx
    obtain ⟨j0, j1, j2, j3⟩ := rowI (hr2.below HBW.out hb2) hy
    have hkL : (k : Int) < (A.I.length : Int) := by omega
    have hb1w : b1 < wr.heap.size := Nat.lt_of_lt_of_le hb1 HBW.out.size
    have hb2w : b2 < wr.heap.size := Nat.lt_of_lt_of_le hb2 HBW.out.size
    have HX := hid hx
    have HY := hid hy
    have hne := neqinE_run x y
    by_cases hxy : x = y
    ·rw [inEB_iff.2 hxy] at hne
     have HXY := hid hxy
     clear hx hy hr1 hr2 hB hxy x18 x19 y18 y19
     go_wp2
     go_quiet (fail)
     go_wp2
     go_roundw
     case rel => exact ⟨k + 1, by omega, by go_num, by rw [take_snoc A.I k x HX.out, take_snoc B.I k y HY.out, HT.out, HXY.out], below_drewN HB.out _⟩
     case measure => simp [intOf]; omega
    ·rw [show inEB x y = false by rw [Bool.eq_false_iff]; intro e; exact hxy (inEB_iff.1 e)] at hne
     obtain rfl : r = false := sameB_no HR.out (fun e => take_ne hx hy hxy e.2.2.2.2.2.1)
     clear hx hy hr1 hr2 hB hxy x18 x19 y18 y19
     go_wp2
     go_quiet (fail)
     go_wp2
     go_ret
     exact ⟨rfl, below_drewN HBW.out _⟩
   ·obtain rfl : k = A.I.length := by omega
    have HEQI := hid (show A.I = B.I by have := HT.out; rwa [List.take_length, ← HNI.out, List.take_length] at this)
    have HB2 := hid (cell_below x19 hB)
    have HB3 := hid (cell_below y19 hB)
    go_wp2
    replace x19 := HB2.out
    replace y19 := HB3.out
    replace l1 := lr1
    replace l2 := lr2
    clear z1 z2 x18 y18 hB
    go_loopw [6] (fun i wq => ∃ k : Nat, k ≤ A.K.length ∧ i = .int .i64 k ∧ A.K.take k = B.K.take k ∧ Below wr.heap.size wr wq) (fun i _ => A.K.length - (intOf i).toNat)
    case atStart => exact ⟨0, Nat.zero_le _, rfl, rfl, Below.refl _ _⟩
    case round =>
     obtain ⟨k, hk, rfl, htk, hB⟩ := hrel
     have HT := hid htk
     have HBq := hid hB
     have HBW2 := hid (HBW.out.trans (hB.mono HBW.out.size))
     have z1 := cell_below x19 hB
     have z2 := cell_below y19 hB
     have lr1 : w.heap.size < wr.heap.size := Nat.lt_of_lt_of_le l1 hB.size
     have lr2 : w.heap.size + 1 < wr.heap.size := Nat.lt_of_lt_of_le l2 hB.size
     clear htk
     by_cases hlt : k < A.K.length
     ·obtain ⟨b1, o1, rfl, hb1, hr1⟩ := HKO1.out (by omega)
      obtain ⟨b2, o2, rfl, hb2, hr2⟩ := HKO2.out (by omega)
      obtain ⟨x, hx⟩ := get_lt hlt
      obtain ⟨y, hy⟩ := get_lt (show k < B.K.length by have := HNK.out; omega)
      obtain ⟨g0, g1, g2, g3, g4, g5, g6, g7⟩ := rowK (hr1.below HBW2.out hb1) hx
      obtain ⟨j0, j1, j2, j3, j4, j5, j6, j7⟩ := rowK (hr2.below HBW2.out hb2) hy
      have hkL : (k : Int) < (A.K.length : Int) := by omega
      have hb1w : b1 < wr.heap.size := Nat.lt_of_lt_of_le hb1 HBW2.out.size
      have hb2w : b2 < wr.heap.size := Nat.lt_of_lt_of_le hb2 HBW2.out.size
      have HX := hid hx
      have HY := hid hy
      have hne := neqkpE_run x y
      by_cases hxy : x = y
      ·rw [kpEB_iff.2 hxy] at hne
       have HXY := hid hxy
       clear hx hy hr1 hr2 hB hxy x19 y19
       go_wp2
       go_quiet (fail)
       go_wp2
       go_roundw
       case rel => exact ⟨k + 1, by omega, by go_num, by rw [take_snoc A.K k x HX.out, take_snoc B.K k y HY.out, HT.out, HXY.out], below_drewN HBq.out _⟩
       case measure => simp [intOf]; omega
      ·rw [show kpEB x y = false by rw [Bool.eq_false_iff]; intro e; exact hxy (kpEB_iff.1 e)] at hne
       obtain rfl : r = false := sameB_no HR.out (fun e => take_ne hx hy hxy e.2.2.2.2.2.2)
       clear hx hy hr1 hr2 hB hxy x19 y19
       go_wp2
       go_quiet (fail)
       go_wp2
       go_ret
       exact ⟨rfl, below_drewN HBW2.out _⟩
     ·obtain rfl : k = A.K.length := by omega
      have HEQK := hid (show A.K = B.K by have := HT.out; rwa [List.take_length, ← HNK.out, List.take_length] at this)
      obtain rfl : r = true := by rw [← HR.out]; exact sameB_iff_parts.2 ⟨by rw [HA0.out, HB0.out], by rw [HA1.out, HBB1.out], by rw [HGA.out, HGB.out], HS.out, HRF.out, HEQI.out, HEQK.out⟩
      go_wp2
      go_ret
      exact ⟨rfl, HBW2.out⟩
theorem rsame13_at (A B : BrainV) (b : Bool) (hb : sameB A B = b) (m1 i1 k1 m2 i2 k2 : Value) (w : World) (hm1 : RowOf 1 encI w m1 A.M) (hi1 : RowOf 4 encIn w i1 A.I) (hk1 : RowOf 8 encKp w k1 A.K) (hm2 : RowOf 1 encI w m2 B.M) (hi2 : RowOf 4 encIn w i2 B.I) (hk2 : RowOf 8 encKp w k2 B.K) :
  Calls Tryz.prog 22 #[.agg (brT A.f A.g m1 i1 k1), .agg (brT B.f B.g m2 i2 k2)] w fun e w' => e = .returned (.bool b) ∧ Below w.heap.size w w' := by
 rw [← hb]; exact rsame13_any A B m1 i1 k1 m2 i2 k2 w hm1 hi1 hk1 hm2 hi2 hk2
end Go.Proofs.YthhgpiolcnojfaaGreatDoor
