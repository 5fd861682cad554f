/- Kepts, Intents, refreshes, a group's numbers: held against each other. Printed by gn_eq3.py. -/
import Derived.Test.YthnigndpibgibaaDoorBz
namespace Go.Proofs.YthnigndpibgibaaDoor
open Go.RowKit Go.Shelf

/-- Thirteen numbers are the same. -/
def eq13 (f h : Nat → Int) : Bool := f 0 == h 0 && (f 1 == h 1 && (f 2 == h 2 && (f 3 == h 3 && (f 4 == h 4 && (f 5 == h 5 && (f 6 == h 6 && (f 7 == h 7 && (f 8 == h 8 && (f 9 == h 9 && (f 10 == h 10 && (f 11 == h 11 && (f 12 == h 12))))))))))))
theorem eq13_iff {f h : Nat → Int} : eq13 f h = true ↔ ∀ i, i < 13 → f i = h i := by
  unfold eq13
  simp only [Bool.and_eq_true, beq_iff_eq]
  constructor
  · rintro ⟨h0, h1, h2, h3, h4, h5, h6, h7, h8, h9, h10, h11, h12⟩ i hi
    match i, hi with
    | 0, _ => exact h0
    | 1, _ => exact h1
    | 2, _ => exact h2
    | 3, _ => exact h3
    | 4, _ => exact h4
    | 5, _ => exact h5
    | 6, _ => exact h6
    | 7, _ => exact h7
    | 8, _ => exact h8
    | 9, _ => exact h9
    | 10, _ => exact h10
    | 11, _ => exact h11
    | 12, _ => exact h12
  · intro k
    exact ⟨k 0 (by decide), k 1 (by decide), k 2 (by decide), k 3 (by decide), k 4 (by decide), k 5 (by decide), k 6 (by decide), k 7 (by decide), k 8 (by decide), k 9 (by decide), k 10 (by decide), k 11 (by decide), k 12 (by decide)⟩
set_option maxHeartbeats 4000000 in
theorem arr13_any (f h : Nat → Int) (w : World) : (Op.equalIn 10000 67 (.agg #[.int .i64 (f 0), .int .i64 (f 1), .int .i64 (f 2), .int .i64 (f 3), .int .i64 (f 4), .int .i64 (f 5), .int .i64 (f 6), .int .i64 (f 7), .int .i64 (f 8), .int .i64 (f 9), .int .i64 (f 10), .int .i64 (f 11), .int .i64 (f 12)]) (.agg #[.int .i64 (h 0), .int .i64 (h 1), .int .i64 (h 2), .int .i64 (h 3), .int .i64 (h 4), .int .i64 (h 5), .int .i64 (h 6), .int .i64 (h 7), .int .i64 (h 8), .int .i64 (h 9), .int .i64 (h 10), .int .i64 (h 11), .int .i64 (h 12)])).run Tryd.prog w = .ok (eq13 f h) w := by
  have hu : Tryd.prog.underlying 67 = some (.array 13 3) := by kernel_rfl
  have hi : Tryd.prog.underlying 3 = some (.int .i64) := by kernel_rfl
  have hs : ∀ w, (sizeOf 3).run Tryd.prog w = .ok 1 w := fun w => by kernel_rfl
  have pf0 : ∀ w, (_root_.Go.part 3 #[.int .i64 (f 0), .int .i64 (f 1), .int .i64 (f 2), .int .i64 (f 3), .int .i64 (f 4), .int .i64 (f 5), .int .i64 (f 6), .int .i64 (f 7), .int .i64 (f 8), .int .i64 (f 9), .int .i64 (f 10), .int .i64 (f 11), .int .i64 (f 12)] 0).run Tryd.prog w = .ok (.int .i64 (f 0)) w := fun w => by kernel_rfl
  have pf1 : ∀ w, (_root_.Go.part 3 #[.int .i64 (f 0), .int .i64 (f 1), .int .i64 (f 2), .int .i64 (f 3), .int .i64 (f 4), .int .i64 (f 5), .int .i64 (f 6), .int .i64 (f 7), .int .i64 (f 8), .int .i64 (f 9), .int .i64 (f 10), .int .i64 (f 11), .int .i64 (f 12)] 1).run Tryd.prog w = .ok (.int .i64 (f 1)) w := fun w => by kernel_rfl
  have pf2 : ∀ w, (_root_.Go.part 3 #[.int .i64 (f 0), .int .i64 (f 1), .int .i64 (f 2), .int .i64 (f 3), .int .i64 (f 4), .int .i64 (f 5), .int .i64 (f 6), .int .i64 (f 7), .int .i64 (f 8), .int .i64 (f 9), .int .i64 (f 10), .int .i64 (f 11), .int .i64 (f 12)] 2).run Tryd.prog w = .ok (.int .i64 (f 2)) w := fun w => by kernel_rfl
  have pf3 : ∀ w, (_root_.Go.part 3 #[.int .i64 (f 0), .int .i64 (f 1), .int .i64 (f 2), .int .i64 (f 3), .int .i64 (f 4), .int .i64 (f 5), .int .i64 (f 6), .int .i64 (f 7), .int .i64 (f 8), .int .i64 (f 9), .int .i64 (f 10), .int .i64 (f 11), .int .i64 (f 12)] 3).run Tryd.prog w = .ok (.int .i64 (f 3)) w := fun w => by kernel_rfl
  have pf4 : ∀ w, (_root_.Go.part 3 #[.int .i64 (f 0), .int .i64 (f 1), .int .i64 (f 2), .int .i64 (f 3), .int .i64 (f 4), .int .i64 (f 5), .int .i64 (f 6), .int .i64 (f 7), .int .i64 (f 8), .int .i64 (f 9), .int .i64 (f 10), .int .i64 (f 11), .int .i64 (f 12)] 4).run Tryd.prog w = .ok (.int .i64 (f 4)) w := fun w => by kernel_rfl
  have pf5 : ∀ w, (_root_.Go.part 3 #[.int .i64 (f 0), .int .i64 (f 1), .int .i64 (f 2), .int .i64 (f 3), .int .i64 (f 4), .int .i64 (f 5), .int .i64 (f 6), .int .i64 (f 7), .int .i64 (f 8), .int .i64 (f 9), .int .i64 (f 10), .int .i64 (f 11), .int .i64 (f 12)] 5).run Tryd.prog w = .ok (.int .i64 (f 5)) w := fun w => by kernel_rfl
  have pf6 : ∀ w, (_root_.Go.part 3 #[.int .i64 (f 0), .int .i64 (f 1), .int .i64 (f 2), .int .i64 (f 3), .int .i64 (f 4), .int .i64 (f 5), .int .i64 (f 6), .int .i64 (f 7), .int .i64 (f 8), .int .i64 (f 9), .int .i64 (f 10), .int .i64 (f 11), .int .i64 (f 12)] 6).run Tryd.prog w = .ok (.int .i64 (f 6)) w := fun w => by kernel_rfl
  have pf7 : ∀ w, (_root_.Go.part 3 #[.int .i64 (f 0), .int .i64 (f 1), .int .i64 (f 2), .int .i64 (f 3), .int .i64 (f 4), .int .i64 (f 5), .int .i64 (f 6), .int .i64 (f 7), .int .i64 (f 8), .int .i64 (f 9), .int .i64 (f 10), .int .i64 (f 11), .int .i64 (f 12)] 7).run Tryd.prog w = .ok (.int .i64 (f 7)) w := fun w => by kernel_rfl
  have pf8 : ∀ w, (_root_.Go.part 3 #[.int .i64 (f 0), .int .i64 (f 1), .int .i64 (f 2), .int .i64 (f 3), .int .i64 (f 4), .int .i64 (f 5), .int .i64 (f 6), .int .i64 (f 7), .int .i64 (f 8), .int .i64 (f 9), .int .i64 (f 10), .int .i64 (f 11), .int .i64 (f 12)] 8).run Tryd.prog w = .ok (.int .i64 (f 8)) w := fun w => by kernel_rfl
  have pf9 : ∀ w, (_root_.Go.part 3 #[.int .i64 (f 0), .int .i64 (f 1), .int .i64 (f 2), .int .i64 (f 3), .int .i64 (f 4), .int .i64 (f 5), .int .i64 (f 6), .int .i64 (f 7), .int .i64 (f 8), .int .i64 (f 9), .int .i64 (f 10), .int .i64 (f 11), .int .i64 (f 12)] 9).run Tryd.prog w = .ok (.int .i64 (f 9)) w := fun w => by kernel_rfl
  have pf10 : ∀ w, (_root_.Go.part 3 #[.int .i64 (f 0), .int .i64 (f 1), .int .i64 (f 2), .int .i64 (f 3), .int .i64 (f 4), .int .i64 (f 5), .int .i64 (f 6), .int .i64 (f 7), .int .i64 (f 8), .int .i64 (f 9), .int .i64 (f 10), .int .i64 (f 11), .int .i64 (f 12)] 10).run Tryd.prog w = .ok (.int .i64 (f 10)) w := fun w => by kernel_rfl
  have pf11 : ∀ w, (_root_.Go.part 3 #[.int .i64 (f 0), .int .i64 (f 1), .int .i64 (f 2), .int .i64 (f 3), .int .i64 (f 4), .int .i64 (f 5), .int .i64 (f 6), .int .i64 (f 7), .int .i64 (f 8), .int .i64 (f 9), .int .i64 (f 10), .int .i64 (f 11), .int .i64 (f 12)] 11).run Tryd.prog w = .ok (.int .i64 (f 11)) w := fun w => by kernel_rfl
  have pf12 : ∀ w, (_root_.Go.part 3 #[.int .i64 (f 0), .int .i64 (f 1), .int .i64 (f 2), .int .i64 (f 3), .int .i64 (f 4), .int .i64 (f 5), .int .i64 (f 6), .int .i64 (f 7), .int .i64 (f 8), .int .i64 (f 9), .int .i64 (f 10), .int .i64 (f 11), .int .i64 (f 12)] 12).run Tryd.prog w = .ok (.int .i64 (f 12)) w := fun w => by kernel_rfl
  have ph0 : ∀ w, (_root_.Go.part 3 #[.int .i64 (h 0), .int .i64 (h 1), .int .i64 (h 2), .int .i64 (h 3), .int .i64 (h 4), .int .i64 (h 5), .int .i64 (h 6), .int .i64 (h 7), .int .i64 (h 8), .int .i64 (h 9), .int .i64 (h 10), .int .i64 (h 11), .int .i64 (h 12)] 0).run Tryd.prog w = .ok (.int .i64 (h 0)) w := fun w => by kernel_rfl
  have ph1 : ∀ w, (_root_.Go.part 3 #[.int .i64 (h 0), .int .i64 (h 1), .int .i64 (h 2), .int .i64 (h 3), .int .i64 (h 4), .int .i64 (h 5), .int .i64 (h 6), .int .i64 (h 7), .int .i64 (h 8), .int .i64 (h 9), .int .i64 (h 10), .int .i64 (h 11), .int .i64 (h 12)] 1).run Tryd.prog w = .ok (.int .i64 (h 1)) w := fun w => by kernel_rfl
  have ph2 : ∀ w, (_root_.Go.part 3 #[.int .i64 (h 0), .int .i64 (h 1), .int .i64 (h 2), .int .i64 (h 3), .int .i64 (h 4), .int .i64 (h 5), .int .i64 (h 6), .int .i64 (h 7), .int .i64 (h 8), .int .i64 (h 9), .int .i64 (h 10), .int .i64 (h 11), .int .i64 (h 12)] 2).run Tryd.prog w = .ok (.int .i64 (h 2)) w := fun w => by kernel_rfl
  have ph3 : ∀ w, (_root_.Go.part 3 #[.int .i64 (h 0), .int .i64 (h 1), .int .i64 (h 2), .int .i64 (h 3), .int .i64 (h 4), .int .i64 (h 5), .int .i64 (h 6), .int .i64 (h 7), .int .i64 (h 8), .int .i64 (h 9), .int .i64 (h 10), .int .i64 (h 11), .int .i64 (h 12)] 3).run Tryd.prog w = .ok (.int .i64 (h 3)) w := fun w => by kernel_rfl
  have ph4 : ∀ w, (_root_.Go.part 3 #[.int .i64 (h 0), .int .i64 (h 1), .int .i64 (h 2), .int .i64 (h 3), .int .i64 (h 4), .int .i64 (h 5), .int .i64 (h 6), .int .i64 (h 7), .int .i64 (h 8), .int .i64 (h 9), .int .i64 (h 10), .int .i64 (h 11), .int .i64 (h 12)] 4).run Tryd.prog w = .ok (.int .i64 (h 4)) w := fun w => by kernel_rfl
  have ph5 : ∀ w, (_root_.Go.part 3 #[.int .i64 (h 0), .int .i64 (h 1), .int .i64 (h 2), .int .i64 (h 3), .int .i64 (h 4), .int .i64 (h 5), .int .i64 (h 6), .int .i64 (h 7), .int .i64 (h 8), .int .i64 (h 9), .int .i64 (h 10), .int .i64 (h 11), .int .i64 (h 12)] 5).run Tryd.prog w = .ok (.int .i64 (h 5)) w := fun w => by kernel_rfl
  have ph6 : ∀ w, (_root_.Go.part 3 #[.int .i64 (h 0), .int .i64 (h 1), .int .i64 (h 2), .int .i64 (h 3), .int .i64 (h 4), .int .i64 (h 5), .int .i64 (h 6), .int .i64 (h 7), .int .i64 (h 8), .int .i64 (h 9), .int .i64 (h 10), .int .i64 (h 11), .int .i64 (h 12)] 6).run Tryd.prog w = .ok (.int .i64 (h 6)) w := fun w => by kernel_rfl
  have ph7 : ∀ w, (_root_.Go.part 3 #[.int .i64 (h 0), .int .i64 (h 1), .int .i64 (h 2), .int .i64 (h 3), .int .i64 (h 4), .int .i64 (h 5), .int .i64 (h 6), .int .i64 (h 7), .int .i64 (h 8), .int .i64 (h 9), .int .i64 (h 10), .int .i64 (h 11), .int .i64 (h 12)] 7).run Tryd.prog w = .ok (.int .i64 (h 7)) w := fun w => by kernel_rfl
  have ph8 : ∀ w, (_root_.Go.part 3 #[.int .i64 (h 0), .int .i64 (h 1), .int .i64 (h 2), .int .i64 (h 3), .int .i64 (h 4), .int .i64 (h 5), .int .i64 (h 6), .int .i64 (h 7), .int .i64 (h 8), .int .i64 (h 9), .int .i64 (h 10), .int .i64 (h 11), .int .i64 (h 12)] 8).run Tryd.prog w = .ok (.int .i64 (h 8)) w := fun w => by kernel_rfl
  have ph9 : ∀ w, (_root_.Go.part 3 #[.int .i64 (h 0), .int .i64 (h 1), .int .i64 (h 2), .int .i64 (h 3), .int .i64 (h 4), .int .i64 (h 5), .int .i64 (h 6), .int .i64 (h 7), .int .i64 (h 8), .int .i64 (h 9), .int .i64 (h 10), .int .i64 (h 11), .int .i64 (h 12)] 9).run Tryd.prog w = .ok (.int .i64 (h 9)) w := fun w => by kernel_rfl
  have ph10 : ∀ w, (_root_.Go.part 3 #[.int .i64 (h 0), .int .i64 (h 1), .int .i64 (h 2), .int .i64 (h 3), .int .i64 (h 4), .int .i64 (h 5), .int .i64 (h 6), .int .i64 (h 7), .int .i64 (h 8), .int .i64 (h 9), .int .i64 (h 10), .int .i64 (h 11), .int .i64 (h 12)] 10).run Tryd.prog w = .ok (.int .i64 (h 10)) w := fun w => by kernel_rfl
  have ph11 : ∀ w, (_root_.Go.part 3 #[.int .i64 (h 0), .int .i64 (h 1), .int .i64 (h 2), .int .i64 (h 3), .int .i64 (h 4), .int .i64 (h 5), .int .i64 (h 6), .int .i64 (h 7), .int .i64 (h 8), .int .i64 (h 9), .int .i64 (h 10), .int .i64 (h 11), .int .i64 (h 12)] 11).run Tryd.prog w = .ok (.int .i64 (h 11)) w := fun w => by kernel_rfl
  have ph12 : ∀ w, (_root_.Go.part 3 #[.int .i64 (h 0), .int .i64 (h 1), .int .i64 (h 2), .int .i64 (h 3), .int .i64 (h 4), .int .i64 (h 5), .int .i64 (h 6), .int .i64 (h 7), .int .i64 (h 8), .int .i64 (h 9), .int .i64 (h 10), .int .i64 (h 11), .int .i64 (h 12)] 12).run Tryd.prog w = .ok (.int .i64 (h 12)) w := fun w => by kernel_rfl
  rw [show (10000 : Nat) = 9998 + 2 from rfl]
  rw [Op.equalIn]
  simp only [Sem.run_bind, run_underlying hu, Result.andThen_ok, hs, Std.Legacy.Range.forIn_eq_forIn_range', Std.Legacy.Range.size]
  simp [List.range', pf0, pf1, pf2, pf3, pf4, pf5, pf6, pf7, pf8, pf9, pf10, pf11, pf12, ph0, ph1, ph2, ph3, ph4, ph5, ph6, ph7, ph8, ph9, ph10, ph11, ph12, run_equalIn_int _ 9998 3 .i64 .i64 _ _ hi]
  unfold eq13
  by_cases e0 : f 0 = h 0
  rotate_left
  · simp [e0]
  by_cases e1 : f 1 = h 1
  rotate_left
  · simp [e0, e1]
  by_cases e2 : f 2 = h 2
  rotate_left
  · simp [e0, e1, e2]
  by_cases e3 : f 3 = h 3
  rotate_left
  · simp [e0, e1, e2, e3]
  by_cases e4 : f 4 = h 4
  rotate_left
  · simp [e0, e1, e2, e3, e4]
  by_cases e5 : f 5 = h 5
  rotate_left
  · simp [e0, e1, e2, e3, e4, e5]
  by_cases e6 : f 6 = h 6
  rotate_left
  · simp [e0, e1, e2, e3, e4, e5, e6]
  by_cases e7 : f 7 = h 7
  rotate_left
  · simp [e0, e1, e2, e3, e4, e5, e6, e7]
  by_cases e8 : f 8 = h 8
  rotate_left
  · simp [e0, e1, e2, e3, e4, e5, e6, e7, e8]
  by_cases e9 : f 9 = h 9
  rotate_left
  · simp [e0, e1, e2, e3, e4, e5, e6, e7, e8, e9]
  by_cases e10 : f 10 = h 10
  rotate_left
  · simp [e0, e1, e2, e3, e4, e5, e6, e7, e8, e9, e10]
  by_cases e11 : f 11 = h 11
  rotate_left
  · simp [e0, e1, e2, e3, e4, e5, e6, e7, e8, e9, e10, e11]
  by_cases e12 : f 12 = h 12
  rotate_left
  · simp [e0, e1, e2, e3, e4, e5, e6, e7, e8, e9, e10, e11, e12]
  simp [e0, e1, e2, e3, e4, e5, e6, e7, e8, e9, e10, e11, e12]
/-- The same. -/
def inEB (x y : IntentV) : Bool := x.token == y.token && (x.version == y.version && (x.zone == y.zone && (x.warm == y.warm)))
theorem inEB_iff {x y : IntentV} : inEB x y = true ↔ x = y := by
  cases x; cases y
  simp [inEB]
set_option maxHeartbeats 4000000 in
theorem neqinE_run (x y : IntentV) (w : World) : (binOp .neq 41 (.agg #[.int .i64 x.token, .int .i64 x.version, .int .i64 x.zone, .bool x.warm]) (.agg #[.int .i64 y.token, .int .i64 y.version, .int .i64 y.zone, .bool y.warm])).run Tryd.prog w = .ok (.bool (!inEB x y)) w := by
  simp [go_sem]
  by_cases h0 : x.token = y.token
  rotate_left
  · simp [inEB, h0]
  by_cases h1 : x.version = y.version
  rotate_left
  · simp [inEB, h0, h1]
  by_cases h2 : x.zone = y.zone
  rotate_left
  · simp [inEB, h0, h1, h2]
  by_cases h3 : x.warm = y.warm
  rotate_left
  · simp [inEB, h0, h1, h2, h3]
  simp [inEB, h0, h1, h2, h3]
set_option maxHeartbeats 4000000 in
theorem eqlinE_run (x y : IntentV) (w : World) : (binOp .eql 41 (.agg #[.int .i64 x.token, .int .i64 x.version, .int .i64 x.zone, .bool x.warm]) (.agg #[.int .i64 y.token, .int .i64 y.version, .int .i64 y.zone, .bool y.warm])).run Tryd.prog w = .ok (.bool (inEB x y)) w := by
  simp [go_sem]
  by_cases h0 : x.token = y.token
  rotate_left
  · simp [inEB, h0]
  by_cases h1 : x.version = y.version
  rotate_left
  · simp [inEB, h0, h1]
  by_cases h2 : x.zone = y.zone
  rotate_left
  · simp [inEB, h0, h1, h2]
  by_cases h3 : x.warm = y.warm
  rotate_left
  · simp [inEB, h0, h1, h2, h3]
  simp [inEB, h0, h1, h2, h3]
/-- The same. -/
def kpEB (x y : KeptV) : Bool := x.id == y.id && (x.token == y.token && (x.version == y.version && (x.zone == y.zone && (x.phase == y.phase && (x.since == y.since && (x.guarded == y.guarded && (x.complete == y.complete)))))))
theorem kpEB_iff {x y : KeptV} : kpEB x y = true ↔ x = y := by
  cases x; cases y
  simp [kpEB]
set_option maxHeartbeats 4000000 in
theorem neqkpE_run (x y : KeptV) (w : World) : (binOp .neq 43 (.agg #[.int .i64 x.id, .int .i64 x.token, .int .i64 x.version, .int .i64 x.zone, .int .u8 x.phase, .int .i64 x.since, .bool x.guarded, .bool x.complete]) (.agg #[.int .i64 y.id, .int .i64 y.token, .int .i64 y.version, .int .i64 y.zone, .int .u8 y.phase, .int .i64 y.since, .bool y.guarded, .bool y.complete])).run Tryd.prog w = .ok (.bool (!kpEB x y)) w := by
  simp [go_sem]
  by_cases h0 : x.id = y.id
  rotate_left
  · simp [kpEB, h0]
  by_cases h1 : x.token = y.token
  rotate_left
  · simp [kpEB, h0, h1]
  by_cases h2 : x.version = y.version
  rotate_left
  · simp [kpEB, h0, h1, h2]
  by_cases h3 : x.zone = y.zone
  rotate_left
  · simp [kpEB, h0, h1, h2, h3]
  by_cases h4 : x.phase = y.phase
  rotate_left
  · simp [kpEB, h0, h1, h2, h3, h4]
  by_cases h5 : x.since = y.since
  rotate_left
  · simp [kpEB, h0, h1, h2, h3, h4, h5]
  by_cases h6 : x.guarded = y.guarded
  rotate_left
  · simp [kpEB, h0, h1, h2, h3, h4, h5, h6]
  by_cases h7 : x.complete = y.complete
  rotate_left
  · simp [kpEB, h0, h1, h2, h3, h4, h5, h6, h7]
  simp [kpEB, h0, h1, h2, h3, h4, h5, h6, h7]
set_option maxHeartbeats 4000000 in
theorem eqlkpE_run (x y : KeptV) (w : World) : (binOp .eql 43 (.agg #[.int .i64 x.id, .int .i64 x.token, .int .i64 x.version, .int .i64 x.zone, .int .u8 x.phase, .int .i64 x.since, .bool x.guarded, .bool x.complete]) (.agg #[.int .i64 y.id, .int .i64 y.token, .int .i64 y.version, .int .i64 y.zone, .int .u8 y.phase, .int .i64 y.since, .bool y.guarded, .bool y.complete])).run Tryd.prog w = .ok (.bool (kpEB x y)) w := by
  simp [go_sem]
  by_cases h0 : x.id = y.id
  rotate_left
  · simp [kpEB, h0]
  by_cases h1 : x.token = y.token
  rotate_left
  · simp [kpEB, h0, h1]
  by_cases h2 : x.version = y.version
  rotate_left
  · simp [kpEB, h0, h1, h2]
  by_cases h3 : x.zone = y.zone
  rotate_left
  · simp [kpEB, h0, h1, h2, h3]
  by_cases h4 : x.phase = y.phase
  rotate_left
  · simp [kpEB, h0, h1, h2, h3, h4]
  by_cases h5 : x.since = y.since
  rotate_left
  · simp [kpEB, h0, h1, h2, h3, h4, h5]
  by_cases h6 : x.guarded = y.guarded
  rotate_left
  · simp [kpEB, h0, h1, h2, h3, h4, h5, h6]
  by_cases h7 : x.complete = y.complete
  rotate_left
  · simp [kpEB, h0, h1, h2, h3, h4, h5, h6, h7]
  simp [kpEB, h0, h1, h2, h3, h4, h5, h6, h7]
/-- A refresh. -/
structure RefV where
  state : Int
  rfrom : Int
  target : Int
  step : Int
  paused : Bool
  since : Int
  fails : Int
/-- The same. -/
def rfEB (x y : RefV) : Bool := x.state == y.state && (x.rfrom == y.rfrom && (x.target == y.target && (x.step == y.step && (x.paused == y.paused && (x.since == y.since && (x.fails == y.fails))))))
theorem rfEB_iff {x y : RefV} : rfEB x y = true ↔ x = y := by
  cases x; cases y
  simp [rfEB]
set_option maxHeartbeats 4000000 in
theorem neqrfE_run (x y : RefV) (w : World) : (binOp .neq 28 (.agg #[.int .u8 x.state, .int .i64 x.rfrom, .int .i64 x.target, .int .i64 x.step, .bool x.paused, .int .i64 x.since, .int .i64 x.fails]) (.agg #[.int .u8 y.state, .int .i64 y.rfrom, .int .i64 y.target, .int .i64 y.step, .bool y.paused, .int .i64 y.since, .int .i64 y.fails])).run Tryd.prog w = .ok (.bool (!rfEB x y)) w := by
  simp [go_sem]
  by_cases h0 : x.state = y.state
  rotate_left
  · simp [rfEB, h0]
  by_cases h1 : x.rfrom = y.rfrom
  rotate_left
  · simp [rfEB, h0, h1]
  by_cases h2 : x.target = y.target
  rotate_left
  · simp [rfEB, h0, h1, h2]
  by_cases h3 : x.step = y.step
  rotate_left
  · simp [rfEB, h0, h1, h2, h3]
  by_cases h4 : x.paused = y.paused
  rotate_left
  · simp [rfEB, h0, h1, h2, h3, h4]
  by_cases h5 : x.since = y.since
  rotate_left
  · simp [rfEB, h0, h1, h2, h3, h4, h5]
  by_cases h6 : x.fails = y.fails
  rotate_left
  · simp [rfEB, h0, h1, h2, h3, h4, h5, h6]
  simp [rfEB, h0, h1, h2, h3, h4, h5, h6]
set_option maxHeartbeats 4000000 in
theorem eqlrfE_run (x y : RefV) (w : World) : (binOp .eql 28 (.agg #[.int .u8 x.state, .int .i64 x.rfrom, .int .i64 x.target, .int .i64 x.step, .bool x.paused, .int .i64 x.since, .int .i64 x.fails]) (.agg #[.int .u8 y.state, .int .i64 y.rfrom, .int .i64 y.target, .int .i64 y.step, .bool y.paused, .int .i64 y.since, .int .i64 y.fails])).run Tryd.prog w = .ok (.bool (rfEB x y)) w := by
  simp [go_sem]
  by_cases h0 : x.state = y.state
  rotate_left
  · simp [rfEB, h0]
  by_cases h1 : x.rfrom = y.rfrom
  rotate_left
  · simp [rfEB, h0, h1]
  by_cases h2 : x.target = y.target
  rotate_left
  · simp [rfEB, h0, h1, h2]
  by_cases h3 : x.step = y.step
  rotate_left
  · simp [rfEB, h0, h1, h2, h3]
  by_cases h4 : x.paused = y.paused
  rotate_left
  · simp [rfEB, h0, h1, h2, h3, h4]
  by_cases h5 : x.since = y.since
  rotate_left
  · simp [rfEB, h0, h1, h2, h3, h4, h5]
  by_cases h6 : x.fails = y.fails
  rotate_left
  · simp [rfEB, h0, h1, h2, h3, h4, h5, h6]
  simp [rfEB, h0, h1, h2, h3, h4, h5, h6]
instance : DecidableEq IntentV := fun a b => decidable_of_iff (inEB a b = true) inEB_iff
instance : DecidableEq KeptV := fun a b => decidable_of_iff (kpEB a b = true) kpEB_iff
def refOf (B : BrainV) : RefV := ⟨B.f 20, B.f 21, B.f 22, B.f 23, B.g 24, B.f 25, B.f 26⟩
end Go.Proofs.YthnigndpibgibaaDoor
