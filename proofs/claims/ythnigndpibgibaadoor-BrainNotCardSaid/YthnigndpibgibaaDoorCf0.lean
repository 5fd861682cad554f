/- Groups: the laid tables; whether a number is within; a floor. -/
import Derived.Test.YthnigndpibgibaaDoorBrA
namespace Go.Proofs.YthnigndpibgibaaDoor
open Go.RowKit Go.Shelf

/-- From where to where a group's numbers are. -/
def limL : List (Int × Int) := [(0, 6), (0, 100), (0, 3), (0, 3), (0, 20), (0, 20), (0, 20), (0, 20), (1, 20), (1, 20), (1, 20), (0, 20), (1, 1099511627776)]
def encL (p : Int × Int) : List Value := [.int .i64 p.1, .int .i64 p.2]
/-- The table of limits lies there. -/
def Limits (w : World) : Prop := RowAt 2 encL w 0 0 limL ∧ 0 < w.heap.size
theorem Limits.below {w w' : World} (h : Limits w) (hb : Below w.heap.size w w') : Limits w' := ⟨h.1.below hb h.2, Nat.lt_of_lt_of_le h.2 hb.size⟩
theorem Limits.on {S : Nat → Prop} {w w' : World} (h : Limits w) (hb : On S w w') (hS : S 0) : Limits w' := ⟨h.1.on hb hS h.2, Nat.lt_of_lt_of_le h.2 hb.size⟩
/-- Which phases may come behind one. -/
def chL : List (List Int) := [[], [2, 8], [3, 8], [4], [5, 3], [6, 4], [7], [8], [], [10, 8], [1]]
def enc8 (x : Int) : List Value := [.int .u8 x]
/-- The table of changes lies there. -/
def Changes (w : World) : Prop := ∀ (i : Nat) (l : List Int), chL[i]? = some l → ∃ v, w.cell? ⟨1, i, none⟩ = some v ∧ RowOf 1 enc8 w v l
theorem Changes.below {w w' : World} (h : Changes w) (hb : Below w.heap.size w w') : Changes w' := by
  intro i l hl
  obtain ⟨v, h1, h2⟩ := h i l hl
  exact ⟨v, cell_below h1 hb, h2.below hb⟩

def withB (n lo hi : Int) : Bool := decide (lo ≤ n ∧ n ≤ hi)
set_option maxHeartbeats 400000 in
theorem cwithin_any (n lo hi : Int) (b : Bool) (hb : withB n lo hi = b) (w : World) : Calls Tryd.prog 54 #[.int .i64 n, .agg #[.int .i64 lo, .int .i64 hi]] w fun e w' => e = .returned (.bool b) ∧ Below w.heap.size w w' := by
  have Z := hid (show Below w.heap.size w (w.alloc (.cells #[.int .i64 lo, .int .i64 hi] 92)) from (Below.refl _ _).alloc (Nat.le_refl _) _)
  by_cases h1 : lo ≤ n
  · have d1 : decide (lo ≤ n) = true := by simpa using h1
    have e0 : b = decide (n ≤ hi) := by rw [← hb]; simp [withB, h1]
    rw [e0]
    clear hb
    go_enter Tryd.func54, Tryd.ntmps54
    go_wp2
    go_ret
    exact ⟨rfl, Z.out⟩
  · have d1 : decide (lo ≤ n) = false := by simpa using h1
    have e0 : b = false := by rw [← hb]; simp [withB]; omega
    rw [e0]
    clear hb
    go_enter Tryd.func54, Tryd.ntmps54
    go_wp2
    go_ret
    exact ⟨rfl, Z.out⟩

/-- A group's floor, of numbers that are not too great. -/
def floorC (a b : Int) : Int := (a * b + 99) / 100
set_option maxHeartbeats 400000 in
theorem cfloor_any (f : Nat → Int) (g : Bool) (m : Value) (h0 : 0 ≤ f 0 ∧ f 0 ≤ 6) (h1 : 0 ≤ f 1 ∧ f 1 ≤ 100) (w : World) : Calls Tryd.prog 55 #[.agg (confA f g m)] w fun e w' => e = .returned (.int .i64 (floorC (f 0) (f 1))) ∧ Below w.heap.size w w' := by
  have Z := hid (show Below w.heap.size w (w.alloc (.cells (confA f g m) 24)) from (Below.refl _ _).alloc (Nat.le_refl _) _)
  have hm : 0 ≤ f 0 * f 1 ∧ f 0 * f 1 ≤ 600 := by
    obtain ⟨a1, a2⟩ := h0
    obtain ⟨b1, b2⟩ := h1
    exact ⟨Int.mul_nonneg a1 b1, by have := Int.mul_le_mul a2 b2 b1 (by decide); omega⟩
  unfold confA at Z ⊢
  unfold floorC
  go_enter Tryd.func55, Tryd.ntmps55
  go_wp2
  go_ret
  exact ⟨rfl, Z.out⟩
end Go.Proofs.YthnigndpibgibaaDoor
