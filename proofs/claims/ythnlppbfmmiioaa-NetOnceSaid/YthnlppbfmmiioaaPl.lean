/- Places of rows: net.place, the reference's place. -/
import Derived.Test.YthnlppbfmmiioaaOw4
namespace Go.Proofs.Ythnlppbfmmiioaa
open Go.RowKit Go.Shelf

/-- A place's rest. -/
def placeN (at' : Int) (n : Nat) : Nat := ((wrap64 (at'.tmod (n : Int) + (n : Int))).tmod (n : Int)).toNat
theorem placeN_is (at' : Int) (n : Nat) (hn : 0 < n) (hn' : n ≤ 1000000) : (wrap64 (at'.tmod (n : Int) + (n : Int))).tmod (n : Int) = (placeN at' n : Int) ∧ placeN at' n < n := by
  have h1 : at'.tmod (n : Int) < n := Int.tmod_lt_of_pos _ (by omega)
  have h2 : -(n : Int) < at'.tmod (n : Int) := Int.lt_tmod_of_pos _ (by omega)
  have h3 : wrap64 (at'.tmod (n : Int) + (n : Int)) = at'.tmod (n : Int) + (n : Int) := by unfold wrap64; omega
  unfold placeN
  rw [h3]
  have h4 : 0 ≤ (at'.tmod (n : Int) + (n : Int)).tmod (n : Int) := Int.tmod_nonneg _ (by omega)
  have h5 : (at'.tmod (n : Int) + (n : Int)).tmod (n : Int) < n := Int.tmod_lt_of_pos _ (by omega)
  omega

theorem ret_place {a b : Int} (h : a = b) (c : Bool) : Ending.returned (.tuple #[.int .i64 a, .bool c]) = .returned (.tuple #[.int .i64 b, .bool c]) := by rw [h]
theorem ret_int' {a b : Int} (h : a = b) : Ending.returned (.int .i64 a) = .returned (.int .i64 b) := by rw [h]

set_option maxHeartbeats 400000 in
theorem placeA_yes (a : Option Addr) (n c : Nat) (at' : Int) (w : World) (hn : 0 < n) (hn' : n ≤ 1000000) :
    Calls Try.prog 41 #[.slice a n c, .int .i64 at'] w fun e w' => e = .returned (.tuple #[.int .i64 (placeN at' n : Int), .bool true]) ∧ w = w' := by
  have HP := hid (placeN_is at' n hn hn').1
  have d0 : ((n : Int) == 0) = false := by simp; omega
  have h1 : (1 : Int) ≤ (n : Int) := by omega
  have h2 : (n : Int) ≤ 1000000 := by omega
  go_enter Try.func41, Try.ntmps41
  go_wp2
  go_ret2
  exact ⟨ret_place HP.out _, rfl⟩
set_option maxHeartbeats 400000 in
theorem placeA_no (a : Option Addr) (c : Nat) (at' : Int) (w : World) :
    Calls Try.prog 41 #[.slice a 0 c, .int .i64 at'] w fun e w' => e = .returned (.tuple #[.int .i64 0, .bool false]) ∧ w = w' := by
  go_enter Try.func41, Try.ntmps41
  go_wp2
  go_ret2
  exact ⟨rfl, rfl⟩
set_option maxHeartbeats 400000 in
theorem placeT_yes (a : Option Addr) (n c : Nat) (at' : Int) (w : World) (hn : 0 < n) (hn' : n ≤ 1000000) :
    Calls Try.prog 40 #[.slice a n c, .int .i64 at'] w fun e w' => e = .returned (.tuple #[.int .i64 (placeN at' n : Int), .bool true]) ∧ w = w' := by
  have HP := hid (placeN_is at' n hn hn').1
  have d0 : ((n : Int) == 0) = false := by simp; omega
  have h1 : (1 : Int) ≤ (n : Int) := by omega
  have h2 : (n : Int) ≤ 1000000 := by omega
  go_enter Try.func40, Try.ntmps40
  go_wp2
  go_ret2
  exact ⟨ret_place HP.out _, rfl⟩
set_option maxHeartbeats 400000 in
theorem placeT_no (a : Option Addr) (c : Nat) (at' : Int) (w : World) :
    Calls Try.prog 40 #[.slice a 0 c, .int .i64 at'] w fun e w' => e = .returned (.tuple #[.int .i64 0, .bool false]) ∧ w = w' := by
  go_enter Try.func40, Try.ntmps40
  go_wp2
  go_ret2
  exact ⟨rfl, rfl⟩
set_option maxHeartbeats 400000 in
theorem rplace_any (n : Nat) (at' : Int) (w : World) (hn : 0 < n) (hn' : n ≤ 1000000) :
    Calls Try.prog 38 #[.int .i64 at', .int .i64 (n : Int)] w fun e w' => e = .returned (.int .i64 (placeN at' n : Int)) ∧ w = w' := by
  have HP := hid (placeN_is at' n hn hn').1
  have h1 : (1 : Int) ≤ (n : Int) := by omega
  have h2 : (n : Int) ≤ 1000000 := by omega
  go_enter Try.func38, Try.ntmps38
  go_wp2
  go_ret
  exact ⟨ret_int' HP.out, rfl⟩

/-- A slice of the call's own stays, where its block stays. -/
theorem Owns.on {α : Type} {k : Nat} {e : TypeId} {enc : α → List Value} {W W' : World} {base : Nat} {v : Value} {l : List α} {S : Nat → Prop} (h : Owns k e enc W base v l) (hO : On S W W') (hS : ∀ g, v.ownBlock = some g → S g) : Owns k e enc W' base v l := by
  obtain ⟨h0, ⟨rfl, h1⟩ | ⟨g, cap, cur, rfl, h2, h3, h4⟩⟩ := h
  · exact ⟨h0, .inl ⟨rfl, h1⟩⟩
  · exact ⟨h0, .inr ⟨g, cap, cur, rfl, h2, (hO.block g (hS g rfl) (blk_lt h3)).trans h3, h4⟩⟩
/-- All blocks but one, and those of one type of cells. -/
def Away (b : Nat) (t : TypeId) (W : World) (k : Nat) : Prop := k ≠ b ∧ ∀ c, W.heap[k]? ≠ some (.cells c t)
theorem Owns.away {α : Type} {k b : Nat} {e t : TypeId} {enc : α → List Value} {W W' : World} {base : Nat} {v : Value} {l : List α} (h : Owns k e enc W base v l) (hO : On (Away b t W) W W') (hb : b < base) (hne : e ≠ t) : Owns k e enc W' base v l := by
  refine h.on hO fun g hg => ⟨?_, fun c hc => ?_⟩
  · have := (h.block g hg).1; omega
  · obtain ⟨c', hc'⟩ := h.typed g hg
    rw [hc] at hc'; cases hc'; exact hne rfl
theorem blk_away {b g : Nat} {t u : TypeId} {c : Array Value} {W W' : World} (h : W.heap[g]? = some (.cells c u)) (hO : On (Away b t W) W W') (hb : g ≠ b) (hne : u ≠ t) : W'.heap[g]? = some (.cells c u) :=
  (hO.block g ⟨hb, fun c' hc => by rw [h] at hc; cases hc; exact hne rfl⟩ (blk_lt h)).trans h
theorem TellOwn.away {W W' : World} {base b : Nat} {m : TellM} {t : TellV} {ty : TypeId} (h : TellOwn W base m t) (hO : On (Away b ty W) W W') (hb : b < base) (hne : 51 ≠ ty) : TellOwn W' base m t := ⟨Owns.away h.1 hO hb hne, h.2⟩
theorem TellsOwn.away {W W' : World} {base b : Nat} {ms : List TellM} {l : List TellV} {ty : TypeId} (h : TellsOwn W base ms l) (hO : On (Away b ty W) W W') (hb : b < base) (hne : 51 ≠ ty) : TellsOwn W' base ms l := ⟨h.1, fun i m t h1 h2 => (h.2 i m t h1 h2).away hO hb hne⟩
/-- What a growing row leaves alone. -/
theorem away_grown {b : Nat} {t : TypeId} {W W' : World} {row : Option Nat} (hg : W.grownBy W' row) (hr : ∀ r, row = some r → ∃ c, W.heap[r]? = some (.cells c t)) : On (Away b t W) W W' :=
  ⟨hg.size, fun k hk hl => hg.block k hl (fun e => by obtain ⟨c, hc⟩ := hr k e.symm; exact hk.2 c hc)⟩
theorem away_alloc {b : Nat} {t : TypeId} {W : World} (o : Obj) : On (Away b t W) W (W.alloc o) := (On.refl _ _).alloc o
theorem On.away_trans {b : Nat} {t : TypeId} {A B C : World} (h : On (Away b t A) A B) (k : On (Away b t B) B C) : On (Away b t A) A C :=
  ⟨Nat.le_trans h.size k.size, fun i hi hl => by
    have e1 := h.block i hi hl
    exact (k.block i ⟨hi.1, fun c hc => hi.2 c (by rw [← e1]; exact hc)⟩ (Nat.lt_of_lt_of_le hl h.size)).trans e1⟩
end Go.Proofs.Ythnlppbfmmiioaa
