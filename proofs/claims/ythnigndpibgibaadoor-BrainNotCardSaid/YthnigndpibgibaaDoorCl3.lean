/- slices.Clone of numbers, of Intents, of Kept. Printed by gn_cl3.py. -/
import Derived.Test.YthnigndpibgibaaDoorBrA
namespace Go.Proofs.YthnigndpibgibaaDoor
open Go.RowKit Go.Shelf

theorem encI_len (x : Int) : (encI x).length = 1 := rfl
theorem encI_one (x : Int) : ∀ u ∈ encI x, u.oneCell' = true := by
  intro u hu
  simp only [encI, List.mem_cons, List.mem_nil_iff, or_false] at hu
  rcases hu with rfl; rfl
theorem encIn_one (x : IntentV) : ∀ u ∈ encIn x, u.oneCell' = true := by
  intro u hu
  simp only [encIn, List.mem_cons, List.mem_nil_iff, or_false] at hu
  rcases hu with rfl | rfl | rfl | rfl <;> rfl
theorem encKp_one (x : KeptV) : ∀ u ∈ encKp x, u.oneCell' = true := by
  intro u hu
  simp only [encKp, List.mem_cons, List.mem_nil_iff, or_false] at hu
  rcases hu with rfl | rfl | rfl | rfl | rfl | rfl | rfl | rfl <;> rfl
theorem infoI : (Tryd.prog.info? 3).map (fun i => (i.zero, i.size, i.bytes)) = some (some (.int .i64 0), 1, 8) := by kernel_rfl
theorem infoIn : (Tryd.prog.info? 41).map (fun i => (i.zero, i.size, i.bytes)) = some (some (.agg #[.int .i64 0, .int .i64 0, .int .i64 0, .bool false]), 4, 32) := by kernel_rfl
theorem infoKp : (Tryd.prog.info? 43).map (fun i => (i.zero, i.size, i.bytes)) = some (some (.agg #[.int .i64 0, .int .i64 0, .int .i64 0, .int .i64 0, .int .u8 0, .int .i64 0, .bool false, .bool false]), 8, 56) := by kernel_rfl
abbrev OwnI (w : World) (base : Nat) (v : Value) (l : List Int) : Prop := Owns 1 3 encI w base v l
abbrev OwnN (w : World) (base : Nat) (v : Value) (l : List IntentV) : Prop := Owns 4 41 encIn w base v l
abbrev OwnK (w : World) (base : Nat) (v : Value) (l : List KeptV) : Prop := Owns 8 43 encKp w base v l

set_option maxHeartbeats 400000 in
theorem cloneI_any (s : Value) (L : List Int) (w : World) (hn : L.length ≤ 1000000) (hs : RowOf 1 encI w s L) :
    Calls Tryd.prog 34 #[s] w fun e w' => ∃ v, e = .returned v ∧ OwnI w' w.heap.size v L ∧ Below w.heap.size w w' := by
  obtain ⟨i0, hi, hz0, hz1, hz2⟩ := info_parts infoI
  rcases hs.open with ⟨a, c, rfl, hl1, hl2, hl3, hop⟩
  have HS := hid hs
  have he0 : ∀ w, (binOp .eql 22 (.slice none 0 0) (.slice none 0 0)).run Tryd.prog w = .ok (.bool true) w := fun w => by kernel_rfl
  have he1 : ∀ ad n c w, (binOp .eql 22 (.slice (some ad) n c) (.slice none 0 0)).run Tryd.prog w = .ok (.bool false) w := fun ad n c w => by kernel_rfl
  cases a with
  | none =>
    rcases hs with ⟨a', c', he, rfl, hac, _⟩ | ⟨_, b, off, c', he, _⟩
    · cases he
      obtain rfl := hac rfl
      go_enter Tryd.func34, Tryd.ntmps34
      go_wp2
      go_ret
      exact ⟨_, rfl, Owns.nil _ _, Below.refl _ _⟩
    · cases he
  | some ad =>
    clear hs hop
    have c1 : ([] : List Int).length + L.length ≤ maxLen := by unfold maxLen; simp; omega
    have c2 : (([] : List Int).length + L.length) * 8 ≤ 140737488355328 := by simp; omega
    go_enter Tryd.func34, Tryd.ntmps34
    go_wp2_with (at_builtin; go_loud (refine append_rows rfl _ _ 22 rfl w.heap.size 3 i0 _ 8 Tryd.underlying22 hi hz0 hz1 hz2 rfl (by decide) encI_len encI_one _ [] rfl (World.ownsRow_made w #[] 0 (Nat.le_refl _) (by decide) rfl) _ L rfl (HS.out.below ((Below.refl _ _).alloc (Nat.le_refl _) _)) c1 c2 (by simp) ?_); intro v' w1 hown hgrow)
    go_ret
    exact ⟨v', rfl, by simpa using hown, ((Below.refl _ _).alloc (Nat.le_refl _) _).grown hgrow (by simp) (fun k e => by
      have e' : some k = some w.heap.size := e.symm.trans rfl
      cases e'; exact Nat.le_refl _)⟩

set_option maxHeartbeats 400000 in
theorem cloneN_any (s : Value) (L : List IntentV) (w : World) (hn : L.length ≤ 1000000) (hs : RowOf 4 encIn w s L) :
    Calls Tryd.prog 35 #[s] w fun e w' => ∃ v, e = .returned v ∧ OwnN w' w.heap.size v L ∧ Below w.heap.size w w' := by
  obtain ⟨i0, hi, hz0, hz1, hz2⟩ := info_parts infoIn
  rcases hs.open with ⟨a, c, rfl, hl1, hl2, hl3, hop⟩
  have HS := hid hs
  have he0 : ∀ w, (binOp .eql 25 (.slice none 0 0) (.slice none 0 0)).run Tryd.prog w = .ok (.bool true) w := fun w => by kernel_rfl
  have he1 : ∀ ad n c w, (binOp .eql 25 (.slice (some ad) n c) (.slice none 0 0)).run Tryd.prog w = .ok (.bool false) w := fun ad n c w => by kernel_rfl
  cases a with
  | none =>
    rcases hs with ⟨a', c', he, rfl, hac, _⟩ | ⟨_, b, off, c', he, _⟩
    · cases he
      obtain rfl := hac rfl
      go_enter Tryd.func35, Tryd.ntmps35
      go_wp2
      go_ret
      exact ⟨_, rfl, Owns.nil _ _, Below.refl _ _⟩
    · cases he
  | some ad =>
    clear hs hop
    have c1 : ([] : List IntentV).length + L.length ≤ maxLen := by unfold maxLen; simp; omega
    have c2 : (([] : List IntentV).length + L.length) * 32 ≤ 140737488355328 := by simp; omega
    go_enter Tryd.func35, Tryd.ntmps35
    go_wp2_with (at_builtin; go_loud (refine append_rows rfl _ _ 25 rfl w.heap.size 41 i0 _ 32 Tryd.underlying25 hi hz0 hz1 hz2 rfl (by decide) encIn_len encIn_one _ [] rfl (World.ownsRow_made w #[] 0 (Nat.le_refl _) (by decide) rfl) _ L rfl (HS.out.below ((Below.refl _ _).alloc (Nat.le_refl _) _)) c1 c2 (by simp) ?_); intro v' w1 hown hgrow)
    go_ret
    exact ⟨v', rfl, by simpa using hown, ((Below.refl _ _).alloc (Nat.le_refl _) _).grown hgrow (by simp) (fun k e => by
      have e' : some k = some w.heap.size := e.symm.trans rfl
      cases e'; exact Nat.le_refl _)⟩

set_option maxHeartbeats 400000 in
theorem cloneK_any (s : Value) (L : List KeptV) (w : World) (hn : L.length ≤ 1000000) (hs : RowOf 8 encKp w s L) :
    Calls Tryd.prog 36 #[s] w fun e w' => ∃ v, e = .returned v ∧ OwnK w' w.heap.size v L ∧ Below w.heap.size w w' := by
  obtain ⟨i0, hi, hz0, hz1, hz2⟩ := info_parts infoKp
  rcases hs.open with ⟨a, c, rfl, hl1, hl2, hl3, hop⟩
  have HS := hid hs
  have he0 : ∀ w, (binOp .eql 26 (.slice none 0 0) (.slice none 0 0)).run Tryd.prog w = .ok (.bool true) w := fun w => by kernel_rfl
  have he1 : ∀ ad n c w, (binOp .eql 26 (.slice (some ad) n c) (.slice none 0 0)).run Tryd.prog w = .ok (.bool false) w := fun ad n c w => by kernel_rfl
  cases a with
  | none =>
    rcases hs with ⟨a', c', he, rfl, hac, _⟩ | ⟨_, b, off, c', he, _⟩
    · cases he
      obtain rfl := hac rfl
      go_enter Tryd.func36, Tryd.ntmps36
      go_wp2
      go_ret
      exact ⟨_, rfl, Owns.nil _ _, Below.refl _ _⟩
    · cases he
  | some ad =>
    clear hs hop
    have c1 : ([] : List KeptV).length + L.length ≤ maxLen := by unfold maxLen; simp; omega
    have c2 : (([] : List KeptV).length + L.length) * 56 ≤ 140737488355328 := by simp; omega
    go_enter Tryd.func36, Tryd.ntmps36
    go_wp2_with (at_builtin; go_loud (refine append_rows rfl _ _ 26 rfl w.heap.size 43 i0 _ 56 Tryd.underlying26 hi hz0 hz1 hz2 rfl (by decide) encKp_len encKp_one _ [] rfl (World.ownsRow_made w #[] 0 (Nat.le_refl _) (by decide) rfl) _ L rfl (HS.out.below ((Below.refl _ _).alloc (Nat.le_refl _) _)) c1 c2 (by simp) ?_); intro v' w1 hown hgrow)
    go_ret
    exact ⟨v', rfl, by simpa using hown, ((Below.refl _ _).alloc (Nat.le_refl _) _).grown hgrow (by simp) (fun k e => by
      have e' : some k = some w.heap.size := e.symm.trans rfl
      cases e'; exact Nat.le_refl _)⟩
end Go.Proofs.YthnigndpibgibaaDoor
