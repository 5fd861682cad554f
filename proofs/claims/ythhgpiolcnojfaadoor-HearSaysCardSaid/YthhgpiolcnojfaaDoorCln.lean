
/- A part of the proofs about open calls: contracts of functions, or plain facts that they want. -/
import Derived.Test.YthhgpiolcnojfaaDoorAow
import Derived.Test.YthhgpiolcnojfaaDoorRgt
namespace Go.Proofs.YthhgpiolcnojfaaDoor
open Go.RowKit Go.Shelf

theorem encC_len (x : CallV) : (encC x).length = 4 := rfl
theorem encC_one (x : CallV) : ∀ u ∈ encC x, u.oneCell' = true := by
  intro u hu
  simp only [encC, List.mem_cons, List.mem_nil_iff, or_false] at hu
  rcases hu with rfl | rfl | rfl | rfl <;> rfl

abbrev Own12 (w : World) (base : Nat) (v : Value) (l : List CallV) : Prop := Owns 4 23 encC w base v l

theorem infoC : (Tryd.prog.info? 23).map (fun i => (i.zero, i.size, i.bytes)) = some (some (.agg #[.int .i64 0, .int .u8 0, .int .i64 0, .int .i64 0]), 4, 32) := by kernel_rfl

set_option maxHeartbeats 400000 in
theorem clone_any (s : Value) (L : List CallV) (w : World) (hn : L.length ≤ 1000000) (hs : Row12 w s L) :
    Calls Tryd.prog 33 #[s] w fun e w' => ∃ v, e = .returned v ∧ Own12 w' w.heap.size v L ∧ Below w.heap.size w w' := by
  obtain ⟨i0, hi, hz0, hz1, hz2⟩ := info_parts infoC
  rcases hs.open with ⟨a, c, rfl, hl1, hl2, hl3, hop⟩
  have HS := hid hs
  have he0 : ∀ w, (binOp .eql 35 (.slice none 0 0) (.slice none 0 0)).run Tryd.prog w = .ok (.bool true) w := fun w => by kernel_rfl
  have he1 : ∀ ad n c w, (binOp .eql 35 (.slice (some ad) n c) (.slice none 0 0)).run Tryd.prog w = .ok (.bool false) w := fun ad n c w => by kernel_rfl
  cases a with
  | none =>
    rcases hs with ⟨a', c', he, rfl, hac, _⟩ | ⟨_, b, off, c', he, _⟩
    · cases he
      obtain rfl := hac rfl
      go_enter Tryd.func33, Tryd.ntmps33
      go_wp2
      go_ret
      exact ⟨_, rfl, Owns.nil _ _, Below.refl _ _⟩
    · cases he
  | some ad =>
    clear hs hop
    have c1 : ([] : List CallV).length + L.length ≤ maxLen := by unfold maxLen; simp; omega
    have c2 : (([] : List CallV).length + L.length) * 32 ≤ 140737488355328 := by simp; omega
    go_enter Tryd.func33, Tryd.ntmps33
    go_wp2_with (at_builtin; go_loud (refine append_rows rfl _ _ 35 rfl w.heap.size 23 i0 _ 32 Tryd.underlying35 hi hz0 hz1 hz2 rfl (by decide) encC_len encC_one _ [] rfl (World.ownsRow_made w #[] 0 (Nat.le_refl _) (by decide) rfl) _ L rfl (HS.out.below ((Below.refl _ _).alloc (Nat.le_refl _) _)) c1 c2 (by simp) ?_); intro v' w1 hown hgrow)
    go_ret
    exact ⟨v', rfl, by simpa using hown, ((Below.refl _ _).alloc (Nat.le_refl _) _).grown hgrow (by simp) (fun k e => by
      have e' : some k = some w.heap.size := e.symm.trans rfl
      cases e'; exact Nat.le_refl _)⟩
end Go.Proofs.YthhgpiolcnojfaaDoor
