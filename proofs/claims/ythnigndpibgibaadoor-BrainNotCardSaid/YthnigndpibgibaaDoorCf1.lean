/- conf.fields goes over a group's numbers. -/
import Derived.Test.YthnigndpibgibaaDoorCf0
import Derived.Test.YthnigndpibgibaaDoorItg
namespace Go.Proofs.YthnigndpibgibaaDoor
open Go.RowKit Go.Shelf
attribute [local go_sem] Oper.semAt_some

def itemF (Bc : Nat) (x : Fin 13) : Array Value := #[.int .i64 (x.val : Nat), .pointer (some ⟨Bc, x.val, none⟩)]
theorem fin13 (k : Nat) (hk : k < 13) : (List.finRange 13)[k]? = some ⟨k, hk⟩ := by simp [hk]

theorem idx13 (Bc : Nat) (k : Nat) (w : World) (hk : k < 13) : (Instr.index 107 (.agg #[.pointer (some ⟨Bc, 0, none⟩), .pointer (some ⟨Bc, 1, none⟩), .pointer (some ⟨Bc, 2, none⟩), .pointer (some ⟨Bc, 3, none⟩), .pointer (some ⟨Bc, 4, none⟩), .pointer (some ⟨Bc, 5, none⟩), .pointer (some ⟨Bc, 6, none⟩), .pointer (some ⟨Bc, 7, none⟩), .pointer (some ⟨Bc, 8, none⟩), .pointer (some ⟨Bc, 9, none⟩), .pointer (some ⟨Bc, 10, none⟩), .pointer (some ⟨Bc, 11, none⟩), .pointer (some ⟨Bc, 12, none⟩)]) (.int .i64 k)).run Tryd.prog w = .ok (.pointer (some ⟨Bc, k, none⟩)) w := by
  have h0 : (Instr.index 107 (.agg #[.pointer (some ⟨Bc, 0, none⟩), .pointer (some ⟨Bc, 1, none⟩), .pointer (some ⟨Bc, 2, none⟩), .pointer (some ⟨Bc, 3, none⟩), .pointer (some ⟨Bc, 4, none⟩), .pointer (some ⟨Bc, 5, none⟩), .pointer (some ⟨Bc, 6, none⟩), .pointer (some ⟨Bc, 7, none⟩), .pointer (some ⟨Bc, 8, none⟩), .pointer (some ⟨Bc, 9, none⟩), .pointer (some ⟨Bc, 10, none⟩), .pointer (some ⟨Bc, 11, none⟩), .pointer (some ⟨Bc, 12, none⟩)]) (.int .i64 0)).run Tryd.prog w = .ok (.pointer (some ⟨Bc, 0, none⟩)) w := by kernel_rfl
  have h1 : (Instr.index 107 (.agg #[.pointer (some ⟨Bc, 0, none⟩), .pointer (some ⟨Bc, 1, none⟩), .pointer (some ⟨Bc, 2, none⟩), .pointer (some ⟨Bc, 3, none⟩), .pointer (some ⟨Bc, 4, none⟩), .pointer (some ⟨Bc, 5, none⟩), .pointer (some ⟨Bc, 6, none⟩), .pointer (some ⟨Bc, 7, none⟩), .pointer (some ⟨Bc, 8, none⟩), .pointer (some ⟨Bc, 9, none⟩), .pointer (some ⟨Bc, 10, none⟩), .pointer (some ⟨Bc, 11, none⟩), .pointer (some ⟨Bc, 12, none⟩)]) (.int .i64 1)).run Tryd.prog w = .ok (.pointer (some ⟨Bc, 1, none⟩)) w := by kernel_rfl
  have h2 : (Instr.index 107 (.agg #[.pointer (some ⟨Bc, 0, none⟩), .pointer (some ⟨Bc, 1, none⟩), .pointer (some ⟨Bc, 2, none⟩), .pointer (some ⟨Bc, 3, none⟩), .pointer (some ⟨Bc, 4, none⟩), .pointer (some ⟨Bc, 5, none⟩), .pointer (some ⟨Bc, 6, none⟩), .pointer (some ⟨Bc, 7, none⟩), .pointer (some ⟨Bc, 8, none⟩), .pointer (some ⟨Bc, 9, none⟩), .pointer (some ⟨Bc, 10, none⟩), .pointer (some ⟨Bc, 11, none⟩), .pointer (some ⟨Bc, 12, none⟩)]) (.int .i64 2)).run Tryd.prog w = .ok (.pointer (some ⟨Bc, 2, none⟩)) w := by kernel_rfl
  have h3 : (Instr.index 107 (.agg #[.pointer (some ⟨Bc, 0, none⟩), .pointer (some ⟨Bc, 1, none⟩), .pointer (some ⟨Bc, 2, none⟩), .pointer (some ⟨Bc, 3, none⟩), .pointer (some ⟨Bc, 4, none⟩), .pointer (some ⟨Bc, 5, none⟩), .pointer (some ⟨Bc, 6, none⟩), .pointer (some ⟨Bc, 7, none⟩), .pointer (some ⟨Bc, 8, none⟩), .pointer (some ⟨Bc, 9, none⟩), .pointer (some ⟨Bc, 10, none⟩), .pointer (some ⟨Bc, 11, none⟩), .pointer (some ⟨Bc, 12, none⟩)]) (.int .i64 3)).run Tryd.prog w = .ok (.pointer (some ⟨Bc, 3, none⟩)) w := by kernel_rfl
  have h4 : (Instr.index 107 (.agg #[.pointer (some ⟨Bc, 0, none⟩), .pointer (some ⟨Bc, 1, none⟩), .pointer (some ⟨Bc, 2, none⟩), .pointer (some ⟨Bc, 3, none⟩), .pointer (some ⟨Bc, 4, none⟩), .pointer (some ⟨Bc, 5, none⟩), .pointer (some ⟨Bc, 6, none⟩), .pointer (some ⟨Bc, 7, none⟩), .pointer (some ⟨Bc, 8, none⟩), .pointer (some ⟨Bc, 9, none⟩), .pointer (some ⟨Bc, 10, none⟩), .pointer (some ⟨Bc, 11, none⟩), .pointer (some ⟨Bc, 12, none⟩)]) (.int .i64 4)).run Tryd.prog w = .ok (.pointer (some ⟨Bc, 4, none⟩)) w := by kernel_rfl
  have h5 : (Instr.index 107 (.agg #[.pointer (some ⟨Bc, 0, none⟩), .pointer (some ⟨Bc, 1, none⟩), .pointer (some ⟨Bc, 2, none⟩), .pointer (some ⟨Bc, 3, none⟩), .pointer (some ⟨Bc, 4, none⟩), .pointer (some ⟨Bc, 5, none⟩), .pointer (some ⟨Bc, 6, none⟩), .pointer (some ⟨Bc, 7, none⟩), .pointer (some ⟨Bc, 8, none⟩), .pointer (some ⟨Bc, 9, none⟩), .pointer (some ⟨Bc, 10, none⟩), .pointer (some ⟨Bc, 11, none⟩), .pointer (some ⟨Bc, 12, none⟩)]) (.int .i64 5)).run Tryd.prog w = .ok (.pointer (some ⟨Bc, 5, none⟩)) w := by kernel_rfl
  have h6 : (Instr.index 107 (.agg #[.pointer (some ⟨Bc, 0, none⟩), .pointer (some ⟨Bc, 1, none⟩), .pointer (some ⟨Bc, 2, none⟩), .pointer (some ⟨Bc, 3, none⟩), .pointer (some ⟨Bc, 4, none⟩), .pointer (some ⟨Bc, 5, none⟩), .pointer (some ⟨Bc, 6, none⟩), .pointer (some ⟨Bc, 7, none⟩), .pointer (some ⟨Bc, 8, none⟩), .pointer (some ⟨Bc, 9, none⟩), .pointer (some ⟨Bc, 10, none⟩), .pointer (some ⟨Bc, 11, none⟩), .pointer (some ⟨Bc, 12, none⟩)]) (.int .i64 6)).run Tryd.prog w = .ok (.pointer (some ⟨Bc, 6, none⟩)) w := by kernel_rfl
  have h7 : (Instr.index 107 (.agg #[.pointer (some ⟨Bc, 0, none⟩), .pointer (some ⟨Bc, 1, none⟩), .pointer (some ⟨Bc, 2, none⟩), .pointer (some ⟨Bc, 3, none⟩), .pointer (some ⟨Bc, 4, none⟩), .pointer (some ⟨Bc, 5, none⟩), .pointer (some ⟨Bc, 6, none⟩), .pointer (some ⟨Bc, 7, none⟩), .pointer (some ⟨Bc, 8, none⟩), .pointer (some ⟨Bc, 9, none⟩), .pointer (some ⟨Bc, 10, none⟩), .pointer (some ⟨Bc, 11, none⟩), .pointer (some ⟨Bc, 12, none⟩)]) (.int .i64 7)).run Tryd.prog w = .ok (.pointer (some ⟨Bc, 7, none⟩)) w := by kernel_rfl
  have h8 : (Instr.index 107 (.agg #[.pointer (some ⟨Bc, 0, none⟩), .pointer (some ⟨Bc, 1, none⟩), .pointer (some ⟨Bc, 2, none⟩), .pointer (some ⟨Bc, 3, none⟩), .pointer (some ⟨Bc, 4, none⟩), .pointer (some ⟨Bc, 5, none⟩), .pointer (some ⟨Bc, 6, none⟩), .pointer (some ⟨Bc, 7, none⟩), .pointer (some ⟨Bc, 8, none⟩), .pointer (some ⟨Bc, 9, none⟩), .pointer (some ⟨Bc, 10, none⟩), .pointer (some ⟨Bc, 11, none⟩), .pointer (some ⟨Bc, 12, none⟩)]) (.int .i64 8)).run Tryd.prog w = .ok (.pointer (some ⟨Bc, 8, none⟩)) w := by kernel_rfl
  have h9 : (Instr.index 107 (.agg #[.pointer (some ⟨Bc, 0, none⟩), .pointer (some ⟨Bc, 1, none⟩), .pointer (some ⟨Bc, 2, none⟩), .pointer (some ⟨Bc, 3, none⟩), .pointer (some ⟨Bc, 4, none⟩), .pointer (some ⟨Bc, 5, none⟩), .pointer (some ⟨Bc, 6, none⟩), .pointer (some ⟨Bc, 7, none⟩), .pointer (some ⟨Bc, 8, none⟩), .pointer (some ⟨Bc, 9, none⟩), .pointer (some ⟨Bc, 10, none⟩), .pointer (some ⟨Bc, 11, none⟩), .pointer (some ⟨Bc, 12, none⟩)]) (.int .i64 9)).run Tryd.prog w = .ok (.pointer (some ⟨Bc, 9, none⟩)) w := by kernel_rfl
  have h10 : (Instr.index 107 (.agg #[.pointer (some ⟨Bc, 0, none⟩), .pointer (some ⟨Bc, 1, none⟩), .pointer (some ⟨Bc, 2, none⟩), .pointer (some ⟨Bc, 3, none⟩), .pointer (some ⟨Bc, 4, none⟩), .pointer (some ⟨Bc, 5, none⟩), .pointer (some ⟨Bc, 6, none⟩), .pointer (some ⟨Bc, 7, none⟩), .pointer (some ⟨Bc, 8, none⟩), .pointer (some ⟨Bc, 9, none⟩), .pointer (some ⟨Bc, 10, none⟩), .pointer (some ⟨Bc, 11, none⟩), .pointer (some ⟨Bc, 12, none⟩)]) (.int .i64 10)).run Tryd.prog w = .ok (.pointer (some ⟨Bc, 10, none⟩)) w := by kernel_rfl
  have h11 : (Instr.index 107 (.agg #[.pointer (some ⟨Bc, 0, none⟩), .pointer (some ⟨Bc, 1, none⟩), .pointer (some ⟨Bc, 2, none⟩), .pointer (some ⟨Bc, 3, none⟩), .pointer (some ⟨Bc, 4, none⟩), .pointer (some ⟨Bc, 5, none⟩), .pointer (some ⟨Bc, 6, none⟩), .pointer (some ⟨Bc, 7, none⟩), .pointer (some ⟨Bc, 8, none⟩), .pointer (some ⟨Bc, 9, none⟩), .pointer (some ⟨Bc, 10, none⟩), .pointer (some ⟨Bc, 11, none⟩), .pointer (some ⟨Bc, 12, none⟩)]) (.int .i64 11)).run Tryd.prog w = .ok (.pointer (some ⟨Bc, 11, none⟩)) w := by kernel_rfl
  have h12 : (Instr.index 107 (.agg #[.pointer (some ⟨Bc, 0, none⟩), .pointer (some ⟨Bc, 1, none⟩), .pointer (some ⟨Bc, 2, none⟩), .pointer (some ⟨Bc, 3, none⟩), .pointer (some ⟨Bc, 4, none⟩), .pointer (some ⟨Bc, 5, none⟩), .pointer (some ⟨Bc, 6, none⟩), .pointer (some ⟨Bc, 7, none⟩), .pointer (some ⟨Bc, 8, none⟩), .pointer (some ⟨Bc, 9, none⟩), .pointer (some ⟨Bc, 10, none⟩), .pointer (some ⟨Bc, 11, none⟩), .pointer (some ⟨Bc, 12, none⟩)]) (.int .i64 12)).run Tryd.prog w = .ok (.pointer (some ⟨Bc, 12, none⟩)) w := by kernel_rfl
  have h13 : k = 0 ∨ k = 1 ∨ k = 2 ∨ k = 3 ∨ k = 4 ∨ k = 5 ∨ k = 6 ∨ k = 7 ∨ k = 8 ∨ k = 9 ∨ k = 10 ∨ k = 11 ∨ k = 12 := by omega
  rcases h13 with rfl | rfl | rfl | rfl | rfl | rfl | rfl | rfl | rfl | rfl | rfl | rfl | rfl
  · exact h0
  · exact h1
  · exact h2
  · exact h3
  · exact h4
  · exact h5
  · exact h6
  · exact h7
  · exact h8
  · exact h9
  · exact h10
  · exact h11
  · exact h12

set_option maxRecDepth 100000 in
set_option maxHeartbeats 2000000 in
theorem fields1_in (n : Nat) (hn : 1 ≤ n) (l Bp Bc : Nat) (S : Nat → Prop) (J Jx : List (Fin 13) → World → Prop)
    (W : World) (hS : ∀ k, S k → k < W.heap.size) (hJ : AbidesFrom W.heap.size J)
    (hY : ∀ pre x W, J pre W → pre.length < 13 → YieldAt Fence.wide (n - 1) Tryd.prog l (itemF Bc x) W fun e W' =>
      (e = .returned (.bool true) ∧ J (pre ++ [x]) W' ∧ On S W W') ∨ (e = .returned (.bool false) ∧ Jx (pre ++ [x]) W'))
    (hBp : S Bp) (hp : W.cell? ⟨Bp, 0, none⟩ = some (.pointer (some ⟨Bc, 0, none⟩))) (h0 : J [] W) :
    CallsIn Fence.wide n Tryd.prog 64 #[.func (.yield l) #[] #[], .pointer (some ⟨Bp, 0, none⟩)] W fun e W' => (∃ v, e = .returned v) ∧
      ((∃ ys, ys = List.finRange 13 ∧ J ys W') ∨ (∃ pre, True ∧ Jx pre W')) := by
  have HY := hid hY
  clear hY
  have hlt := hS Bp hBp
  have HIX := hid (idx13 Bc)
  refine callsIn_of_wp Tryd.func64 rfl trivial ?_ rfl
  simp only [Tryd.ntmps64, List.size_toArray, List.length_cons, List.length_nil, Nat.reduceAdd, Nat.reduceSub, Array.replicate_succ, Array.replicate_zero, List.push_toArray, List.append_toArray, List.nil_append, List.cons_append]
  gi_wp2
  gi_quiet_th (fail)
  gi_wp2
  gi_loopw [45] (fun i wr => ∃ k : Nat, k ≤ 13 ∧ i = .int .i64 k ∧ J ((List.finRange 13).take k) wr ∧ On S W wr) (fun i _ => 13 - (intOf i).toNat)
  case atStart => exact ⟨0, Nat.zero_le _, rfl, hJ _ _ _ none h0 (grown_of_below (below_drewN (Below.refl _ _) nq) none) (by simp), On.of_below (below_drewN (Below.refl _ _) nq) hS⟩
  case round =>
    obtain ⟨k, hk1, rfl, hJs, hB⟩ := hrel
    by_cases hk : k < 13
    · have hkI : (k : Int) < 13 := by omega
      obtain ⟨fn, tmps, assign, body, hy, hR⟩ := HY.out _ ⟨k, hk⟩ _ hJs (by simp; omega)
      dsimp only [itemF] at hy
      have hix := fun w => HIX.out k w hk
      have HR := hid hR
      clear hR
      gi_wp2
      refine HR.out.mono ?_
      rintro e W3 (⟨rfl, hJ3, hk3⟩ | ⟨rfl, hJx3⟩)
      · gi_wp2
        go_roundw
        case rel => exact ⟨k + 1, by omega, by simp, by rw [take_snoc _ k ⟨k, hk⟩ (fin13 k hk)]; exact hJ3, hB.trans hk3⟩
        case measure => simp [intOf]; omega
      · gi_wp2
        refine bodyPost_ret (results_none rfl _ _ _) rfl ?_
        exact ⟨⟨_, rfl⟩, .inr ⟨_, trivial, hJx3⟩⟩
    · obtain rfl : k = 13 := by omega
      have HJ := hid (show J (List.finRange 13) wr by rwa [List.take_of_length_le (by simp)] at hJs)
      clear hJs
      gi_wp2
      go_end0
      exact ⟨⟨_, rfl⟩, .inl ⟨_, rfl, HJ.out⟩⟩

/-- fields hands back a value that goes over a group's numbers, in order. -/
theorem fields_stops (n : Nat) (hn : 1 ≤ n) (Bp Bc : Nat) (S : Nat → Prop) (w : World) (hS : ∀ k, S k → k < w.heap.size) (hBp : S Bp) (hp : w.cell? ⟨Bp, 0, none⟩ = some (.pointer (some ⟨Bc, 0, none⟩))) :
    SeqStopsK Fence.wide n Tryd.prog 64 #[.pointer (some ⟨Bp, 0, none⟩)] (itemF Bc) (On S) (fun ys => ys = List.finRange 13) (fun _ => True) 13 w := by
  intro l J Jx W hW hJ _ hY h0
  have hO : On S w W := On.of_below hW hS
  exact fields1_in n hn l Bp Bc S J Jx W (fun k hk => Nat.lt_of_lt_of_le (hS k hk) hW.size) hJ hY hBp ((hO.cell _ hBp (hS _ hBp)).trans hp) h0

theorem fields_any (Bc : Nat) (w : World) :
    Calls Tryd.prog 53 #[.pointer (some ⟨Bc, 0, none⟩)] w fun e w' => e = .returned (.func (.func 64) #[] #[.pointer (some ⟨w.heap.size, 0, none⟩)]) ∧ w' = w.alloc (.cells #[.pointer (some ⟨Bc, 0, none⟩)] 88) := by
  have hmf := mkfunc
  go_enter Tryd.func53, Tryd.ntmps53
  go_wp2
  go_ret
  exact ⟨rfl, rfl⟩
end Go.Proofs.YthnigndpibgibaaDoor
