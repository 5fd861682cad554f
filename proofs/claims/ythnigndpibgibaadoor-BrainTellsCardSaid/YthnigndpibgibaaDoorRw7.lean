/- herdlaw13.rec, herdlaw13.group; herdref07.Row of a group without marks. -/
import Derived.Test.YthnigndpibgibaaDoorCk7
import Derived.Test.YthnigndpibgibaaDoorRcm
import Derived.Test.YthnigndpibgibaaDoorGro
namespace Go.Proofs.YthnigndpibgibaaDoor
open Go.RowKit Go.Shelf

theorem res_rec {fn : Func} {tmps : Array Value} {r : Tmp} {b : Nat} {c0 c1 : Value} {W : World} (hres : fn.results = #[.cell r 37]) (h : tmps.getD r undef = .pointer (some ⟨b, 0, none⟩)) (hb : W.heap[b]? = some (.cells #[c0, c1] 37)) :
    (results fn tmps).run Tryd.prog W = .ok (.agg #[c0, c1]) W := by
  have k0 := blk_cell hb 0
  have k1 := blk_cell hb 1
  simp only [List.getElem?_toArray, List.getElem?_cons_succ, List.getElem?_cons_zero] at k0 k1
  rw [Array.getD_eq_getD_getElem?] at h
  simp [results, hres, go_sem, h, k0, k1]
set_option maxHeartbeats 400000 in
theorem rec_any (k : Int) (a : Option Addr) (n c : Nat) (w : World) : Calls Tryd.prog 28 #[.int .u8 k, .slice a n c] w fun e w' => e = .returned (recV k (.slice a n c)) ∧ Below w.heap.size w w' := by
  unfold recV
  go_enter Tryd.func28, Tryd.ntmps28
  go_wp2
  refine bodyPost_ret (res_rec (b := w.heap.size) rfl rfl (heap_new w _)) rfl ⟨rfl, (Below.refl _ _).alloc (Nat.le_refl _) _⟩
attribute [-go_sem] loadVar
attribute [local go_sem] load_other2
def fourteen (f : Nat → Int) : Array Value := #[.int .i64 (f 0), .int .i64 (f 1), .int .i64 (f 2), .int .i64 (f 3), .int .i64 (f 4), .int .i64 (f 5), .int .i64 (f 6), .int .i64 (f 7), .int .i64 (f 8), .int .i64 (f 9), .int .i64 (f 10), .int .i64 (f 11), .int .i64 (f 12), .int .i64 0]
set_option maxRecDepth 100000 in
set_option maxHeartbeats 1000000 in
theorem row7_any (f : Nat → Int) (hc : checkB f [] = true) (w : World) : Calls Tryd.prog 52 #[.agg (confA f false (.slice none 0 0))] w fun e w' => ∃ b, e = .returned (.tuple #[.slice (some ⟨b, 0, none⟩) 14 14, .int .i64 0]) ∧ w'.heap[b]? = some (.cells (fourteen f) 3) ∧ Below w.heap.size w w' := by
  obtain ⟨W1, hW1⟩ : ∃ W1, W1 = w.alloc (.cells (confA f false (.slice none 0 0)) 24) := ⟨_, rfl⟩
  have hb1 : Below w.heap.size w W1 := by rw [hW1]; exact (Below.refl _ _).alloc (Nat.le_refl _) _
  have n1 : W1.heap[w.heap.size]? = some (.cells (confA f false (.slice none 0 0)) 24) := by rw [hW1]; exact heap_new _ _
  have hck := check7_any f false (.slice none 0 0) [] W1 (.inl ⟨none, 0, rfl, rfl, fun _ => rfl, by decide⟩)
  rw [hc] at hck
  have HC := hid hck
  have HW1 := hid hW1
  have N1 := hid n1
  have HB1 := hid hb1
  have hld := load_conf n1
  clear hck hb1 n1 hc
  rw [hW1] at hld
  clear hW1
  go_enter Tryd.func52, Tryd.ntmps52
  go_wp2_with fail
  rw [← HW1.out]
  refine HC.out.mono ?_
  rintro e w1 ⟨rfl, hb⟩
  have nb := blk_below N1.out hb (blk_lt N1.out)
  have lw := blk_lt nb
  have k0 := blk_cell nb 0
  have k1 := blk_cell nb 1
  have k2 := blk_cell nb 2
  have k3 := blk_cell nb 3
  have k4 := blk_cell nb 4
  have k5 := blk_cell nb 5
  have k6 := blk_cell nb 6
  have k7 := blk_cell nb 7
  have k8 := blk_cell nb 8
  have k9 := blk_cell nb 9
  have k10 := blk_cell nb 10
  have k11 := blk_cell nb 11
  have k12 := blk_cell nb 12
  have k13 := blk_cell nb 13
  have k14 := blk_cell nb 14
  simp only [confA, List.getElem?_toArray, List.getElem?_cons_succ, List.getElem?_cons_zero] at k0 k1 k2 k3 k4 k5 k6 k7 k8 k9 k10 k11 k12 k13 k14
  have HB := hid hb
  clear hb nb hld
  simp only [okN, if_true]
  go_wp2
  go_ret2
  exact ⟨w1.heap.size, rfl, heap_new w1 _, ((HB1.out.trans (HB.out.mono HB1.out.size)).alloc (Nat.le_trans HB1.out.size HB.out.size) _)⟩
/-- The group of the laws. -/
def gF : Nat → Int := fun i => [2, 50, 1, 0, 0, 0, 0, 0, 3, 2, 2, 0, 4].getD i 0
theorem gF_check : checkB gF [] = true := by decide
set_option maxRecDepth 100000 in
set_option maxHeartbeats 400000 in
theorem group13_any (w : World) : Calls Tryd.prog 29 #[] w fun e w' => ∃ b, e = .returned (recV 2 (.slice (some ⟨b, 0, none⟩) 14 14)) ∧ w'.heap[b]? = some (.cells (fourteen gF) 3) ∧ Below w.heap.size w w' := by
  have HC := hid (fun V => row7_any gF gF_check V)
  obtain ⟨W1, hW1⟩ : ∃ W1, W1 = w.alloc (.cells #[.int .u8 0, .slice none 0 0] 37) := ⟨_, rfl⟩
  have hb1 : Below w.heap.size w W1 := by rw [hW1]; exact (Below.refl _ _).alloc (Nat.le_refl _) _
  have n1 : W1.heap[w.heap.size]? = some (.cells #[.int .u8 0, .slice none 0 0] 37) := by rw [hW1]; exact heap_new _ _
  have HW1 := hid hW1
  have N1 := hid n1
  have HB1 := hid hb1
  clear hb1 n1 hW1
  go_enter Tryd.func29, Tryd.ntmps29
  go_wp2_with fail
  rw [← HW1.out]
  refine (HC.out _).mono ?_
  rintro e y ⟨b, rfl, hq, hb⟩
  have nb := blk_below N1.out hb (blk_lt N1.out)
  have k0 := blk_cell nb 0
  have k1 := blk_cell nb 1
  have f0 := blk_free nb 0
  have f1 := blk_free nb 1
  have lw := blk_lt nb
  simp only [List.getElem?_toArray, List.getElem?_cons_succ, List.getElem?_cons_zero] at k0 k1
  have HQ := hid hq
  have HB := hid (HB1.out.trans (hb.mono HB1.out.size))
  have HN := hid nb
  clear hq hb nb
  go_wp2
  have hne : b ≠ w.heap.size := by
    rintro rfl
    have := HQ.out
    rw [HN.out] at this
    cases this
  refine bodyPost_ret (res_rec (b := w.heap.size) (c0 := .int .u8 2) (c1 := .slice (some ⟨b, 0, none⟩) 14 14) rfl rfl (blk_set (blk_set HN.out 0 _) 1 _)) rfl ?_
  exact ⟨b, rfl, blk_other (blk_other HQ.out (p := ⟨w.heap.size, 0, none⟩) hne _) (p := ⟨w.heap.size, 1, none⟩) hne _, (HB.out.setCell (p := ⟨w.heap.size, 0, none⟩) (Nat.le_refl _) _).setCell (p := ⟨w.heap.size, 1, none⟩) (Nat.le_refl _) _⟩
end Go.Proofs.YthnigndpibgibaaDoor
