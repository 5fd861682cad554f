/- herdlaw22.great. -/
import Derived.Test.YthhgpiolcnojfaaGreatDoorWh
namespace Go.Proofs.YthhgpiolcnojfaaGreatDoor
open Go.RowKit Go.Shelf
attribute [-go_sem] loadVar storeVar Instr.buildSlice
attribute [local go_sem] load_other store_other

/-- What great ends with. -/
def GrE (B : BrainV) (L : List CallV) (sn : Nat) (w : World) (e : Ending) (w' : World) : Prop :=
 ∃ q : Bool, e = .returned (.bool q) ∧ (q = false → B.K.length ≤ 40 ∧ B.I.length ≤ 40 ∧ L.length ≤ 60 ∧ sn ≤ 60) ∧ Below w.heap.size w w'
set_option maxRecDepth 100000 in
set_option maxHeartbeats 4000000 in
theorem hgreat_any (B : BrainV) (bv : Array Value) (ep nx c k d i : Int) (s : Value) (L : List CallV) (sa : Option Addr) (sn sc : Nat) (m : Bool) (w : World) (hB : BrIs w B (.agg bv)) (hs : Row12 w s L) :
  Calls Tryz.prog 7 #[.agg bv, calls ep nx s, tellT c k d i (.slice sa sn sc) m] w (GrE B L sn w) := by
 obtain ⟨va, vc, rfl, _⟩ := hs.open
 obtain ⟨mv, iv, kv, e, h1, h2, h3⟩ := hB
 obtain ⟨ia, ic, rfl, _⟩ := h2.open
 obtain ⟨ka, kc, rfl, _⟩ := h3.open
 obtain ⟨W1, hW1⟩ : ∃ W1, W1 = ((w.alloc (.cells bv 30)).alloc (.cells #[.int .i64 ep, .int .i64 nx, .slice va L.length vc] 33)).alloc (.cells #[.int .i64 c, .int .u8 k, .int .u8 d, .int .i64 i, .slice sa sn sc, .bool m] 36) := ⟨_, rfl⟩
 have hb1 : Below w.heap.size w W1 := by rw [hW1]; exact (((Below.refl _ _).alloc (Nat.le_refl _) _).alloc (by simp) _).alloc (by simp; omega) _
 have n0 : BB W1 w.heap.size bv := by rw [hW1]; exact blk_alloc (blk_alloc (heap_new _ _) _) _
 have hbc : BC bv (.slice ia B.I.length ic) (.slice ka B.K.length kc) := by cases e; exact brT_bc _ _ _ _ _
 obtain ⟨c18, c19, _, l0⟩ := n0.two hbc
 have HW1 := hid hW1
 have HB1 := hid hb1
 rw [hW1] at c18 c19 l0
 clear e h1 h2 h3 n0 hbc hb1 hW1 hs
 unfold calls tellT
 go_enter Tryz.func7, Tryz.ntmps7
 by_cases g1 : 40 < B.K.length
 ·have d1 : decide ((40 : Int) < (B.K.length : Int)) = true := decide_eq_true (by omega)
  go_wp2
  go_ret
  rw [← HW1.out]
  exact ⟨true, rfl, (fun h => by cases h), HB1.out⟩
 ·have d1 : decide ((40 : Int) < (B.K.length : Int)) = false := decide_eq_false (by omega)
  by_cases g2 : 40 < B.I.length
  ·have d2 : decide ((40 : Int) < (B.I.length : Int)) = true := decide_eq_true (by omega)
   go_wp2
   go_ret
   rw [← HW1.out]
   exact ⟨true, rfl, (fun h => by cases h), HB1.out⟩
  ·have d2 : decide ((40 : Int) < (B.I.length : Int)) = false := decide_eq_false (by omega)
   by_cases g3 : 60 < L.length
   ·have d3 : decide ((60 : Int) < (L.length : Int)) = true := decide_eq_true (by omega)
    go_wp2
    go_ret
    rw [← HW1.out]
    exact ⟨true, rfl, (fun h => by cases h), HB1.out⟩
   ·have d3 : decide ((60 : Int) < (L.length : Int)) = false := decide_eq_false (by omega)
    go_wp2
    go_ret
    rw [← HW1.out]
    refine ⟨_, rfl, (fun h => ⟨by omega, by omega, by omega, ?_⟩), HB1.out⟩
    have := of_decide_eq_false h
    omega
end Go.Proofs.YthhgpiolcnojfaaGreatDoor
