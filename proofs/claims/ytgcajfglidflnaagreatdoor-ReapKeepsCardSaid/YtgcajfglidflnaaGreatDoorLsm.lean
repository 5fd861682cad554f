import Derived.Test.YtgcajfglidflnaaGreatDoorWkr
import Derived.Test.YtgcajfglidflnaaGreatDoorRb7
/- What ReapStays, ReapStrays go by: a brain, a listing, in boxes; the brain behind what is said. -/
namespace Go.Proofs.YtgcajfglidflnaaGreatDoor
open Go.RowKit Go.Shelf

structure SrM (w : World) (B : BrainV) (bv : Array Value) (on : Bool) (frm beh : Int) (sa : Option Addr) (sc : Nat) (L : List SeenV) (W : World) : Prop where
 br : VarIs W w.heap.size B (.agg bv)
 scan : W.heap[w.heap.size + 1]? = some (.cells #[.bool on, .int .i64 frm, .int .i64 beh, .slice sa L.length sc] 39)
 rs : RowS W (.slice sa L.length sc) L
 bel : Below w.heap.size w W
section
variable {w W W' : World} {B : BrainV} {bv : Array Value} {on : Bool} {frm beh : Int} {sa : Option Addr} {sc : Nat} {L : List SeenV}
theorem SrM.below (h : SrM w B bv on frm beh sa sc L W) (hb : Below W.heap.size W W') : SrM w B bv on frm beh sa sc L W' :=
 ⟨h.br.below hb, blk_below h.scan hb (blk_lt h.scan), h.rs.below hb, h.bel.trans (hb.mono h.bel.size)⟩
theorem SrM.cells (h : SrM w B bv on frm beh sa sc L W) :
  W.cell? ⟨w.heap.size + 1, 0, none⟩ = some (.bool on) ∧ W.cell? ⟨w.heap.size + 1, 1, none⟩ = some (.int .i64 frm) ∧ W.cell? ⟨w.heap.size + 1, 2, none⟩ = some (.int .i64 beh) ∧ W.cell? ⟨w.heap.size + 1, 3, none⟩ = some (.slice sa L.length sc) ∧ w.heap.size + 1 < W.heap.size :=
 ⟨blk_cell h.scan 0, blk_cell h.scan 1, blk_cell h.scan 2, blk_cell h.scan 3, blk_lt h.scan⟩
end
/-- A variable's brain, its cells. -/
theorem VarIs.at {W : World} {T : Nat} {B : BrainV} {v : Value} (h : VarIs W T B v) : W.cell? ⟨T, 0, none⟩ = some (.int .i64 (B.f 0)) ∧ W.cell? ⟨T, 1, none⟩ = some (.int .i64 (B.f 1)) ∧ W.cell? ⟨T, 20, none⟩ = some (.int .u8 (B.f 20)) ∧ T < W.heap.size ∧
  ∃ ka kc, W.cell? ⟨T, 19, none⟩ = some (.slice ka B.K.length kc) ∧ RowOf 8 encKp W (.slice ka B.K.length kc) B.K := by
 obtain ⟨ma, mc, ia, ic, ka, kc, _, h0, _, _, h3⟩ := h.open
 exact ⟨blk_cell h0 0, blk_cell h0 1, blk_cell h0 20, blk_lt h0, ka, kc, blk_cell h0 19, h3⟩
theorem out_right {B : BrainV} (h : RightP B) (L : List SeenV) (frm now : Int) : RightP (outB B L frm now) := applyL_right _ h
theorem kind_len {r : RecP} (h : kindR r) : r.2.length ≤ 5 := by unfold kindR at h; omega
/-- herdref13.All of what is said. -/
theorem rall_told {B : BrainV} {v s : Value} {L : List SeenV} {frm now : Int} {w : World} (h : BrIs w B v) (hr : RecsL w (recordsL B L frm now) s) (hF : Fine B 40) (hM : B.M.length ≤ 100000) (hn : goodN now) (hL : L.length ≤ 60) :
  Calls Tryz.prog 12 #[v, s] w fun e w' => ∃ u, e = .returned u ∧ BrEnd w (outB B L frm now) u w' ∧ Below w.heap.size w w' := by
 obtain ⟨R, hR, hr⟩ := hr
 have hlen : R.length ≤ 100 := by
  have h1 := congrArg List.length hR
  have h2 := recordsL_len (B := B) (l := L) (frm := frm) (now := now)
  have h3 := hF.2.1
  rw [List.length_map] at h1
  omega
 have hk : ∀ x ∈ R, kindR (klR x) := fun x hx => recordsL_kind _ (by rw [← hR]; exact List.mem_map_of_mem hx)
 have := rall_is R 40 h hr hF (by omega) hM (fun x hx => by have := kind_len (hk x hx); unfold klR at this; dsimp only at this; omega) (fun x hx => hk x hx)
 rw [applyAll_L, hR, out_told hn] at this
 exact this
theorem great_is {B : BrainV} {v : Value} {w : World} (q : Bool) (hq : greatB B = q) (h : BrIs w B v) : Calls Tryz.prog 4 #[v] w fun e w' => e = .returned (.bool q) ∧ Below w.heap.size w w' := by
 obtain ⟨m1, i1, k1, rfl, q1, q2, q3⟩ := h
 exact rgreat_at B q hq m1 i1 k1 w q1 q2 q3
theorem great_small {B : BrainV} (h : greatB B = false) : B.I.length ≤ 40 ∧ B.K.length ≤ 40 ∧ B.M.length ≤ 40 := by
 unfold greatB at h
 simp at h
 omega
end Go.Proofs.YtgcajfglidflnaaGreatDoor
