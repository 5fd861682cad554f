/- A brain of the call's own, as a deed finds it and leaves it. -/
import Derived.Test.YthnigndpibgibaaDoorCf3
namespace Go.Proofs.YthnigndpibgibaaDoor
open Go.RowKit Go.Shelf

structure BrainV where
  f : Nat → Int
  g : Nat → Bool
  M : List Int
  I : List IntentV
  K : List KeptV
/-- A block of the call's own holds a brain, whose rows are the call's own too. -/
structure BO (base : World) (b : Nat) (B : BrainV) (mv iv kv : Value) (W : World) : Prop where
  box : BB W b (brT B.f B.g mv iv kv)
  hb : base.heap.size ≤ b
  rm : TRow 3 1 encI W mv B.M
  ri : OwnN W base.heap.size iv B.I
  rk : OwnK W base.heap.size kv B.K
  bel : Below base.heap.size base W
/-- What a deed leaves alone. -/
structure KeepsX (b : Nat) (W W' : World) : Prop where
  size : W.heap.size ≤ W'.heap.size
  block : ∀ (k : Nat) (c : Array Value) (t : TypeId), W.heap[k]? = some (.cells c t) → k ≠ b → t ≠ 41 → t ≠ 43 → W'.heap[k]? = some (.cells c t)
  others : KeepsOthers W W'
theorem KeepsX.refl (b : Nat) (W : World) : KeepsX b W W := ⟨Nat.le_refl _, fun _ _ _ h _ _ _ => h, KeepsOthers.refl _⟩
theorem KeepsX.trans {b : Nat} {W V U : World} (h : KeepsX b W V) (k : KeepsX b V U) : KeepsX b W U :=
  ⟨Nat.le_trans h.size k.size, fun i c t hi h1 h2 h3 => k.block i c t (h.block i c t hi h1 h2 h3) h1 h2 h3, h.others.trans k.others⟩
theorem KeepsX.below {b : Nat} {W V : World} (h : Below W.heap.size W V) : KeepsX b W V := ⟨h.size, fun _ _ _ hi _ _ _ => blk_below hi h (blk_lt hi), keeps_below h⟩
theorem KeepsX.set {b : Nat} {W V : World} (h : KeepsX b W V) (j : Nat) (u : Value) : KeepsX b W (V.setCell ⟨b, j, none⟩ u) :=
  ⟨by simpa [World.setCell] using h.size, fun k c t hk h1 h2 h3 => blk_other (h.block k c t hk h1 h2 h3) (p := ⟨b, j, none⟩) h1 u, keeps_set h.others _ _⟩
theorem KeepsX.drew {b : Nat} {W V : World} (h : KeepsX b W V) (n : Nat) : KeepsX b W (V.drewN n) := h.trans (KeepsX.below (below_drewN (Below.refl _ _) n))
theorem KeepsX.drew1 {b : Nat} {W V : World} (h : KeepsX b W V) : KeepsX b W V.drew := h.drew 1
section
variable {base : World} {b : Nat} {B : BrainV} {mv iv kv : Value} {W W' : World}
theorem BO.below (h : BO base b B mv iv kv W) (hb : Below W.heap.size W W') : BO base b B mv iv kv W' :=
  ⟨h.box.below hb (blk_lt h.box), h.hb, h.rm.kept (KeptT.below hb), h.ri.below hb, h.rk.below hb, h.bel.trans (hb.mono h.bel.size)⟩
theorem BO.drew (h : BO base b B mv iv kv W) (n : Nat) : BO base b B mv iv kv (W.drewN n) := h.below (below_drewN (Below.refl _ _) n)
theorem BO.drew1 (h : BO base b B mv iv kv W) : BO base b B mv iv kv W.drew := h.drew 1
theorem BO.cell (h : BO base b B mv iv kv W) (j : Nat) (v : Value) (hv : (brT B.f B.g mv iv kv)[j]? = some v) : W.cell? ⟨b, j, none⟩ = some v := (blk_cell h.box j).trans hv
theorem BO.free (h : BO base b B mv iv kv W) (j : Nat) : W.frozen? ⟨b, j, none⟩ = false := blk_free h.box j
theorem BO.lt (h : BO base b B mv iv kv W) : b < W.heap.size := blk_lt h.box
theorem BO.set (h : BO base b B mv iv kv W) (j : Nat) (u : Value) {f' : Nat → Int} {g' : Nat → Bool} (hc : (brT B.f B.g mv iv kv).setIfInBounds j u = brT f' g' mv iv kv) :
    BO base b ⟨f', g', B.M, B.I, B.K⟩ mv iv kv (W.setCell ⟨b, j, none⟩ u) := by
  refine ⟨?_, h.hb, ?_, owns_at h.ri h.box (by decide) j u, owns_at h.rk h.box (by decide) j u, h.bel.setCell (p := ⟨b, j, none⟩) h.hb _⟩
  · have := blk_set h.box j u
    rw [hc] at this
    exact this
  · exact h.rm.kept (KeptT.set (p := ⟨b, j, none⟩) h.box (by decide) u)
end
/-- What a deed ends with. -/
def DeedEnd (base : World) (b : Nat) (W : World) (B : BrainV) (e : Ending) (W' : World) : Prop :=
  e = .returned (.tuple #[]) ∧ (∃ mv iv kv, BO base b B mv iv kv W') ∧ KeepsX b W W'

/-- A boot. -/
def bootB (B : BrainV) : BrainV := if B.f 0 < 1099511627776 then { B with f := upd B.f 0 (wrap64 (B.f 0 + 1)) } else B
/-- A refresh that begins. -/
def startB (B : BrainV) (t s : Int) : BrainV :=
  if B.g 2 = true ∧ B.f 20 ≠ 1 ∧ 1 ≤ t then { B with f := upd (upd (upd (upd (upd (upd B.f 20 1) 21 (B.f 15)) 22 t) 23 0) 25 s) 26 0, g := upd B.g 24 false } else B
def cancelB (B : BrainV) : BrainV := { B with f := upd B.f 20 3, g := upd B.g 24 false }
def rollB (B : BrainV) : BrainV := { B with f := upd B.f 22 (B.f 21) }
def pauseB (B : BrainV) (s : Int) : BrainV := if B.g 24 = true then B else { B with f := upd B.f 25 s, g := upd B.g 24 true }
def goB (B : BrainV) : BrainV := if B.g 24 = true then { B with f := upd B.f 23 (wrap64 (B.f 23 + 1)), g := upd B.g 24 false } else B
def doneB (B : BrainV) : BrainV := { B with f := upd (upd B.f 20 2) 15 (B.f 22), g := upd B.g 24 false }
def failB (B : BrainV) : BrainV :=
  if B.f 13 ≤ wrap64 (B.f 26 + 1) then { B with f := upd (upd (upd B.f 26 (wrap64 (B.f 26 + 1))) 22 (B.f 21)) 26 0 } else { B with f := upd B.f 26 (wrap64 (B.f 26 + 1)) }

end Go.Proofs.YthnigndpibgibaaDoor
