/- herdref13.Great. -/
import Derived.Test.YthnigndpibgibaaDoorBz
namespace Go.Proofs.YthnigndpibgibaaDoor
open Go.RowKit Go.Shelf
attribute [-go_sem] loadVar
attribute [local go_sem] load_other

/-- A brain that is too great to be asked. -/
def greatB (B : BrainV) : Bool := decide ((40 : Int) < (B.I.length : Int)) || (decide ((40 : Int) < (B.K.length : Int)) || decide ((40 : Int) < (B.M.length : Int)))
set_option maxRecDepth 100000 in
set_option maxHeartbeats 1000000 in
theorem rgreat_any (B : BrainV) (mv iv kv : Value) (w : World) (hm : RowOf 1 encI w mv B.M) (hi : RowOf 4 encIn w iv B.I) (hk : RowOf 8 encKp w kv B.K) :
    Calls Tryd.prog 26 #[.agg (brT B.f B.g mv iv kv)] w fun e w' => e = .returned (.bool (greatB B)) ∧ Below w.heap.size w w' := by
  obtain ⟨ma, mc, rfl, _⟩ := hm.open
  obtain ⟨ia, ic, rfl, _⟩ := hi.open
  obtain ⟨ka, kc, rfl, _⟩ := hk.open
  obtain ⟨W1, hW1⟩ : ∃ W1, W1 = w.alloc (.cells (brT B.f B.g (.slice ma B.M.length mc) (.slice ia B.I.length ic) (.slice ka B.K.length kc)) 30) := ⟨_, rfl⟩
  have hb1 : Below w.heap.size w W1 := by rw [hW1]; exact (Below.refl _ _).alloc (Nat.le_refl _) _
  have b1 : BB W1 w.heap.size (brT B.f B.g (.slice ma B.M.length mc) (.slice ia B.I.length ic) (.slice ka B.K.length kc)) := by rw [hW1]; exact heap_new _ _
  have c17 : W1.cell? ⟨w.heap.size, 17, none⟩ = some (.slice ma B.M.length mc) := blk_cell b1 17
  have c18 : W1.cell? ⟨w.heap.size, 18, none⟩ = some (.slice ia B.I.length ic) := blk_cell b1 18
  have c19 : W1.cell? ⟨w.heap.size, 19, none⟩ = some (.slice ka B.K.length kc) := blk_cell b1 19
  have hl := blk_lt b1
  rw [hW1] at c17 c18 c19 hl hb1
  have HB := hid hb1
  clear hm hi hk hb1 b1 hW1
  obtain ⟨q1, h1⟩ : ∃ b, decide ((40 : Int) < (B.I.length : Int)) = b := ⟨_, rfl⟩
  obtain ⟨q2, h2⟩ : ∃ b, decide ((40 : Int) < (B.K.length : Int)) = b := ⟨_, rfl⟩
  obtain ⟨q3, h3⟩ : ∃ b, decide ((40 : Int) < (B.M.length : Int)) = b := ⟨_, rfl⟩
  unfold greatB
  rw [h1, h2, h3]
  cases q1 with
  | true =>
    go_enter Tryd.func26, Tryd.ntmps26
    go_wp2
    go_ret
    exact ⟨rfl, HB.out⟩
  | false =>
    cases q2 with
    | true =>
      go_enter Tryd.func26, Tryd.ntmps26
      go_wp2
      go_ret
      exact ⟨rfl, HB.out⟩
    | false =>
      go_enter Tryd.func26, Tryd.ntmps26
      go_wp2
      go_ret
      exact ⟨rfl, HB.out⟩
end Go.Proofs.YthnigndpibgibaaDoor
