import Derived.Test.YthhgpiolcnojfaaGreatDoorHsm
import Derived.Test.YthhgpiolcnojfaaGreatDoorRfm
import Derived.Deep.Cut
/- herdref22.Says, Heard: what an answer says, by definition. -/
namespace Go.Proofs.YthhgpiolcnojfaaGreatDoor
open Go.RowKit Go.Shelf

theorem SEnd.ret {k : Int} {l : List Int} {w w' : World} {e : Ending} (h : SEnd (some (k, l)) w e w') : ∃ va vn vc, e = .returned (.tuple #[.agg #[.int .u8 k, .slice va vn vc], .bool true]) ∧ OwnI w' w.heap.size (.slice va vn vc) l ∧ Below w.heap.size w w' := by
 rcases h with ⟨h, _⟩ | ⟨k', l', v, h, rfl, ho, hb⟩
 ·cases h
 ·cases h
  obtain ⟨va, vn, vc, rfl⟩ := ho.shape
  exact ⟨va, vn, vc, rfl, ho, hb⟩
end Go.Proofs.YthhgpiolcnojfaaGreatDoor
