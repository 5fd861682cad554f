/- The card of DutyDrop. -/
import Derived.Test.YtljmhmdpihpafaaDoorPrDrop
import Derived.Test.YtljmhmdpihpafaaDoorCards
import Derived.Test.YtljmhmdpihpafaaDoorTie
import Derived.SevenTiedAt
namespace Go.Proofs.YtljmhmdpihpafaaDoor
open Go

theorem dutyDropCard_holds : Rows.DutyDropCardSaid :=
  Claim7.holds_tied_plain_at .later [] [.mapped] true (true, "641f09d3c063d3a382170d8bb59056b04764d162a4d6b2d807745d2e53f64eaf") true
    dutyDrop_holds (fun _ h => by cases h) (by kernel_rfl) (fun _ h => by cases h) dutyDrop_row_tie rfl ⟨rfl, rfl⟩ (by kernel_rfl) rfl
    (fun f fn hf hfn => by
      obtain rfl : f = 5 := Option.some.inj ((show Tryd.prog.funcNamed "herd/herdlaw20.DutyDrop" = some 5 by kernel_rfl).symm.trans hf) |>.symm
      obtain rfl : fn = Tryd.f5 := (Option.some.inj (Tryd.func5.symm.trans hfn)).symm
      exact ⟨by kernel_rfl, fun j t ht => by
        rw [Tryd.params5] at ht
        have h3 : t = 30 ∨ t = 33 := by
          rcases j with _ | _ | j
          · exact .inl (by simpa using ht.symm)
          · exact .inr (by simpa using ht.symm)
          · simp at ht
        rcases h3 with rfl | rfl
        · exact (show Tryd.prog.wantsStandIn 30 = false by kernel_rfl)
        · exact (show Tryd.prog.wantsStandIn 33 = false by kernel_rfl)⟩)
    (by kernel_rfl)
#print axioms dutyDropCard_holds
end Go.Proofs.YtljmhmdpihpafaaDoor
