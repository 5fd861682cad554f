/- The card of DutyOnce. -/
import Derived.Test.YtljmhmdpihpafaaDoorPrOnc
import Derived.Test.YtljmhmdpihpafaaDoorCards
import Derived.Test.YtljmhmdpihpafaaDoorTie
import Derived.SevenTiedAt
namespace Go.Proofs.YtljmhmdpihpafaaDoor
open Go

theorem dutyOnceCard_holds : Rows.DutyOnceCardSaid :=
  Claim7.holds_tied_plain_at .later [] [.mapped] true (true, "641f09d3c063d3a382170d8bb59056b04764d162a4d6b2d807745d2e53f64eaf") true
    dutyOnce_holds (fun _ h => by cases h) (by kernel_rfl) (fun _ h => by cases h) dutyOnce_row_tie rfl ⟨rfl, rfl⟩ (by kernel_rfl) rfl
    (fun f fn hf hfn => by
      obtain rfl : f = 3 := Option.some.inj ((show Tryd.prog.funcNamed "herd/herdlaw20.DutyOnce" = some 3 by kernel_rfl).symm.trans hf) |>.symm
      obtain rfl : fn = Tryd.f3 := (Option.some.inj (Tryd.func3.symm.trans hfn)).symm
      exact ⟨by kernel_rfl, fun j t ht => by
        rw [Tryd.params3] at ht
        have h3 : t = 30 ∨ t = 33 ∨ t = 3 := by
          rcases j with _ | _ | _ | j
          · exact .inl (by simpa using ht.symm)
          · exact .inr (.inl (by simpa using ht.symm))
          · exact .inr (.inr (by simpa using ht.symm))
          · simp at ht
        rcases h3 with rfl | rfl | rfl
        · exact (show Tryd.prog.wantsStandIn 30 = false by kernel_rfl)
        · exact (show Tryd.prog.wantsStandIn 33 = false by kernel_rfl)
        · exact (show Tryd.prog.wantsStandIn 3 = false by kernel_rfl)⟩)
    (by kernel_rfl)
#print axioms dutyOnceCard_holds
end Go.Proofs.YtljmhmdpihpafaaDoor
