/- The card of BrainParts. -/
import Derived.Test.YthnigndpibgibaaDoorPrParts
import Derived.Test.YthnigndpibgibaaDoorCards
import Derived.Test.YthnigndpibgibaaDoorTie
import Derived.SevenTiedAt
namespace Go.Proofs.YthnigndpibgibaaDoor
open Go

theorem brainPartsCard_holds : Rows.BrainPartsCardSaid :=
  Claim7.holds_tied_plain_at .later [] [.data, .widerDeep] true (true, "51b8164e84c9fea3db74badb8f4d29c6ab4de41716801ecbfbe2e02e270541a2") false
    brainParts_holds (fun _ h => by cases h) (by kernel_rfl) (fun _ h => by cases h) brainParts_row_tie rfl ⟨rfl, rfl⟩ (by kernel_rfl) rfl
    (fun f fn hf hfn => by
      obtain rfl : f = 5 := Option.some.inj ((show Tryd.prog.funcNamed "herd/herdlaw13.BrainParts" = some 5 by kernel_rfl).symm.trans hf) |>.symm
      obtain rfl : fn = Tryd.f5 := (Option.some.inj (Tryd.func5.symm.trans hfn)).symm
      exact ⟨by kernel_rfl, fun j t ht => by
        rw [Tryd.params5] at ht
        have h3 : t = 30 ∨ t = 31 := by
          rcases j with _ | _ | _ | j
          · exact .inl (by simpa using ht.symm)
          · exact .inr (by simpa using ht.symm)
          · exact .inr (by simpa using ht.symm)
          · simp at ht
        rcases h3 with rfl | rfl
        · exact (show Tryd.prog.wantsStandIn 30 = false by kernel_rfl)
        · exact (show Tryd.prog.wantsStandIn 31 = false by kernel_rfl)⟩)
    (by kernel_rfl)
#print axioms brainPartsCard_holds
end Go.Proofs.YthnigndpibgibaaDoor
