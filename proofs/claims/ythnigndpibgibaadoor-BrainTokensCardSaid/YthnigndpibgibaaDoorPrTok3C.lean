/- The card of BrainTokens. -/
import Derived.Test.YthnigndpibgibaaDoorPrTok3
import Derived.Test.YthnigndpibgibaaDoorCards
import Derived.Test.YthnigndpibgibaaDoorTie
import Derived.SevenTiedAt
namespace Go.Proofs.YthnigndpibgibaaDoor
open Go

theorem brainTokensCard_holds : Rows.BrainTokensCardSaid :=
  Claim7.holds_tied_plain_at .later [] [.data, .widerDeep] true (true, "51b8164e84c9fea3db74badb8f4d29c6ab4de41716801ecbfbe2e02e270541a2") false
    brainTokens_holds (fun _ h => by cases h) (by kernel_rfl) (fun _ h => by cases h) brainTokens_row_tie rfl ⟨rfl, rfl⟩ (by kernel_rfl) rfl
    (fun f fn hf hfn => by
      obtain rfl : f = 4 := Option.some.inj ((show Tryd.prog.funcNamed "herd/herdlaw13.BrainTokens" = some 4 by kernel_rfl).symm.trans hf) |>.symm
      obtain rfl : fn = Tryd.f4 := (Option.some.inj (Tryd.func4.symm.trans hfn)).symm
      exact ⟨by kernel_rfl, fun j t ht => by
        rw [Tryd.params4] at ht
        have h3 : t = 31 := by
          rcases j with _ | j
          · exact by simpa using ht.symm
          · simp at ht
        subst h3
        · exact (show Tryd.prog.wantsStandIn 31 = false by kernel_rfl)⟩)
    (by kernel_rfl)
#print axioms brainTokensCard_holds
end Go.Proofs.YthnigndpibgibaaDoor
