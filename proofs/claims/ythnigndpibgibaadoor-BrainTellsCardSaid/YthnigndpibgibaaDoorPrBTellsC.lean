/- The card of BrainTells. -/
import Derived.Test.YthnigndpibgibaaDoorPrBTells
import Derived.Test.YthnigndpibgibaaDoorCards
import Derived.Test.YthnigndpibgibaaDoorTie
import Derived.SevenTiedAt
namespace Go.Proofs.YthnigndpibgibaaDoor
open Go

theorem brainTellsCard_holds : Rows.BrainTellsCardSaid :=
  Claim7.holds_tied_plain_at .later [] [.data, .widerDeep] true (true, "51b8164e84c9fea3db74badb8f4d29c6ab4de41716801ecbfbe2e02e270541a2") false
    brainTells_holds (fun _ h => by cases h) (by kernel_rfl) (fun _ h => by cases h) brainTells_row_tie rfl ⟨rfl, rfl⟩ (by kernel_rfl) rfl
    (fun f fn hf hfn => by
      obtain rfl : f = 8 := Option.some.inj ((show Tryd.prog.funcNamed "herd/herdlaw13.BrainTells" = some 8 by kernel_rfl).symm.trans hf) |>.symm
      obtain rfl : fn = Tryd.f8 := (Option.some.inj (Tryd.func8.symm.trans hfn)).symm
      exact ⟨by kernel_rfl, fun j t ht => by
        rw [Tryd.params8] at ht
        have h3 : t = 30 ∨ t = 37 ∨ t = 31 ∨ t = 3 := by
          rcases j with _ | _ | _ | _ | _ | j
          · exact .inl (by simpa using ht.symm)
          · exact .inl (by simpa using ht.symm)
          · exact .inr (.inl (by simpa using ht.symm))
          · exact .inr (.inr (.inl (by simpa using ht.symm)))
          · exact .inr (.inr (.inr (by simpa using ht.symm)))
          · simp at ht
        rcases h3 with rfl | rfl | rfl | rfl
        · exact (show Tryd.prog.wantsStandIn 30 = false by kernel_rfl)
        · exact (show Tryd.prog.wantsStandIn 37 = false by kernel_rfl)
        · exact (show Tryd.prog.wantsStandIn 31 = false by kernel_rfl)
        · exact (show Tryd.prog.wantsStandIn 3 = false by kernel_rfl)⟩)
    (by kernel_rfl)
#print axioms brainTellsCard_holds
end Go.Proofs.YthnigndpibgibaaDoor
