/- The card of HearLate. -/
import Derived.Test.YthhgpiolcnojfaaGreatDoorPrHLate
import Derived.Test.YthhgpiolcnojfaaGreatDoorCards
import Derived.Test.YthhgpiolcnojfaaGreatDoorTie
import Derived.SevenTiedAt
namespace Go.Proofs.YthhgpiolcnojfaaGreatDoor
open Go

theorem hearLateCard_holds : Rows.HearLateCardSaid :=
  Claim7.holds_tied_plain_at .later [] [.data, .widerDeep, .mapped] true (true, "d77c9e732341cc98aab2ed5a574ef42bcee1bfd9c5e8a805cf6a49fc9dfe05a1") true
    hearLate_holds (fun _ h => by cases h) (by kernel_rfl) (fun _ h => by cases h) hearLate_row_tie rfl ⟨rfl, rfl⟩ (by kernel_rfl) rfl
    (fun f fn hf hfn => by
      obtain rfl : f = 5 := Option.some.inj ((show Tryz.prog.funcNamed "herd/herdlaw22.HearLate" = some 5 by kernel_rfl).symm.trans hf) |>.symm
      obtain rfl : fn = Tryz.f5 := (Option.some.inj (Tryz.func5.symm.trans hfn)).symm
      exact ⟨by kernel_rfl, fun j t ht => by
        rw [Tryz.params5] at ht
        have h3 : t = 30 ∨ t = 33 ∨ t = 36 ∨ t = 3 := by
          rcases j with _ | _ | _ | _ | _ | j
          · exact .inl (by simpa using ht.symm)
          · exact .inr (.inl (by simpa using ht.symm))
          · exact .inr (.inr (.inl (by simpa using ht.symm)))
          · exact .inr (.inr (.inr (by simpa using ht.symm)))
          · exact .inr (.inr (.inr (by simpa using ht.symm)))
          · simp at ht
        rcases h3 with rfl | rfl | rfl | rfl
        · exact (show Tryz.prog.wantsStandIn 30 = false by kernel_rfl)
        · exact (show Tryz.prog.wantsStandIn 33 = false by kernel_rfl)
        · exact (show Tryz.prog.wantsStandIn 36 = false by kernel_rfl)
        · exact (show Tryz.prog.wantsStandIn 3 = false by kernel_rfl)⟩)
    (by kernel_rfl)
#print axioms hearLateCard_holds
end Go.Proofs.YthhgpiolcnojfaaGreatDoor
