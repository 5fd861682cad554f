/- The card of ReapPages. -/
import Derived.Test.YtgcajfglidflnaaDoorPrPages
import Derived.Test.YtgcajfglidflnaaDoorCards
import Derived.Test.YtgcajfglidflnaaDoorTie
import Derived.SevenTiedAt
namespace Go.Proofs.YtgcajfglidflnaaDoor
open Go

theorem reapPagesCard_holds : Rows.ReapPagesCardSaid :=
  Claim7.holds_tied_plain_at .later [] [.data, .widerDeep] true (true, "97ea20267e63e8c690315e6813ef9ed25de43d50291207710513719f81fd5819") false
    reapPages_holds (fun _ h => by cases h) (by kernel_rfl) (fun _ h => by cases h) reapPages_row_tie rfl ⟨rfl, rfl⟩ (by kernel_rfl) rfl
    (fun f fn hf hfn => by
      obtain rfl : f = 5 := Option.some.inj ((show Tryd.prog.funcNamed "herd/herdlaw21.ReapPages" = some 5 by kernel_rfl).symm.trans hf) |>.symm
      obtain rfl : fn = Tryd.f5 := (Option.some.inj (Tryd.func5.symm.trans hfn)).symm
      exact ⟨by kernel_rfl, fun j t ht => by
        rw [Tryd.params5] at ht
        have h3 : t = 33 ∨ t = 47 := by
          rcases j with _ | _ | j
          · exact .inl (by simpa using ht.symm)
          · exact .inr (by simpa using ht.symm)
          · simp at ht
        rcases h3 with rfl | rfl
        · exact (show Tryd.prog.wantsStandIn 33 = false by kernel_rfl)
        · exact (show Tryd.prog.wantsStandIn 47 = false by kernel_rfl)⟩)
    (by kernel_rfl)
#print axioms reapPagesCard_holds
end Go.Proofs.YtgcajfglidflnaaDoor
