/-
  DERIVED. GIVEN WITH THE SEED: THE CARDS: each row of YtgcajfglidflnaaDoorRows.lean that lists a variable, with what it lists TIED to the program's text (the seventh form; the later family's looks); each row that meets fmt, with fmt's text TOLD by the authors' own Lean function (tested against real Go, not proved from fmt's source: count such statements apart). THE CARD IS WHAT COUNTS. Prove the row's statement (the work); the ties are given (YtgcajfglidflnaaDoorTie.lean); close each card by the builder's one call (the guide's Derived/Test/ToyasCard.lean, 'card_holds'). Laid BY PROGRAM, IN A SANDBOX (cutbox-door.mjs). By AI agents, Wed Nov 11 2026. No macro, syntax, notation, axiom, sorry.
-/
import Derived.Test.YtgcajfglidflnaaDoorRows
import GoSem.ClaimSeven
namespace Go.Proofs.YtgcajfglidflnaaDoor
namespace Rows

/-- THE TIED CARD OF 'herdlaw21.ReapStays'. -/
def reapStaysCard : Claim7 := { stood := { row := reapStaysRow, standIns := [], harness := (true, "97ea20267e63e8c690315e6813ef9ed25de43d50291207710513719f81fd5819"), looks := false }, kinds := [], alts := [], laidByText := true, laidKinds := [.data, .widerDeep], laidTests := true, laidLooks := .later }
def ReapStaysCardSaid : Prop := Claim7.holds Tryd.pinned (.plain (OpenSpec.ofChange reapStaysSpec)) reapStaysCard

/-- THE TIED CARD OF 'herdlaw21.ReapStrays'. -/
def reapStraysCard : Claim7 := { stood := { row := reapStraysRow, standIns := [], harness := (true, "97ea20267e63e8c690315e6813ef9ed25de43d50291207710513719f81fd5819"), looks := false }, kinds := [], alts := [], laidByText := true, laidKinds := [.data, .widerDeep], laidTests := true, laidLooks := .later }
def ReapStraysCardSaid : Prop := Claim7.holds Tryd.pinned (.plain (OpenSpec.ofChange reapStraysSpec)) reapStraysCard

/-- THE TIED CARD OF 'herdlaw21.ReapPages'. -/
def reapPagesCard : Claim7 := { stood := { row := reapPagesRow, standIns := [], harness := (true, "97ea20267e63e8c690315e6813ef9ed25de43d50291207710513719f81fd5819"), looks := false }, kinds := [], alts := [], laidByText := true, laidKinds := [.data, .widerDeep], laidTests := true, laidLooks := .later }
def ReapPagesCardSaid : Prop := Claim7.holds Tryd.pinned (.plain (OpenSpec.ofChange reapPagesSpec)) reapPagesCard

/-- THE SECOND FORM's CARD OF 'herdlaw21.ReapStays'. -/
def reapStaysUptoCard : Claim7 := { stood := { row := reapStaysUptoRow, standIns := [], harness := (true, "97ea20267e63e8c690315e6813ef9ed25de43d50291207710513719f81fd5819"), looks := false }, kinds := [], alts := [], laidByText := true, laidKinds := [.data, .widerDeep], laidTests := true, laidLooks := .later }
def ReapStaysUptoCardSaid : Prop := Claim7.holds Tryd.pinned (.plain (OpenSpec.upto reapStaysSpec)) reapStaysUptoCard

/-- THE SECOND FORM's CARD OF 'herdlaw21.ReapStrays'. -/
def reapStraysUptoCard : Claim7 := { stood := { row := reapStraysUptoRow, standIns := [], harness := (true, "97ea20267e63e8c690315e6813ef9ed25de43d50291207710513719f81fd5819"), looks := false }, kinds := [], alts := [], laidByText := true, laidKinds := [.data, .widerDeep], laidTests := true, laidLooks := .later }
def ReapStraysUptoCardSaid : Prop := Claim7.holds Tryd.pinned (.plain (OpenSpec.upto reapStraysSpec)) reapStraysUptoCard

/-- THE SECOND FORM's CARD OF 'herdlaw21.ReapPages'. -/
def reapPagesUptoCard : Claim7 := { stood := { row := reapPagesUptoRow, standIns := [], harness := (true, "97ea20267e63e8c690315e6813ef9ed25de43d50291207710513719f81fd5819"), looks := false }, kinds := [], alts := [], laidByText := true, laidKinds := [.data, .widerDeep], laidTests := true, laidLooks := .later }
def ReapPagesUptoCardSaid : Prop := Claim7.holds Tryd.pinned (.plain (OpenSpec.upto reapPagesSpec)) reapPagesUptoCard
end Rows
end Go.Proofs.YtgcajfglidflnaaDoor
