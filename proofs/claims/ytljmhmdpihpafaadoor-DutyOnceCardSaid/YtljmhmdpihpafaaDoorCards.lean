/-
  DERIVED. GIVEN WITH THE SEED: THE CARDS: each row of YtljmhmdpihpafaaDoorRows.lean that lists a variable, with what it lists TIED to the program's text (the seventh form; the later family's looks); each row that meets fmt, with fmt's text TOLD by the authors' own Lean function (tested against real Go, not proved from fmt's source: count such statements apart). THE CARD IS WHAT COUNTS. Prove the row's statement (the work); the ties are given (YtljmhmdpihpafaaDoorTie.lean); close each card by the builder's one call (the guide's Derived/Test/ToyasCard.lean, 'card_holds'). Laid BY PROGRAM, IN A SANDBOX (cutbox-door.mjs). By AI agents, Wed Nov 11 2026. No macro, syntax, notation, axiom, sorry.
-/
import Derived.Test.YtljmhmdpihpafaaDoorRows
import GoSem.ClaimSeven
namespace Go.Proofs.YtljmhmdpihpafaaDoor
namespace Rows

/-- THE TIED CARD OF 'herdlaw20.DutyOnce'. -/
def dutyOnceCard : Claim7 := { stood := { row := dutyOnceRow, standIns := [], harness := (true, "641f09d3c063d3a382170d8bb59056b04764d162a4d6b2d807745d2e53f64eaf"), looks := true }, kinds := [], alts := [], laidByText := true, laidKinds := [.mapped], laidTests := true, laidLooks := .later }
def DutyOnceCardSaid : Prop := Claim7.holds Tryd.pinned (.plain (OpenSpec.ofChange dutyOnceSpec)) dutyOnceCard

/-- THE TIED CARD OF 'herdlaw20.DutyTokens'. -/
def dutyTokensCard : Claim7 := { stood := { row := dutyTokensRow, standIns := [], harness := (true, "641f09d3c063d3a382170d8bb59056b04764d162a4d6b2d807745d2e53f64eaf"), looks := true }, kinds := [], alts := [], laidByText := true, laidKinds := [.mapped], laidTests := true, laidLooks := .later }
def DutyTokensCardSaid : Prop := Claim7.holds Tryd.pinned (.plain (OpenSpec.ofChange dutyTokensSpec)) dutyTokensCard

/-- THE TIED CARD OF 'herdlaw20.DutyDrop'. -/
def dutyDropCard : Claim7 := { stood := { row := dutyDropRow, standIns := [], harness := (true, "641f09d3c063d3a382170d8bb59056b04764d162a4d6b2d807745d2e53f64eaf"), looks := true }, kinds := [], alts := [], laidByText := true, laidKinds := [.mapped], laidTests := true, laidLooks := .later }
def DutyDropCardSaid : Prop := Claim7.holds Tryd.pinned (.plain (OpenSpec.ofChange dutyDropSpec)) dutyDropCard

/-- THE SECOND FORM's CARD OF 'herdlaw20.DutyOnce'. -/
def dutyOnceUptoCard : Claim7 := { stood := { row := dutyOnceUptoRow, standIns := [], harness := (true, "641f09d3c063d3a382170d8bb59056b04764d162a4d6b2d807745d2e53f64eaf"), looks := true }, kinds := [], alts := [], laidByText := true, laidKinds := [.mapped], laidTests := true, laidLooks := .later }
def DutyOnceUptoCardSaid : Prop := Claim7.holds Tryd.pinned (.plain (OpenSpec.upto dutyOnceSpec)) dutyOnceUptoCard

/-- THE SECOND FORM's CARD OF 'herdlaw20.DutyTokens'. -/
def dutyTokensUptoCard : Claim7 := { stood := { row := dutyTokensUptoRow, standIns := [], harness := (true, "641f09d3c063d3a382170d8bb59056b04764d162a4d6b2d807745d2e53f64eaf"), looks := true }, kinds := [], alts := [], laidByText := true, laidKinds := [.mapped], laidTests := true, laidLooks := .later }
def DutyTokensUptoCardSaid : Prop := Claim7.holds Tryd.pinned (.plain (OpenSpec.upto dutyTokensSpec)) dutyTokensUptoCard

/-- THE SECOND FORM's CARD OF 'herdlaw20.DutyDrop'. -/
def dutyDropUptoCard : Claim7 := { stood := { row := dutyDropUptoRow, standIns := [], harness := (true, "641f09d3c063d3a382170d8bb59056b04764d162a4d6b2d807745d2e53f64eaf"), looks := true }, kinds := [], alts := [], laidByText := true, laidKinds := [.mapped], laidTests := true, laidLooks := .later }
def DutyDropUptoCardSaid : Prop := Claim7.holds Tryd.pinned (.plain (OpenSpec.upto dutyDropSpec)) dutyDropUptoCard
end Rows
end Go.Proofs.YtljmhmdpihpafaaDoor
