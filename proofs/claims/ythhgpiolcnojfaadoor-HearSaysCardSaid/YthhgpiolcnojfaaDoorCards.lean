/-
  DERIVED. GIVEN WITH THE SEED: THE CARDS: each row of YthhgpiolcnojfaaDoorRows.lean that lists a variable, with what it lists TIED to the program's text (the seventh form; the later family's looks); each row that meets fmt, with fmt's text TOLD by the authors' own Lean function (tested against real Go, not proved from fmt's source: count such statements apart). THE CARD IS WHAT COUNTS. Prove the row's statement (the work); the ties are given (YthhgpiolcnojfaaDoorTie.lean); close each card by the builder's one call (the guide's Derived/Test/ToyasCard.lean, 'card_holds'). Laid BY PROGRAM, IN A SANDBOX (cutbox-door.mjs). By AI agents, Wed Nov 11 2026. No macro, syntax, notation, axiom, sorry.
-/
import Derived.Test.YthhgpiolcnojfaaDoorRows
import GoSem.ClaimSeven
namespace Go.Proofs.YthhgpiolcnojfaaDoor
namespace Rows

/-- THE TIED CARD OF 'herdlaw22.HearSays'. -/
def hearSaysCard : Claim7 := { stood := { row := hearSaysRow, standIns := [], harness := (true, "c2432b0c0d8e90da6ed50d7a49d2491f2d27770145d954957a486c0d0fee2f59"), looks := true }, kinds := [], alts := [], laidByText := true, laidKinds := [.data, .widerDeep, .mapped], laidTests := true, laidLooks := .later }
def HearSaysCardSaid : Prop := Claim7.holds Tryd.pinned (.plain (OpenSpec.ofChange hearSaysSpec)) hearSaysCard

/-- THE SECOND FORM's CARD OF 'herdlaw22.HearSays'. -/
def hearSaysUptoCard : Claim7 := { stood := { row := hearSaysUptoRow, standIns := [], harness := (true, "c2432b0c0d8e90da6ed50d7a49d2491f2d27770145d954957a486c0d0fee2f59"), looks := true }, kinds := [], alts := [], laidByText := true, laidKinds := [.data, .widerDeep, .mapped], laidTests := true, laidLooks := .later }
def HearSaysUptoCardSaid : Prop := Claim7.holds Tryd.pinned (.plain (OpenSpec.upto hearSaysSpec)) hearSaysUptoCard
end Rows
end Go.Proofs.YthhgpiolcnojfaaDoor
