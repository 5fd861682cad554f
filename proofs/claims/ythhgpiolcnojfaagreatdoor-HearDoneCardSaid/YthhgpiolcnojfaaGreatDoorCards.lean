/-
  DERIVED. GIVEN WITH THE SEED: THE CARDS: each row of YthhgpiolcnojfaaGreatDoorRows.lean that lists a variable, with what it lists TIED to the program's text (the seventh form; the later family's looks); each row that meets fmt, with fmt's text TOLD by the authors' own Lean function (tested against real Go, not proved from fmt's source: count such statements apart). THE CARD IS WHAT COUNTS. Prove the row's statement (the work); the ties are given (YthhgpiolcnojfaaGreatDoorTie.lean); close each card by the builder's one call (the guide's Derived/Test/ToyasCard.lean, 'card_holds'). Laid BY PROGRAM, IN A SANDBOX (cutbox-door.mjs). By AI agents, Wed Nov 11 2026. No macro, syntax, notation, axiom, sorry.
-/
import Derived.Test.YthhgpiolcnojfaaGreatDoorRows
import GoSem.ClaimSeven
namespace Go.Proofs.YthhgpiolcnojfaaGreatDoor
namespace Rows

/-- THE TIED CARD OF 'herdlaw22.HearTells'. -/
def hearTellsCard : Claim7 := { stood := { row := hearTellsRow, standIns := [], harness := (true, "d77c9e732341cc98aab2ed5a574ef42bcee1bfd9c5e8a805cf6a49fc9dfe05a1"), looks := true }, kinds := [], alts := [], laidByText := true, laidKinds := [.data, .widerDeep, .mapped], laidTests := true, laidLooks := .later }
def HearTellsCardSaid : Prop := Claim7.holds Tryz.pinned (.plain (OpenSpec.ofChange hearTellsSpec)) hearTellsCard

/-- THE TIED CARD OF 'herdlaw22.HearOnce'. -/
def hearOnceCard : Claim7 := { stood := { row := hearOnceRow, standIns := [], harness := (true, "d77c9e732341cc98aab2ed5a574ef42bcee1bfd9c5e8a805cf6a49fc9dfe05a1"), looks := true }, kinds := [], alts := [], laidByText := true, laidKinds := [.data, .widerDeep, .mapped], laidTests := true, laidLooks := .later }
def HearOnceCardSaid : Prop := Claim7.holds Tryz.pinned (.plain (OpenSpec.ofChange hearOnceSpec)) hearOnceCard

/-- THE TIED CARD OF 'herdlaw22.HearLate'. -/
def hearLateCard : Claim7 := { stood := { row := hearLateRow, standIns := [], harness := (true, "d77c9e732341cc98aab2ed5a574ef42bcee1bfd9c5e8a805cf6a49fc9dfe05a1"), looks := true }, kinds := [], alts := [], laidByText := true, laidKinds := [.data, .widerDeep, .mapped], laidTests := true, laidLooks := .later }
def HearLateCardSaid : Prop := Claim7.holds Tryz.pinned (.plain (OpenSpec.ofChange hearLateSpec)) hearLateCard

/-- THE TIED CARD OF 'herdlaw22.HearDone'. -/
def hearDoneCard : Claim7 := { stood := { row := hearDoneRow, standIns := [], harness := (true, "d77c9e732341cc98aab2ed5a574ef42bcee1bfd9c5e8a805cf6a49fc9dfe05a1"), looks := true }, kinds := [], alts := [], laidByText := true, laidKinds := [.data, .widerDeep, .mapped], laidTests := true, laidLooks := .later }
def HearDoneCardSaid : Prop := Claim7.holds Tryz.pinned (.plain (OpenSpec.ofChange hearDoneSpec)) hearDoneCard

/-- THE SECOND FORM's CARD OF 'herdlaw22.HearTells'. -/
def hearTellsUptoCard : Claim7 := { stood := { row := hearTellsUptoRow, standIns := [], harness := (true, "d77c9e732341cc98aab2ed5a574ef42bcee1bfd9c5e8a805cf6a49fc9dfe05a1"), looks := true }, kinds := [], alts := [], laidByText := true, laidKinds := [.data, .widerDeep, .mapped], laidTests := true, laidLooks := .later }
def HearTellsUptoCardSaid : Prop := Claim7.holds Tryz.pinned (.plain (OpenSpec.upto hearTellsSpec)) hearTellsUptoCard

/-- THE SECOND FORM's CARD OF 'herdlaw22.HearOnce'. -/
def hearOnceUptoCard : Claim7 := { stood := { row := hearOnceUptoRow, standIns := [], harness := (true, "d77c9e732341cc98aab2ed5a574ef42bcee1bfd9c5e8a805cf6a49fc9dfe05a1"), looks := true }, kinds := [], alts := [], laidByText := true, laidKinds := [.data, .widerDeep, .mapped], laidTests := true, laidLooks := .later }
def HearOnceUptoCardSaid : Prop := Claim7.holds Tryz.pinned (.plain (OpenSpec.upto hearOnceSpec)) hearOnceUptoCard

/-- THE SECOND FORM's CARD OF 'herdlaw22.HearLate'. -/
def hearLateUptoCard : Claim7 := { stood := { row := hearLateUptoRow, standIns := [], harness := (true, "d77c9e732341cc98aab2ed5a574ef42bcee1bfd9c5e8a805cf6a49fc9dfe05a1"), looks := true }, kinds := [], alts := [], laidByText := true, laidKinds := [.data, .widerDeep, .mapped], laidTests := true, laidLooks := .later }
def HearLateUptoCardSaid : Prop := Claim7.holds Tryz.pinned (.plain (OpenSpec.upto hearLateSpec)) hearLateUptoCard

/-- THE SECOND FORM's CARD OF 'herdlaw22.HearDone'. -/
def hearDoneUptoCard : Claim7 := { stood := { row := hearDoneUptoRow, standIns := [], harness := (true, "d77c9e732341cc98aab2ed5a574ef42bcee1bfd9c5e8a805cf6a49fc9dfe05a1"), looks := true }, kinds := [], alts := [], laidByText := true, laidKinds := [.data, .widerDeep, .mapped], laidTests := true, laidLooks := .later }
def HearDoneUptoCardSaid : Prop := Claim7.holds Tryz.pinned (.plain (OpenSpec.upto hearDoneSpec)) hearDoneUptoCard
end Rows
end Go.Proofs.YthhgpiolcnojfaaGreatDoor
