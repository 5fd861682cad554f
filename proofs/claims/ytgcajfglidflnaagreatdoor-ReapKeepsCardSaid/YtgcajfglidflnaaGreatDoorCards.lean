/-
  DERIVED. GIVEN WITH THE SEED: THE CARDS: each row of YtgcajfglidflnaaGreatDoorRows.lean that lists a variable, with what it lists TIED to the program's text (the seventh form; the later family's looks); each row that meets fmt, with fmt's text TOLD by the authors' own Lean function (tested against real Go, not proved from fmt's source: count such statements apart). THE CARD IS WHAT COUNTS. Prove the row's statement (the work); the ties are given (YtgcajfglidflnaaGreatDoorTie.lean); close each card by the builder's one call (the guide's Derived/Test/ToyasCard.lean, 'card_holds'). Laid BY PROGRAM, IN A SANDBOX (cutbox-door.mjs). By AI agents, Wed Nov 11 2026. No macro, syntax, notation, axiom, sorry.
-/
import Derived.Test.YtgcajfglidflnaaGreatDoorRows
import GoSem.ClaimSeven
namespace Go.Proofs.YtgcajfglidflnaaGreatDoor
namespace Rows

/-- THE TIED CARD OF 'herdlaw21.ReapKeeps'. -/
def reapKeepsCard : Claim7 := { stood := { row := reapKeepsRow, standIns := [], harness := (true, "693eae2b37b180eedb86200d405e3c45aacbe6460d03ccd7eb5fd0e8203bf98e"), looks := false }, kinds := [], alts := [], laidByText := true, laidKinds := [.data, .widerDeep], laidTests := true, laidLooks := .later }
def ReapKeepsCardSaid : Prop := Claim7.holds Tryz.pinned (.plain (OpenSpec.ofChange reapKeepsSpec)) reapKeepsCard

/-- THE SECOND FORM's CARD OF 'herdlaw21.ReapKeeps'. -/
def reapKeepsUptoCard : Claim7 := { stood := { row := reapKeepsUptoRow, standIns := [], harness := (true, "693eae2b37b180eedb86200d405e3c45aacbe6460d03ccd7eb5fd0e8203bf98e"), looks := false }, kinds := [], alts := [], laidByText := true, laidKinds := [.data, .widerDeep], laidTests := true, laidLooks := .later }
def ReapKeepsUptoCardSaid : Prop := Claim7.holds Tryz.pinned (.plain (OpenSpec.upto reapKeepsSpec)) reapKeepsUptoCard
end Rows
end Go.Proofs.YtgcajfglidflnaaGreatDoor
