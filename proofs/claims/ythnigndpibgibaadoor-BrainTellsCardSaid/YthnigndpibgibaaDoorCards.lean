/-
  DERIVED. GIVEN WITH THE SEED: THE CARDS: each row of YthnigndpibgibaaDoorRows.lean that lists a variable, with what it lists TIED to the program's text (the seventh form; the later family's looks); each row that meets fmt, with fmt's text TOLD by the authors' own Lean function (tested against real Go, not proved from fmt's source: count such statements apart). THE CARD IS WHAT COUNTS. Prove the row's statement (the work); the ties are given (YthnigndpibgibaaDoorTie.lean); close each card by the builder's one call (the guide's Derived/Test/ToyasCard.lean, 'card_holds'). Laid BY PROGRAM, IN A SANDBOX (cutbox-door.mjs). By AI agents, Wed Nov 11 2026. No macro, syntax, notation, axiom, sorry.
-/
import Derived.Test.YthnigndpibgibaaDoorRows
import GoSem.ClaimSeven
namespace Go.Proofs.YthnigndpibgibaaDoor
namespace Rows

/-- THE TIED CARD OF 'herdlaw13.BrainRight'. -/
def brainRightCard : Claim7 := { stood := { row := brainRightRow, standIns := [], harness := (true, "51b8164e84c9fea3db74badb8f4d29c6ab4de41716801ecbfbe2e02e270541a2"), looks := false }, kinds := [], alts := [], laidByText := true, laidKinds := [.data, .widerDeep], laidTests := true, laidLooks := .later }
def BrainRightCardSaid : Prop := Claim7.holds Tryd.pinned (.plain (OpenSpec.ofChange brainRightSpec)) brainRightCard

/-- THE TIED CARD OF 'herdlaw13.BrainTokens'. -/
def brainTokensCard : Claim7 := { stood := { row := brainTokensRow, standIns := [], harness := (true, "51b8164e84c9fea3db74badb8f4d29c6ab4de41716801ecbfbe2e02e270541a2"), looks := false }, kinds := [], alts := [], laidByText := true, laidKinds := [.data, .widerDeep], laidTests := true, laidLooks := .later }
def BrainTokensCardSaid : Prop := Claim7.holds Tryd.pinned (.plain (OpenSpec.ofChange brainTokensSpec)) brainTokensCard

/-- THE TIED CARD OF 'herdlaw13.BrainParts'. -/
def brainPartsCard : Claim7 := { stood := { row := brainPartsRow, standIns := [], harness := (true, "51b8164e84c9fea3db74badb8f4d29c6ab4de41716801ecbfbe2e02e270541a2"), looks := false }, kinds := [], alts := [], laidByText := true, laidKinds := [.data, .widerDeep], laidTests := true, laidLooks := .later }
def BrainPartsCardSaid : Prop := Claim7.holds Tryd.pinned (.plain (OpenSpec.ofChange brainPartsSpec)) brainPartsCard

/-- THE TIED CARD OF 'herdlaw13.BrainNot'. -/
def brainNotCard : Claim7 := { stood := { row := brainNotRow, standIns := [], harness := (true, "51b8164e84c9fea3db74badb8f4d29c6ab4de41716801ecbfbe2e02e270541a2"), looks := false }, kinds := [], alts := [], laidByText := true, laidKinds := [.data, .widerDeep], laidTests := true, laidLooks := .later }
def BrainNotCardSaid : Prop := Claim7.holds Tryd.pinned (.plain (OpenSpec.ofChange brainNotSpec)) brainNotCard

/-- THE TIED CARD OF 'herdlaw13.BrainOne'. -/
def brainOneCard : Claim7 := { stood := { row := brainOneRow, standIns := [], harness := (true, "51b8164e84c9fea3db74badb8f4d29c6ab4de41716801ecbfbe2e02e270541a2"), looks := false }, kinds := [], alts := [], laidByText := true, laidKinds := [.data, .widerDeep], laidTests := true, laidLooks := .later }
def BrainOneCardSaid : Prop := Claim7.holds Tryd.pinned (.plain (OpenSpec.ofChange brainOneSpec)) brainOneCard

/-- THE TIED CARD OF 'herdlaw13.BrainTells'. -/
def brainTellsCard : Claim7 := { stood := { row := brainTellsRow, standIns := [], harness := (true, "51b8164e84c9fea3db74badb8f4d29c6ab4de41716801ecbfbe2e02e270541a2"), looks := false }, kinds := [], alts := [], laidByText := true, laidKinds := [.data, .widerDeep], laidTests := true, laidLooks := .later }
def BrainTellsCardSaid : Prop := Claim7.holds Tryd.pinned (.plain (OpenSpec.ofChange brainTellsSpec)) brainTellsCard

/-- THE SECOND FORM's CARD OF 'herdlaw13.BrainRight'. -/
def brainRightUptoCard : Claim7 := { stood := { row := brainRightUptoRow, standIns := [], harness := (true, "51b8164e84c9fea3db74badb8f4d29c6ab4de41716801ecbfbe2e02e270541a2"), looks := false }, kinds := [], alts := [], laidByText := true, laidKinds := [.data, .widerDeep], laidTests := true, laidLooks := .later }
def BrainRightUptoCardSaid : Prop := Claim7.holds Tryd.pinned (.plain (OpenSpec.upto brainRightSpec)) brainRightUptoCard

/-- THE SECOND FORM's CARD OF 'herdlaw13.BrainTokens'. -/
def brainTokensUptoCard : Claim7 := { stood := { row := brainTokensUptoRow, standIns := [], harness := (true, "51b8164e84c9fea3db74badb8f4d29c6ab4de41716801ecbfbe2e02e270541a2"), looks := false }, kinds := [], alts := [], laidByText := true, laidKinds := [.data, .widerDeep], laidTests := true, laidLooks := .later }
def BrainTokensUptoCardSaid : Prop := Claim7.holds Tryd.pinned (.plain (OpenSpec.upto brainTokensSpec)) brainTokensUptoCard

/-- THE SECOND FORM's CARD OF 'herdlaw13.BrainParts'. -/
def brainPartsUptoCard : Claim7 := { stood := { row := brainPartsUptoRow, standIns := [], harness := (true, "51b8164e84c9fea3db74badb8f4d29c6ab4de41716801ecbfbe2e02e270541a2"), looks := false }, kinds := [], alts := [], laidByText := true, laidKinds := [.data, .widerDeep], laidTests := true, laidLooks := .later }
def BrainPartsUptoCardSaid : Prop := Claim7.holds Tryd.pinned (.plain (OpenSpec.upto brainPartsSpec)) brainPartsUptoCard

/-- THE SECOND FORM's CARD OF 'herdlaw13.BrainNot'. -/
def brainNotUptoCard : Claim7 := { stood := { row := brainNotUptoRow, standIns := [], harness := (true, "51b8164e84c9fea3db74badb8f4d29c6ab4de41716801ecbfbe2e02e270541a2"), looks := false }, kinds := [], alts := [], laidByText := true, laidKinds := [.data, .widerDeep], laidTests := true, laidLooks := .later }
def BrainNotUptoCardSaid : Prop := Claim7.holds Tryd.pinned (.plain (OpenSpec.upto brainNotSpec)) brainNotUptoCard

/-- THE SECOND FORM's CARD OF 'herdlaw13.BrainOne'. -/
def brainOneUptoCard : Claim7 := { stood := { row := brainOneUptoRow, standIns := [], harness := (true, "51b8164e84c9fea3db74badb8f4d29c6ab4de41716801ecbfbe2e02e270541a2"), looks := false }, kinds := [], alts := [], laidByText := true, laidKinds := [.data, .widerDeep], laidTests := true, laidLooks := .later }
def BrainOneUptoCardSaid : Prop := Claim7.holds Tryd.pinned (.plain (OpenSpec.upto brainOneSpec)) brainOneUptoCard

/-- THE SECOND FORM's CARD OF 'herdlaw13.BrainTells'. -/
def brainTellsUptoCard : Claim7 := { stood := { row := brainTellsUptoRow, standIns := [], harness := (true, "51b8164e84c9fea3db74badb8f4d29c6ab4de41716801ecbfbe2e02e270541a2"), looks := false }, kinds := [], alts := [], laidByText := true, laidKinds := [.data, .widerDeep], laidTests := true, laidLooks := .later }
def BrainTellsUptoCardSaid : Prop := Claim7.holds Tryd.pinned (.plain (OpenSpec.upto brainTellsSpec)) brainTellsUptoCard
end Rows
end Go.Proofs.YthnigndpibgibaaDoor
