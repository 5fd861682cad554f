/-
  NARROWER THAN 'FOR EVERY INPUT', by the rows' own cells (each row's printed sentence says how): BrainRight: laid · BrainTokens: laid · BrainParts: laid · BrainNot: laid · BrainOne: laid · BrainTells: laid.
  DERIVED. THE GIVEN ROWS OF THIS SEAT. 6 by the template 'for every input the law returns true; each argument reads behind the call as it read before'; 0 by the template 'total and deterministic' (their statements: YthnigndpibgibaaDoorTotals.lean).
  GIVEN WITH THE SEED: the statements are not yours to turn. If you find one false, say at which input.
  Laid BY PROGRAM, IN A SANDBOX (cutbox-rows.mjs): the forced cells as the released guide's own fill.sh prints them over the translation 45e5f6f68fb552ed… (all of the seat's roots in one cut). By AI agents, Wed Nov 11 2026. No macro, syntax, notation, axiom, sorry.
-/
import Derived.Test.YthnigndpibgibaaDoorChecked
import GoSem.Claim
import GoSem.ClaimJoined
import GoSem.ClaimMapViews
import Derived.JoinedTies
import Derived.KernelRfl
namespace Go.Proofs.YthnigndpibgibaaDoor
/- THE CELL 'sum', in the pinned program and in every row, IS THE sha256 OF THE DUMP (.gsa) THAT YthnigndpibgibaaDoorProg.lean LOADS. Nothing in Lean hashes anything: it is a label: what it is worth is what the hold of that sum in a sandbox is worth. -/
noncomputable def Tryd.pinned : Pinned := { name := "ythnigndpibgibaadoor", sum := "45e5f6f68fb552edcb5b8e8a579a151dc0cbb3f4fd93953aa2cfe89c1613d2f1", checked := Tryd.checked }
namespace Rows
def none {H : Type} : Left H := { results := [], args := [] }

/- WHAT THE LISTED PACKAGE-LEVEL VARIABLES READ AS WHEN THE CALL BEGINS. Each datum BY PROGRAM (the guide's laid-datum.mjs) off the statement by which the dump's own 'gosem.cut.vars' lays the variable. In a bare row this is a premise. The card (YthnigndpibgibaaDoorCards.lean) ties it to the program's text. -/
def laid_herd_conf_limits {H : Type} : DataW H := .agg [.agg [.lit (.int .i64 0), .lit (.int .i64 6)], .agg [.lit (.int .i64 0), .lit (.int .i64 100)], .agg [.lit (.int .i64 0), .lit (.int .i64 3)], .agg [.lit (.int .i64 0), .lit (.int .i64 3)], .agg [.lit (.int .i64 0), .lit (.int .i64 20)], .agg [.lit (.int .i64 0), .lit (.int .i64 20)], .agg [.lit (.int .i64 0), .lit (.int .i64 20)], .agg [.lit (.int .i64 0), .lit (.int .i64 20)], .agg [.lit (.int .i64 1), .lit (.int .i64 20)], .agg [.lit (.int .i64 1), .lit (.int .i64 20)], .agg [.lit (.int .i64 1), .lit (.int .i64 20)], .agg [.lit (.int .i64 0), .lit (.int .i64 20)], .agg [.lit (.int .i64 1), .lit (.int .i64 1099511627776)]]
def laid_herd_brain_changes {H : Type} : DataW H := .agg [.nil, .slice [.lit (.int .u8 2), .lit (.int .u8 8)] [], .slice [.lit (.int .u8 3), .lit (.int .u8 8)] [], .slice [.lit (.int .u8 4)] [], .slice [.lit (.int .u8 5), .lit (.int .u8 3)] [], .slice [.lit (.int .u8 6), .lit (.int .u8 4)] [], .slice [.lit (.int .u8 7)] [], .slice [.lit (.int .u8 8)] [], .nil, .slice [.lit (.int .u8 10), .lit (.int .u8 8)] [], .slice [.lit (.int .u8 1)] []]

/-- 'herdlaw13.BrainRight': WHATEVER THE INPUT: true; the input reads as it did. -/
def brainRightSpec : ChangeSpec := { name := "brainRight", fn := fun _ => fun
  | [d1, d2] => { results := [.lit (.bool true)], args := [d1, d2] }
  | _ => none }
def brainRightRow : OpenClaim := { program := "ythnigndpibgibaadoor", sum := "45e5f6f68fb552edcb5b8e8a579a151dc0cbb3f4fd93953aa2cfe89c1613d2f1", func := "herd/herdlaw13.BrainRight", spec := "brainRight", inPlace := ["slices.overlaps[herd/api.Kept]"], unfollowed := true, recurses := true, named := ["herd/brain.changes", "herd/conf.limits"], apart := false, laid := [("herd/conf.limits", laid_herd_conf_limits), ("herd/brain.changes", laid_herd_brain_changes)] }
def BrainRightSaid : Prop := brainRightRow.holds Tryd.pinned (OpenSpec.ofChange brainRightSpec)

/-- ITS FALSE NEIGHBOUR: 'it returns false'. Refute it at one input. -/
def brainRightWrong : ChangeSpec := { name := "brainRight", fn := fun _ => fun
  | [d1, d2] => { results := [.lit (.bool false)], args := [d1, d2] }
  | _ => none }
def BrainRightWrongFalsely : Prop := brainRightRow.holds Tryd.pinned (OpenSpec.ofChange brainRightWrong)

/-- 'herdlaw13.BrainTokens': WHATEVER THE INPUT: true; the input reads as it did. -/
def brainTokensSpec : ChangeSpec := { name := "brainTokens", fn := fun _ => fun
  | [d] => { results := [.lit (.bool true)], args := [d] }
  | _ => none }
def brainTokensRow : OpenClaim := { program := "ythnigndpibgibaadoor", sum := "45e5f6f68fb552edcb5b8e8a579a151dc0cbb3f4fd93953aa2cfe89c1613d2f1", func := "herd/herdlaw13.BrainTokens", spec := "brainTokens", inPlace := ["slices.overlaps[herd/api.Kept]"], unfollowed := true, recurses := true, named := ["herd/brain.changes", "herd/conf.limits"], apart := false, laid := [("herd/conf.limits", laid_herd_conf_limits), ("herd/brain.changes", laid_herd_brain_changes)] }
def BrainTokensSaid : Prop := brainTokensRow.holds Tryd.pinned (OpenSpec.ofChange brainTokensSpec)

/-- ITS FALSE NEIGHBOUR: 'it returns false'. Refute it at one input. -/
def brainTokensWrong : ChangeSpec := { name := "brainTokens", fn := fun _ => fun
  | [d] => { results := [.lit (.bool false)], args := [d] }
  | _ => none }
def BrainTokensWrongFalsely : Prop := brainTokensRow.holds Tryd.pinned (OpenSpec.ofChange brainTokensWrong)

/-- 'herdlaw13.BrainParts': WHATEVER THE INPUT: true; the input reads as it did. -/
def brainPartsSpec : ChangeSpec := { name := "brainParts", fn := fun _ => fun
  | [d1, d2, d3] => { results := [.lit (.bool true)], args := [d1, d2, d3] }
  | _ => none }
def brainPartsRow : OpenClaim := { program := "ythnigndpibgibaadoor", sum := "45e5f6f68fb552edcb5b8e8a579a151dc0cbb3f4fd93953aa2cfe89c1613d2f1", func := "herd/herdlaw13.BrainParts", spec := "brainParts", inPlace := ["slices.overlaps[herd/api.Kept]"], unfollowed := true, recurses := true, named := ["herd/brain.changes", "herd/conf.limits"], apart := false, laid := [("herd/conf.limits", laid_herd_conf_limits), ("herd/brain.changes", laid_herd_brain_changes)] }
def BrainPartsSaid : Prop := brainPartsRow.holds Tryd.pinned (OpenSpec.ofChange brainPartsSpec)

/-- ITS FALSE NEIGHBOUR: 'it returns false'. Refute it at one input. -/
def brainPartsWrong : ChangeSpec := { name := "brainParts", fn := fun _ => fun
  | [d1, d2, d3] => { results := [.lit (.bool false)], args := [d1, d2, d3] }
  | _ => none }
def BrainPartsWrongFalsely : Prop := brainPartsRow.holds Tryd.pinned (OpenSpec.ofChange brainPartsWrong)

/-- 'herdlaw13.BrainNot': WHATEVER THE INPUT: true; the input reads as it did. -/
def brainNotSpec : ChangeSpec := { name := "brainNot", fn := fun _ => fun
  | [d1, d2, d3, d4] => { results := [.lit (.bool true)], args := [d1, d2, d3, d4] }
  | _ => none }
def brainNotRow : OpenClaim := { program := "ythnigndpibgibaadoor", sum := "45e5f6f68fb552edcb5b8e8a579a151dc0cbb3f4fd93953aa2cfe89c1613d2f1", func := "herd/herdlaw13.BrainNot", spec := "brainNot", inPlace := ["slices.overlaps[herd/api.Kept]"], unfollowed := true, recurses := true, named := ["herd/brain.changes", "herd/conf.limits"], apart := false, laid := [("herd/conf.limits", laid_herd_conf_limits), ("herd/brain.changes", laid_herd_brain_changes)] }
def BrainNotSaid : Prop := brainNotRow.holds Tryd.pinned (OpenSpec.ofChange brainNotSpec)

/-- ITS FALSE NEIGHBOUR: 'it returns false'. Refute it at one input. -/
def brainNotWrong : ChangeSpec := { name := "brainNot", fn := fun _ => fun
  | [d1, d2, d3, d4] => { results := [.lit (.bool false)], args := [d1, d2, d3, d4] }
  | _ => none }
def BrainNotWrongFalsely : Prop := brainNotRow.holds Tryd.pinned (OpenSpec.ofChange brainNotWrong)

/-- 'herdlaw13.BrainOne': WHATEVER THE INPUT: true; the input reads as it did. -/
def brainOneSpec : ChangeSpec := { name := "brainOne", fn := fun _ => fun
  | [d1, d2] => { results := [.lit (.bool true)], args := [d1, d2] }
  | _ => none }
def brainOneRow : OpenClaim := { program := "ythnigndpibgibaadoor", sum := "45e5f6f68fb552edcb5b8e8a579a151dc0cbb3f4fd93953aa2cfe89c1613d2f1", func := "herd/herdlaw13.BrainOne", spec := "brainOne", inPlace := ["slices.overlaps[herd/api.Kept]"], unfollowed := true, recurses := true, named := ["herd/brain.changes", "herd/conf.limits"], apart := false, laid := [("herd/conf.limits", laid_herd_conf_limits), ("herd/brain.changes", laid_herd_brain_changes)] }
def BrainOneSaid : Prop := brainOneRow.holds Tryd.pinned (OpenSpec.ofChange brainOneSpec)

/-- ITS FALSE NEIGHBOUR: 'it returns false'. Refute it at one input. -/
def brainOneWrong : ChangeSpec := { name := "brainOne", fn := fun _ => fun
  | [d1, d2] => { results := [.lit (.bool false)], args := [d1, d2] }
  | _ => none }
def BrainOneWrongFalsely : Prop := brainOneRow.holds Tryd.pinned (OpenSpec.ofChange brainOneWrong)

/-- 'herdlaw13.BrainTells': WHATEVER THE INPUT: true; the input reads as it did. -/
def brainTellsSpec : ChangeSpec := { name := "brainTells", fn := fun _ => fun
  | [d1, d2, d3, d4, d5] => { results := [.lit (.bool true)], args := [d1, d2, d3, d4, d5] }
  | _ => none }
def brainTellsRow : OpenClaim := { program := "ythnigndpibgibaadoor", sum := "45e5f6f68fb552edcb5b8e8a579a151dc0cbb3f4fd93953aa2cfe89c1613d2f1", func := "herd/herdlaw13.BrainTells", spec := "brainTells", inPlace := ["slices.overlaps[herd/api.Kept]"], unfollowed := true, recurses := true, named := ["herd/brain.changes", "herd/conf.limits"], apart := false, laid := [("herd/conf.limits", laid_herd_conf_limits), ("herd/brain.changes", laid_herd_brain_changes)] }
def BrainTellsSaid : Prop := brainTellsRow.holds Tryd.pinned (OpenSpec.ofChange brainTellsSpec)

/-- ITS FALSE NEIGHBOUR: 'it returns false'. Refute it at one input. -/
def brainTellsWrong : ChangeSpec := { name := "brainTells", fn := fun _ => fun
  | [d1, d2, d3, d4, d5] => { results := [.lit (.bool false)], args := [d1, d2, d3, d4, d5] }
  | _ => none }
def BrainTellsWrongFalsely : Prop := brainTellsRow.holds Tryd.pinned (OpenSpec.ofChange brainTellsWrong)

/- THE SECOND FORM. 'bulk': how many values and letters a reading holds, each counted each time it is reached (what is shared counts as often as it is met; a slice's spare places count too). A statement '..UptoSaid' is the law's where the arguments, and the package variables that the reading takes, are together of bulk at most 1048576: NARROWER than '..Said'. Prove '..Said' where nothing that the law and all that it calls make is longer than what came in: it says more and counts as full. Else prove '..UptoSaid'. A law counts once. -/
mutual
def uptoBulk {H : Type} : DataW H → Nat
  | .lit (.string bytes) => bytes.length + 1
  | .lit _ => 1
  | .nil => 1
  | .ptr d => uptoBulk d + 1
  | .slice elems spare => uptoBulkAll elems + uptoBulkAll spare + 1
  | .agg parts => uptoBulkAll parts + 1
  | .iface _ d => uptoBulk d + 1
  | .map entries => uptoBulkEntries entries + 1
  | .held _ => 1
def uptoBulkAll {H : Type} : List (DataW H) → Nat
  | [] => 0
  | d :: r => uptoBulk d + uptoBulkAll r
def uptoBulkEntries {H : Type} : List (Lit × DataW H) → Nat
  | [] => 0
  | x :: r => uptoBulkEntry x + uptoBulkEntries r
def uptoBulkEntry {H : Type} : Lit × DataW H → Nat
  | (.string bytes, d) => bytes.length + uptoBulk d + 1
  | (_, d) => uptoBulk d + 1
 end
def uptoSmall : (H : Type) → List (DataW H) → Bool := fun _ ds => decide (uptoBulkAll ds ≤ 1048576)
def OpenSpec.upto (s : _root_.Go.ChangeSpec) : _root_.Go.OpenSpec := { _root_.Go.OpenSpec.ofChange s with cond := some uptoSmall }

/-- 'herdlaw13.BrainRight', WHERE WHAT IT READS IS OF BULK AT MOST 1048576: true; the input reads as it did. -/
def brainRightUptoRow : OpenClaim := { program := "ythnigndpibgibaadoor", sum := "45e5f6f68fb552edcb5b8e8a579a151dc0cbb3f4fd93953aa2cfe89c1613d2f1", func := "herd/herdlaw13.BrainRight", spec := "brainRight", inPlace := ["slices.overlaps[herd/api.Kept]"], unfollowed := true, recurses := true, named := ["herd/brain.changes", "herd/conf.limits"], apart := false, laid := [("herd/conf.limits", laid_herd_conf_limits), ("herd/brain.changes", laid_herd_brain_changes)], narrowed := true }
def BrainRightUptoSaid : Prop := brainRightUptoRow.holds Tryd.pinned (OpenSpec.upto brainRightSpec)

/-- 'herdlaw13.BrainTokens', WHERE WHAT IT READS IS OF BULK AT MOST 1048576: true; the input reads as it did. -/
def brainTokensUptoRow : OpenClaim := { program := "ythnigndpibgibaadoor", sum := "45e5f6f68fb552edcb5b8e8a579a151dc0cbb3f4fd93953aa2cfe89c1613d2f1", func := "herd/herdlaw13.BrainTokens", spec := "brainTokens", inPlace := ["slices.overlaps[herd/api.Kept]"], unfollowed := true, recurses := true, named := ["herd/brain.changes", "herd/conf.limits"], apart := false, laid := [("herd/conf.limits", laid_herd_conf_limits), ("herd/brain.changes", laid_herd_brain_changes)], narrowed := true }
def BrainTokensUptoSaid : Prop := brainTokensUptoRow.holds Tryd.pinned (OpenSpec.upto brainTokensSpec)

/-- 'herdlaw13.BrainParts', WHERE WHAT IT READS IS OF BULK AT MOST 1048576: true; the input reads as it did. -/
def brainPartsUptoRow : OpenClaim := { program := "ythnigndpibgibaadoor", sum := "45e5f6f68fb552edcb5b8e8a579a151dc0cbb3f4fd93953aa2cfe89c1613d2f1", func := "herd/herdlaw13.BrainParts", spec := "brainParts", inPlace := ["slices.overlaps[herd/api.Kept]"], unfollowed := true, recurses := true, named := ["herd/brain.changes", "herd/conf.limits"], apart := false, laid := [("herd/conf.limits", laid_herd_conf_limits), ("herd/brain.changes", laid_herd_brain_changes)], narrowed := true }
def BrainPartsUptoSaid : Prop := brainPartsUptoRow.holds Tryd.pinned (OpenSpec.upto brainPartsSpec)

/-- 'herdlaw13.BrainNot', WHERE WHAT IT READS IS OF BULK AT MOST 1048576: true; the input reads as it did. -/
def brainNotUptoRow : OpenClaim := { program := "ythnigndpibgibaadoor", sum := "45e5f6f68fb552edcb5b8e8a579a151dc0cbb3f4fd93953aa2cfe89c1613d2f1", func := "herd/herdlaw13.BrainNot", spec := "brainNot", inPlace := ["slices.overlaps[herd/api.Kept]"], unfollowed := true, recurses := true, named := ["herd/brain.changes", "herd/conf.limits"], apart := false, laid := [("herd/conf.limits", laid_herd_conf_limits), ("herd/brain.changes", laid_herd_brain_changes)], narrowed := true }
def BrainNotUptoSaid : Prop := brainNotUptoRow.holds Tryd.pinned (OpenSpec.upto brainNotSpec)

/-- 'herdlaw13.BrainOne', WHERE WHAT IT READS IS OF BULK AT MOST 1048576: true; the input reads as it did. -/
def brainOneUptoRow : OpenClaim := { program := "ythnigndpibgibaadoor", sum := "45e5f6f68fb552edcb5b8e8a579a151dc0cbb3f4fd93953aa2cfe89c1613d2f1", func := "herd/herdlaw13.BrainOne", spec := "brainOne", inPlace := ["slices.overlaps[herd/api.Kept]"], unfollowed := true, recurses := true, named := ["herd/brain.changes", "herd/conf.limits"], apart := false, laid := [("herd/conf.limits", laid_herd_conf_limits), ("herd/brain.changes", laid_herd_brain_changes)], narrowed := true }
def BrainOneUptoSaid : Prop := brainOneUptoRow.holds Tryd.pinned (OpenSpec.upto brainOneSpec)

/-- 'herdlaw13.BrainTells', WHERE WHAT IT READS IS OF BULK AT MOST 1048576: true; the input reads as it did. -/
def brainTellsUptoRow : OpenClaim := { program := "ythnigndpibgibaadoor", sum := "45e5f6f68fb552edcb5b8e8a579a151dc0cbb3f4fd93953aa2cfe89c1613d2f1", func := "herd/herdlaw13.BrainTells", spec := "brainTells", inPlace := ["slices.overlaps[herd/api.Kept]"], unfollowed := true, recurses := true, named := ["herd/brain.changes", "herd/conf.limits"], apart := false, laid := [("herd/conf.limits", laid_herd_conf_limits), ("herd/brain.changes", laid_herd_brain_changes)], narrowed := true }
def BrainTellsUptoSaid : Prop := brainTellsUptoRow.holds Tryd.pinned (OpenSpec.upto brainTellsSpec)

end Rows
end Go.Proofs.YthnigndpibgibaaDoor
