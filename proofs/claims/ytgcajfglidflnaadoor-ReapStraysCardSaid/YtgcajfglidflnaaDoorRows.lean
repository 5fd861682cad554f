/-
  NARROWER THAN 'FOR EVERY INPUT', by the rows' own cells (each row's printed sentence says how): ReapStays: laid · ReapStrays: laid · ReapPages: laid.
  DERIVED. THE GIVEN ROWS OF THIS SEAT. 3 by the template 'for every input the law returns true; each argument reads behind the call as it read before'; 0 by the template 'total and deterministic' (their statements: YtgcajfglidflnaaDoorTotals.lean).
  GIVEN WITH THE SEED: the statements are not yours to turn. If you find one false, say at which input.
  Laid BY PROGRAM, IN A SANDBOX (cutbox-rows.mjs): the forced cells as the released guide's own fill.sh prints them over the translation 494e1b96be500ab0… (all of the seat's roots in one cut). By AI agents, Wed Nov 11 2026. No macro, syntax, notation, axiom, sorry.
-/
import Derived.Test.YtgcajfglidflnaaDoorChecked
import GoSem.Claim
import GoSem.ClaimJoined
import GoSem.ClaimMapViews
import Derived.JoinedTies
import Derived.KernelRfl
namespace Go.Proofs.YtgcajfglidflnaaDoor
/- THE CELL 'sum', in the pinned program and in every row, IS THE sha256 OF THE DUMP (.gsa) THAT YtgcajfglidflnaaDoorProg.lean LOADS. Nothing in Lean hashes anything: it is a label: what it is worth is what the hold of that sum in a sandbox is worth. -/
noncomputable def Tryd.pinned : Pinned := { name := "ytgcajfglidflnaadoor", sum := "494e1b96be500ab07be4bc91b696c88f1bef04161cbfae9b72c2f7dc45f96930", checked := Tryd.checked }
namespace Rows
def none {H : Type} : Left H := { results := [], args := [] }

/- WHAT THE LISTED PACKAGE-LEVEL VARIABLES READ AS WHEN THE CALL BEGINS. Each datum BY PROGRAM (the guide's laid-datum.mjs) off the statement by which the dump's own 'gosem.cut.vars' lays the variable. In a bare row this is a premise. The card (YtgcajfglidflnaaDoorCards.lean) ties it to the program's text. -/
def laid_herd_conf_limits {H : Type} : DataW H := .agg [.agg [.lit (.int .i64 0), .lit (.int .i64 6)], .agg [.lit (.int .i64 0), .lit (.int .i64 100)], .agg [.lit (.int .i64 0), .lit (.int .i64 3)], .agg [.lit (.int .i64 0), .lit (.int .i64 3)], .agg [.lit (.int .i64 0), .lit (.int .i64 20)], .agg [.lit (.int .i64 0), .lit (.int .i64 20)], .agg [.lit (.int .i64 0), .lit (.int .i64 20)], .agg [.lit (.int .i64 0), .lit (.int .i64 20)], .agg [.lit (.int .i64 1), .lit (.int .i64 20)], .agg [.lit (.int .i64 1), .lit (.int .i64 20)], .agg [.lit (.int .i64 1), .lit (.int .i64 20)], .agg [.lit (.int .i64 0), .lit (.int .i64 20)], .agg [.lit (.int .i64 1), .lit (.int .i64 1099511627776)]]
def laid_herd_brain_changes {H : Type} : DataW H := .agg [.nil, .slice [.lit (.int .u8 2), .lit (.int .u8 8)] [], .slice [.lit (.int .u8 3), .lit (.int .u8 8)] [], .slice [.lit (.int .u8 4)] [], .slice [.lit (.int .u8 5), .lit (.int .u8 3)] [], .slice [.lit (.int .u8 6), .lit (.int .u8 4)] [], .slice [.lit (.int .u8 7)] [], .slice [.lit (.int .u8 8)] [], .nil, .slice [.lit (.int .u8 10), .lit (.int .u8 8)] [], .slice [.lit (.int .u8 1)] []]

/-- 'herdlaw21.ReapStays': WHATEVER THE INPUT: true; the input reads as it did. -/
def reapStaysSpec : ChangeSpec := { name := "reapStays", fn := fun _ => fun
  | [d1, d2, d3] => { results := [.lit (.bool true)], args := [d1, d2, d3] }
  | _ => none }
def reapStaysRow : OpenClaim := { program := "ytgcajfglidflnaadoor", sum := "494e1b96be500ab07be4bc91b696c88f1bef04161cbfae9b72c2f7dc45f96930", func := "herd/herdlaw21.ReapStays", spec := "reapStays", inPlace := ["slices.overlaps[herd/api.Kept]"], unfollowed := true, recurses := true, named := ["herd/brain.changes", "herd/conf.limits"], apart := false, laid := [("herd/conf.limits", laid_herd_conf_limits), ("herd/brain.changes", laid_herd_brain_changes)] }
def ReapStaysSaid : Prop := reapStaysRow.holds Tryd.pinned (OpenSpec.ofChange reapStaysSpec)

/-- ITS FALSE NEIGHBOUR: 'it returns false'. Refute it at one input. -/
def reapStaysWrong : ChangeSpec := { name := "reapStays", fn := fun _ => fun
  | [d1, d2, d3] => { results := [.lit (.bool false)], args := [d1, d2, d3] }
  | _ => none }
def ReapStaysWrongFalsely : Prop := reapStaysRow.holds Tryd.pinned (OpenSpec.ofChange reapStaysWrong)

/-- 'herdlaw21.ReapStrays': WHATEVER THE INPUT: true; the input reads as it did. -/
def reapStraysSpec : ChangeSpec := { name := "reapStrays", fn := fun _ => fun
  | [d1, d2, d3] => { results := [.lit (.bool true)], args := [d1, d2, d3] }
  | _ => none }
def reapStraysRow : OpenClaim := { program := "ytgcajfglidflnaadoor", sum := "494e1b96be500ab07be4bc91b696c88f1bef04161cbfae9b72c2f7dc45f96930", func := "herd/herdlaw21.ReapStrays", spec := "reapStrays", inPlace := ["slices.overlaps[herd/api.Kept]"], unfollowed := true, recurses := true, named := ["herd/brain.changes", "herd/conf.limits"], apart := false, laid := [("herd/conf.limits", laid_herd_conf_limits), ("herd/brain.changes", laid_herd_brain_changes)] }
def ReapStraysSaid : Prop := reapStraysRow.holds Tryd.pinned (OpenSpec.ofChange reapStraysSpec)

/-- ITS FALSE NEIGHBOUR: 'it returns false'. Refute it at one input. -/
def reapStraysWrong : ChangeSpec := { name := "reapStrays", fn := fun _ => fun
  | [d1, d2, d3] => { results := [.lit (.bool false)], args := [d1, d2, d3] }
  | _ => none }
def ReapStraysWrongFalsely : Prop := reapStraysRow.holds Tryd.pinned (OpenSpec.ofChange reapStraysWrong)

/-- 'herdlaw21.ReapPages': WHATEVER THE INPUT: true; the input reads as it did. -/
def reapPagesSpec : ChangeSpec := { name := "reapPages", fn := fun _ => fun
  | [d1, d2] => { results := [.lit (.bool true)], args := [d1, d2] }
  | _ => none }
def reapPagesRow : OpenClaim := { program := "ytgcajfglidflnaadoor", sum := "494e1b96be500ab07be4bc91b696c88f1bef04161cbfae9b72c2f7dc45f96930", func := "herd/herdlaw21.ReapPages", spec := "reapPages", inPlace := ["slices.overlaps[herd/api.Kept]"], unfollowed := true, recurses := true, named := ["herd/brain.changes", "herd/conf.limits"], apart := false, laid := [("herd/conf.limits", laid_herd_conf_limits), ("herd/brain.changes", laid_herd_brain_changes)] }
def ReapPagesSaid : Prop := reapPagesRow.holds Tryd.pinned (OpenSpec.ofChange reapPagesSpec)

/-- ITS FALSE NEIGHBOUR: 'it returns false'. Refute it at one input. -/
def reapPagesWrong : ChangeSpec := { name := "reapPages", fn := fun _ => fun
  | [d1, d2] => { results := [.lit (.bool false)], args := [d1, d2] }
  | _ => none }
def ReapPagesWrongFalsely : Prop := reapPagesRow.holds Tryd.pinned (OpenSpec.ofChange reapPagesWrong)

/- THE SECOND FORM. 'bulk': how many values and letters a reading holds, each counted each time it is reached (what is shared counts as often as it is met; a slice's spare places count too). A statement '..UptoSaid' is the law's where the arguments, and the package variables that the reading takes, are together of bulk at most 1048576: NARROWER than '..Said'. Prove '..Said' where nothing that the law and all that it calls make is longer than what came in: it says more and counts as full. Else prove '..UptoSaid'. A law counts once. -/
mutual
def uptoBulk {H : Type} : DataW H → Nat
  | .lit (.string bytes) => bytes.length + 1
  | .lit _ => 1
  | .nil => 1
  | .ptr d => uptoBulk d + 1
  | .slice elems spare => uptoBulkAll elems + uptoBulkAll spare + 1
  | .agg parts => uptoBulkAll parts + 1
  | .iface _ d => uptoBulk d + 1
  | .map entries => uptoBulkEntries entries + 1
  | .held _ => 1
def uptoBulkAll {H : Type} : List (DataW H) → Nat
  | [] => 0
  | d :: r => uptoBulk d + uptoBulkAll r
def uptoBulkEntries {H : Type} : List (Lit × DataW H) → Nat
  | [] => 0
  | x :: r => uptoBulkEntry x + uptoBulkEntries r
def uptoBulkEntry {H : Type} : Lit × DataW H → Nat
  | (.string bytes, d) => bytes.length + uptoBulk d + 1
  | (_, d) => uptoBulk d + 1
 end
def uptoSmall : (H : Type) → List (DataW H) → Bool := fun _ ds => decide (uptoBulkAll ds ≤ 1048576)
def OpenSpec.upto (s : _root_.Go.ChangeSpec) : _root_.Go.OpenSpec := { _root_.Go.OpenSpec.ofChange s with cond := some uptoSmall }

/-- 'herdlaw21.ReapStays', WHERE WHAT IT READS IS OF BULK AT MOST 1048576: true; the input reads as it did. -/
def reapStaysUptoRow : OpenClaim := { program := "ytgcajfglidflnaadoor", sum := "494e1b96be500ab07be4bc91b696c88f1bef04161cbfae9b72c2f7dc45f96930", func := "herd/herdlaw21.ReapStays", spec := "reapStays", inPlace := ["slices.overlaps[herd/api.Kept]"], unfollowed := true, recurses := true, named := ["herd/brain.changes", "herd/conf.limits"], apart := false, laid := [("herd/conf.limits", laid_herd_conf_limits), ("herd/brain.changes", laid_herd_brain_changes)], narrowed := true }
def ReapStaysUptoSaid : Prop := reapStaysUptoRow.holds Tryd.pinned (OpenSpec.upto reapStaysSpec)

/-- 'herdlaw21.ReapStrays', WHERE WHAT IT READS IS OF BULK AT MOST 1048576: true; the input reads as it did. -/
def reapStraysUptoRow : OpenClaim := { program := "ytgcajfglidflnaadoor", sum := "494e1b96be500ab07be4bc91b696c88f1bef04161cbfae9b72c2f7dc45f96930", func := "herd/herdlaw21.ReapStrays", spec := "reapStrays", inPlace := ["slices.overlaps[herd/api.Kept]"], unfollowed := true, recurses := true, named := ["herd/brain.changes", "herd/conf.limits"], apart := false, laid := [("herd/conf.limits", laid_herd_conf_limits), ("herd/brain.changes", laid_herd_brain_changes)], narrowed := true }
def ReapStraysUptoSaid : Prop := reapStraysUptoRow.holds Tryd.pinned (OpenSpec.upto reapStraysSpec)

/-- 'herdlaw21.ReapPages', WHERE WHAT IT READS IS OF BULK AT MOST 1048576: true; the input reads as it did. -/
def reapPagesUptoRow : OpenClaim := { program := "ytgcajfglidflnaadoor", sum := "494e1b96be500ab07be4bc91b696c88f1bef04161cbfae9b72c2f7dc45f96930", func := "herd/herdlaw21.ReapPages", spec := "reapPages", inPlace := ["slices.overlaps[herd/api.Kept]"], unfollowed := true, recurses := true, named := ["herd/brain.changes", "herd/conf.limits"], apart := false, laid := [("herd/conf.limits", laid_herd_conf_limits), ("herd/brain.changes", laid_herd_brain_changes)], narrowed := true }
def ReapPagesUptoSaid : Prop := reapPagesUptoRow.holds Tryd.pinned (OpenSpec.upto reapPagesSpec)

end Rows
end Go.Proofs.YtgcajfglidflnaaDoor
