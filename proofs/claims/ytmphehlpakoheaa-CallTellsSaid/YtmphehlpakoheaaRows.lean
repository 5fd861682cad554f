/-
  No cell of these rows narrows 'for every input' (looked for: loops, veiled, ifaces, maps, wideKeys, modest, calm, conditions, laid).
  DERIVED. THE GIVEN ROWS OF THIS SEAT. 5 by the template 'for every input the law returns true; each argument reads behind the call as it read before'; 0 by the template 'total and deterministic' (their statements: YtmphehlpakoheaaTotals.lean).
  GIVEN WITH THE SEED: the statements are not yours to turn. If you find one false, say at which input.
  Laid BY PROGRAM, IN A SANDBOX (cutbox-rows.mjs): the forced cells as the released guide's own fill.sh prints them over the translation 929950e67aeaf2de… (all of the seat's roots in one cut). By AI agents, Wed Nov 11 2026. No macro, syntax, notation, axiom, sorry.
-/
import Derived.Test.YtmphehlpakoheaaChecked
import GoSem.Claim
import GoSem.ClaimJoined
import GoSem.ClaimMapViews
import Derived.JoinedTies
import Derived.KernelRfl
namespace Go.Proofs.Ytmphehlpakoheaa
/- THE CELL 'sum', in the pinned program and in every row, IS THE sha256 OF THE DUMP (.gsa) THAT YtmphehlpakoheaaProg.lean LOADS. Nothing in Lean hashes anything: it is a label: what it is worth is what the hold of that sum in a sandbox is worth. -/
noncomputable def Try.pinned : Pinned := { name := "ytmphehlpakoheaa", sum := "929950e67aeaf2deb2f97b8dd9ea69a0b2e2438888f30708b27f071e32a70c0d", checked := Try.checked }
namespace Rows
def none {H : Type} : Left H := { results := [], args := [] }

/-- 'herdlaw12.CallClose': WHATEVER THE INPUT: true; the input reads as it did. -/
def callCloseSpec : ChangeSpec := { name := "callClose", fn := fun _ => fun
  | [d1, d2, d3] => { results := [.lit (.bool true)], args := [d1, d2, d3] }
  | _ => none }
def callCloseRow : OpenClaim := { program := "ytmphehlpakoheaa", sum := "929950e67aeaf2deb2f97b8dd9ea69a0b2e2438888f30708b27f071e32a70c0d", func := "herd/herdlaw12.CallClose", spec := "callClose", unfollowed := true, recurses := true, plainKeys := false, apart := false }
def CallCloseSaid : Prop := callCloseRow.holds Try.pinned (OpenSpec.ofChange callCloseSpec)

/-- ITS FALSE NEIGHBOUR: 'it returns false'. Refute it at one input. -/
def callCloseWrong : ChangeSpec := { name := "callClose", fn := fun _ => fun
  | [d1, d2, d3] => { results := [.lit (.bool false)], args := [d1, d2, d3] }
  | _ => none }
def CallCloseWrongFalsely : Prop := callCloseRow.holds Try.pinned (OpenSpec.ofChange callCloseWrong)

/-- 'herdlaw12.CallTells': WHATEVER THE INPUT: true; the input reads as it did. -/
def callTellsSpec : ChangeSpec := { name := "callTells", fn := fun _ => fun
  | [d1, d2, d3, d4, d5, d6, d7] => { results := [.lit (.bool true)], args := [d1, d2, d3, d4, d5, d6, d7] }
  | _ => none }
def callTellsRow : OpenClaim := { program := "ytmphehlpakoheaa", sum := "929950e67aeaf2deb2f97b8dd9ea69a0b2e2438888f30708b27f071e32a70c0d", func := "herd/herdlaw12.CallTells", spec := "callTells", unfollowed := true, recurses := true, plainKeys := false, apart := false }
def CallTellsSaid : Prop := callTellsRow.holds Try.pinned (OpenSpec.ofChange callTellsSpec)

/-- ITS FALSE NEIGHBOUR: 'it returns false'. Refute it at one input. -/
def callTellsWrong : ChangeSpec := { name := "callTells", fn := fun _ => fun
  | [d1, d2, d3, d4, d5, d6, d7] => { results := [.lit (.bool false)], args := [d1, d2, d3, d4, d5, d6, d7] }
  | _ => none }
def CallTellsWrongFalsely : Prop := callTellsRow.holds Try.pinned (OpenSpec.ofChange callTellsWrong)

/-- 'herdlaw12.CallNumbers': WHATEVER THE INPUT: true; the input reads as it did. -/
def callNumbersSpec : ChangeSpec := { name := "callNumbers", fn := fun _ => fun
  | [d1, d2, d3] => { results := [.lit (.bool true)], args := [d1, d2, d3] }
  | _ => none }
def callNumbersRow : OpenClaim := { program := "ytmphehlpakoheaa", sum := "929950e67aeaf2deb2f97b8dd9ea69a0b2e2438888f30708b27f071e32a70c0d", func := "herd/herdlaw12.CallNumbers", spec := "callNumbers", unfollowed := true, recurses := true, plainKeys := false, apart := false }
def CallNumbersSaid : Prop := callNumbersRow.holds Try.pinned (OpenSpec.ofChange callNumbersSpec)

/-- ITS FALSE NEIGHBOUR: 'it returns false'. Refute it at one input. -/
def callNumbersWrong : ChangeSpec := { name := "callNumbers", fn := fun _ => fun
  | [d1, d2, d3] => { results := [.lit (.bool false)], args := [d1, d2, d3] }
  | _ => none }
def CallNumbersWrongFalsely : Prop := callNumbersRow.holds Try.pinned (OpenSpec.ofChange callNumbersWrong)

/-- 'herdlaw12.CallLate': WHATEVER THE INPUT: true; the input reads as it did. -/
def callLateSpec : ChangeSpec := { name := "callLate", fn := fun _ => fun
  | [d1, d2, d3] => { results := [.lit (.bool true)], args := [d1, d2, d3] }
  | _ => none }
def callLateRow : OpenClaim := { program := "ytmphehlpakoheaa", sum := "929950e67aeaf2deb2f97b8dd9ea69a0b2e2438888f30708b27f071e32a70c0d", func := "herd/herdlaw12.CallLate", spec := "callLate", unfollowed := true, recurses := true, plainKeys := false, apart := false }
def CallLateSaid : Prop := callLateRow.holds Try.pinned (OpenSpec.ofChange callLateSpec)

/-- ITS FALSE NEIGHBOUR: 'it returns false'. Refute it at one input. -/
def callLateWrong : ChangeSpec := { name := "callLate", fn := fun _ => fun
  | [d1, d2, d3] => { results := [.lit (.bool false)], args := [d1, d2, d3] }
  | _ => none }
def CallLateWrongFalsely : Prop := callLateRow.holds Try.pinned (OpenSpec.ofChange callLateWrong)

/-- 'herdlaw12.CallFull': WHATEVER THE INPUT: true; the input reads as it did. -/
def callFullSpec : ChangeSpec := { name := "callFull", fn := fun _ => fun
  | [d1, d2, d3, d4] => { results := [.lit (.bool true)], args := [d1, d2, d3, d4] }
  | _ => none }
def callFullRow : OpenClaim := { program := "ytmphehlpakoheaa", sum := "929950e67aeaf2deb2f97b8dd9ea69a0b2e2438888f30708b27f071e32a70c0d", func := "herd/herdlaw12.CallFull", spec := "callFull", unfollowed := true, recurses := true, plainKeys := false, apart := false }
def CallFullSaid : Prop := callFullRow.holds Try.pinned (OpenSpec.ofChange callFullSpec)

/-- ITS FALSE NEIGHBOUR: 'it returns false'. Refute it at one input. -/
def callFullWrong : ChangeSpec := { name := "callFull", fn := fun _ => fun
  | [d1, d2, d3, d4] => { results := [.lit (.bool false)], args := [d1, d2, d3, d4] }
  | _ => none }
def CallFullWrongFalsely : Prop := callFullRow.holds Try.pinned (OpenSpec.ofChange callFullWrong)

/- THE SECOND FORM. 'bulk': how many values and letters a reading holds, each counted each time it is reached (what is shared counts as often as it is met; a slice's spare places count too). A statement '..UptoSaid' is the law's where the arguments, and the package variables that the reading takes, are together of bulk at most 1048576: NARROWER than '..Said'. Prove '..Said' where nothing that the law and all that it calls make is longer than what came in: it says more and counts as full. Else prove '..UptoSaid'. A law counts once. -/
mutual
def uptoBulk {H : Type} : DataW H → Nat
  | .lit (.string bytes) => bytes.length + 1
  | .lit _ => 1
  | .nil => 1
  | .ptr d => uptoBulk d + 1
  | .slice elems spare => uptoBulkAll elems + uptoBulkAll spare + 1
  | .agg parts => uptoBulkAll parts + 1
  | .iface _ d => uptoBulk d + 1
  | .map entries => uptoBulkEntries entries + 1
  | .held _ => 1
def uptoBulkAll {H : Type} : List (DataW H) → Nat
  | [] => 0
  | d :: r => uptoBulk d + uptoBulkAll r
def uptoBulkEntries {H : Type} : List (Lit × DataW H) → Nat
  | [] => 0
  | x :: r => uptoBulkEntry x + uptoBulkEntries r
def uptoBulkEntry {H : Type} : Lit × DataW H → Nat
  | (.string bytes, d) => bytes.length + uptoBulk d + 1
  | (_, d) => uptoBulk d + 1
 end
def uptoSmall : (H : Type) → List (DataW H) → Bool := fun _ ds => decide (uptoBulkAll ds ≤ 1048576)
def OpenSpec.upto (s : _root_.Go.ChangeSpec) : _root_.Go.OpenSpec := { _root_.Go.OpenSpec.ofChange s with cond := some uptoSmall }

/-- 'herdlaw12.CallClose', WHERE WHAT IT READS IS OF BULK AT MOST 1048576: true; the input reads as it did. -/
def callCloseUptoRow : OpenClaim := { program := "ytmphehlpakoheaa", sum := "929950e67aeaf2deb2f97b8dd9ea69a0b2e2438888f30708b27f071e32a70c0d", func := "herd/herdlaw12.CallClose", spec := "callClose", unfollowed := true, recurses := true, plainKeys := false, apart := false, narrowed := true }
def CallCloseUptoSaid : Prop := callCloseUptoRow.holds Try.pinned (OpenSpec.upto callCloseSpec)

/-- 'herdlaw12.CallTells', WHERE WHAT IT READS IS OF BULK AT MOST 1048576: true; the input reads as it did. -/
def callTellsUptoRow : OpenClaim := { program := "ytmphehlpakoheaa", sum := "929950e67aeaf2deb2f97b8dd9ea69a0b2e2438888f30708b27f071e32a70c0d", func := "herd/herdlaw12.CallTells", spec := "callTells", unfollowed := true, recurses := true, plainKeys := false, apart := false, narrowed := true }
def CallTellsUptoSaid : Prop := callTellsUptoRow.holds Try.pinned (OpenSpec.upto callTellsSpec)

/-- 'herdlaw12.CallNumbers', WHERE WHAT IT READS IS OF BULK AT MOST 1048576: true; the input reads as it did. -/
def callNumbersUptoRow : OpenClaim := { program := "ytmphehlpakoheaa", sum := "929950e67aeaf2deb2f97b8dd9ea69a0b2e2438888f30708b27f071e32a70c0d", func := "herd/herdlaw12.CallNumbers", spec := "callNumbers", unfollowed := true, recurses := true, plainKeys := false, apart := false, narrowed := true }
def CallNumbersUptoSaid : Prop := callNumbersUptoRow.holds Try.pinned (OpenSpec.upto callNumbersSpec)

/-- 'herdlaw12.CallLate', WHERE WHAT IT READS IS OF BULK AT MOST 1048576: true; the input reads as it did. -/
def callLateUptoRow : OpenClaim := { program := "ytmphehlpakoheaa", sum := "929950e67aeaf2deb2f97b8dd9ea69a0b2e2438888f30708b27f071e32a70c0d", func := "herd/herdlaw12.CallLate", spec := "callLate", unfollowed := true, recurses := true, plainKeys := false, apart := false, narrowed := true }
def CallLateUptoSaid : Prop := callLateUptoRow.holds Try.pinned (OpenSpec.upto callLateSpec)

/-- 'herdlaw12.CallFull', WHERE WHAT IT READS IS OF BULK AT MOST 1048576: true; the input reads as it did. -/
def callFullUptoRow : OpenClaim := { program := "ytmphehlpakoheaa", sum := "929950e67aeaf2deb2f97b8dd9ea69a0b2e2438888f30708b27f071e32a70c0d", func := "herd/herdlaw12.CallFull", spec := "callFull", unfollowed := true, recurses := true, plainKeys := false, apart := false, narrowed := true }
def CallFullUptoSaid : Prop := callFullUptoRow.holds Try.pinned (OpenSpec.upto callFullSpec)

end Rows
end Go.Proofs.Ytmphehlpakoheaa
