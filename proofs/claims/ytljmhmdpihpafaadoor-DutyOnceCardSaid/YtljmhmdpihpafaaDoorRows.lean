/-
  NARROWER THAN 'FOR EVERY INPUT', by the rows' own cells (each row's printed sentence says how): DutyOnce: laid · DutyTokens: laid · DutyDrop: laid.
  DERIVED. THE GIVEN ROWS OF THIS SEAT. 3 by the template 'for every input the law returns true; each argument reads behind the call as it read before'; 0 by the template 'total and deterministic' (their statements: YtljmhmdpihpafaaDoorTotals.lean).
  GIVEN WITH THE SEED: the statements are not yours to turn. If you find one false, say at which input.
  Laid BY PROGRAM, IN A SANDBOX (cutbox-rows.mjs): the forced cells as the released guide's own fill.sh prints them over the translation af626f7f1c44ef38… (all of the seat's roots in one cut). By AI agents, Wed Nov 11 2026. No macro, syntax, notation, axiom, sorry.
-/
import Derived.Test.YtljmhmdpihpafaaDoorChecked
import GoSem.Claim
import GoSem.ClaimJoined
import GoSem.ClaimMapViews
import Derived.JoinedTies
import Derived.KernelRfl
namespace Go.Proofs.YtljmhmdpihpafaaDoor
/- THE CELL 'sum', in the pinned program and in every row, IS THE sha256 OF THE DUMP (.gsa) THAT YtljmhmdpihpafaaDoorProg.lean LOADS. Nothing in Lean hashes anything: it is a label: what it is worth is what the hold of that sum in a sandbox is worth. -/
noncomputable def Tryd.pinned : Pinned := { name := "ytljmhmdpihpafaadoor", sum := "af626f7f1c44ef3870f0f37e5c0ccfc4d54552e27ebb71b6d5a2db4f10679441", checked := Tryd.checked }
namespace Rows
def none {H : Type} : Left H := { results := [], args := [] }

/- WHAT THE LISTED PACKAGE-LEVEL VARIABLES READ AS WHEN THE CALL BEGINS. Each datum BY PROGRAM (the guide's laid-datum.mjs) off the statement by which the dump's own 'gosem.cut.vars' lays the variable. In a bare row this is a premise. The card (YtljmhmdpihpafaaDoorCards.lean) ties it to the program's text. -/
def laid_herd_duty_asked {H : Type} : DataW H := .map [(.int .u8 3, .lit (.int .u8 4)), (.int .u8 5, .lit (.int .u8 5)), (.int .u8 8, .lit (.int .u8 6)), (.int .u8 10, .lit (.int .u8 2))]

/-- 'herdlaw20.DutyOnce': WHATEVER THE INPUT: true; the input reads as it did. -/
def dutyOnceSpec : ChangeSpec := { name := "dutyOnce", fn := fun _ => fun
  | [d1, d2, d3] => { results := [.lit (.bool true)], args := [d1, d2, d3] }
  | _ => none }
def dutyOnceRow : OpenClaim := { program := "ytljmhmdpihpafaadoor", sum := "af626f7f1c44ef3870f0f37e5c0ccfc4d54552e27ebb71b6d5a2db4f10679441", func := "herd/herdlaw20.DutyOnce", spec := "dutyOnce", unfollowed := true, recurses := true, named := ["herd/duty.asked"], plainKeys := false, apart := false, laid := [("herd/duty.asked", laid_herd_duty_asked)] }
def DutyOnceSaid : Prop := dutyOnceRow.holds Tryd.pinned (OpenSpec.ofChange dutyOnceSpec)

/-- ITS FALSE NEIGHBOUR: 'it returns false'. Refute it at one input. -/
def dutyOnceWrong : ChangeSpec := { name := "dutyOnce", fn := fun _ => fun
  | [d1, d2, d3] => { results := [.lit (.bool false)], args := [d1, d2, d3] }
  | _ => none }
def DutyOnceWrongFalsely : Prop := dutyOnceRow.holds Tryd.pinned (OpenSpec.ofChange dutyOnceWrong)

/-- 'herdlaw20.DutyTokens': WHATEVER THE INPUT: true; the input reads as it did. -/
def dutyTokensSpec : ChangeSpec := { name := "dutyTokens", fn := fun _ => fun
  | [d1, d2] => { results := [.lit (.bool true)], args := [d1, d2] }
  | _ => none }
def dutyTokensRow : OpenClaim := { program := "ytljmhmdpihpafaadoor", sum := "af626f7f1c44ef3870f0f37e5c0ccfc4d54552e27ebb71b6d5a2db4f10679441", func := "herd/herdlaw20.DutyTokens", spec := "dutyTokens", unfollowed := true, recurses := true, named := ["herd/duty.asked"], plainKeys := false, apart := false, laid := [("herd/duty.asked", laid_herd_duty_asked)] }
def DutyTokensSaid : Prop := dutyTokensRow.holds Tryd.pinned (OpenSpec.ofChange dutyTokensSpec)

/-- ITS FALSE NEIGHBOUR: 'it returns false'. Refute it at one input. -/
def dutyTokensWrong : ChangeSpec := { name := "dutyTokens", fn := fun _ => fun
  | [d1, d2] => { results := [.lit (.bool false)], args := [d1, d2] }
  | _ => none }
def DutyTokensWrongFalsely : Prop := dutyTokensRow.holds Tryd.pinned (OpenSpec.ofChange dutyTokensWrong)

/-- 'herdlaw20.DutyDrop': WHATEVER THE INPUT: true; the input reads as it did. -/
def dutyDropSpec : ChangeSpec := { name := "dutyDrop", fn := fun _ => fun
  | [d1, d2] => { results := [.lit (.bool true)], args := [d1, d2] }
  | _ => none }
def dutyDropRow : OpenClaim := { program := "ytljmhmdpihpafaadoor", sum := "af626f7f1c44ef3870f0f37e5c0ccfc4d54552e27ebb71b6d5a2db4f10679441", func := "herd/herdlaw20.DutyDrop", spec := "dutyDrop", unfollowed := true, recurses := true, named := ["herd/duty.asked"], plainKeys := false, apart := false, laid := [("herd/duty.asked", laid_herd_duty_asked)] }
def DutyDropSaid : Prop := dutyDropRow.holds Tryd.pinned (OpenSpec.ofChange dutyDropSpec)

/-- ITS FALSE NEIGHBOUR: 'it returns false'. Refute it at one input. -/
def dutyDropWrong : ChangeSpec := { name := "dutyDrop", fn := fun _ => fun
  | [d1, d2] => { results := [.lit (.bool false)], args := [d1, d2] }
  | _ => none }
def DutyDropWrongFalsely : Prop := dutyDropRow.holds Tryd.pinned (OpenSpec.ofChange dutyDropWrong)

/- THE SECOND FORM. 'bulk': how many values and letters a reading holds, each counted each time it is reached (what is shared counts as often as it is met; a slice's spare places count too). A statement '..UptoSaid' is the law's where the arguments, and the package variables that the reading takes, are together of bulk at most 1048576: NARROWER than '..Said'. Prove '..Said' where nothing that the law and all that it calls make is longer than what came in: it says more and counts as full. Else prove '..UptoSaid'. A law counts once. -/
mutual
def uptoBulk {H : Type} : DataW H → Nat
  | .lit (.string bytes) => bytes.length + 1
  | .lit _ => 1
  | .nil => 1
  | .ptr d => uptoBulk d + 1
  | .slice elems spare => uptoBulkAll elems + uptoBulkAll spare + 1
  | .agg parts => uptoBulkAll parts + 1
  | .iface _ d => uptoBulk d + 1
  | .map entries => uptoBulkEntries entries + 1
  | .held _ => 1
def uptoBulkAll {H : Type} : List (DataW H) → Nat
  | [] => 0
  | d :: r => uptoBulk d + uptoBulkAll r
def uptoBulkEntries {H : Type} : List (Lit × DataW H) → Nat
  | [] => 0
  | x :: r => uptoBulkEntry x + uptoBulkEntries r
def uptoBulkEntry {H : Type} : Lit × DataW H → Nat
  | (.string bytes, d) => bytes.length + uptoBulk d + 1
  | (_, d) => uptoBulk d + 1
 end
def uptoSmall : (H : Type) → List (DataW H) → Bool := fun _ ds => decide (uptoBulkAll ds ≤ 1048576)
def OpenSpec.upto (s : _root_.Go.ChangeSpec) : _root_.Go.OpenSpec := { _root_.Go.OpenSpec.ofChange s with cond := some uptoSmall }

/-- 'herdlaw20.DutyOnce', WHERE WHAT IT READS IS OF BULK AT MOST 1048576: true; the input reads as it did. -/
def dutyOnceUptoRow : OpenClaim := { program := "ytljmhmdpihpafaadoor", sum := "af626f7f1c44ef3870f0f37e5c0ccfc4d54552e27ebb71b6d5a2db4f10679441", func := "herd/herdlaw20.DutyOnce", spec := "dutyOnce", unfollowed := true, recurses := true, named := ["herd/duty.asked"], plainKeys := false, apart := false, laid := [("herd/duty.asked", laid_herd_duty_asked)], narrowed := true }
def DutyOnceUptoSaid : Prop := dutyOnceUptoRow.holds Tryd.pinned (OpenSpec.upto dutyOnceSpec)

/-- 'herdlaw20.DutyTokens', WHERE WHAT IT READS IS OF BULK AT MOST 1048576: true; the input reads as it did. -/
def dutyTokensUptoRow : OpenClaim := { program := "ytljmhmdpihpafaadoor", sum := "af626f7f1c44ef3870f0f37e5c0ccfc4d54552e27ebb71b6d5a2db4f10679441", func := "herd/herdlaw20.DutyTokens", spec := "dutyTokens", unfollowed := true, recurses := true, named := ["herd/duty.asked"], plainKeys := false, apart := false, laid := [("herd/duty.asked", laid_herd_duty_asked)], narrowed := true }
def DutyTokensUptoSaid : Prop := dutyTokensUptoRow.holds Tryd.pinned (OpenSpec.upto dutyTokensSpec)

/-- 'herdlaw20.DutyDrop', WHERE WHAT IT READS IS OF BULK AT MOST 1048576: true; the input reads as it did. -/
def dutyDropUptoRow : OpenClaim := { program := "ytljmhmdpihpafaadoor", sum := "af626f7f1c44ef3870f0f37e5c0ccfc4d54552e27ebb71b6d5a2db4f10679441", func := "herd/herdlaw20.DutyDrop", spec := "dutyDrop", unfollowed := true, recurses := true, named := ["herd/duty.asked"], plainKeys := false, apart := false, laid := [("herd/duty.asked", laid_herd_duty_asked)], narrowed := true }
def DutyDropUptoSaid : Prop := dutyDropUptoRow.holds Tryd.pinned (OpenSpec.upto dutyDropSpec)

end Rows
end Go.Proofs.YtljmhmdpihpafaaDoor
