/-
  NARROWER THAN 'FOR EVERY INPUT', by the rows' own cells (each row's printed sentence says how): HearTells: laid · HearOnce: laid · HearLate: laid · HearDone: laid.
  DERIVED. THE GIVEN ROWS OF THIS SEAT. 4 by the template 'for every input the law returns true; each argument reads behind the call as it read before'; 0 by the template 'total and deterministic' (their statements: YthhgpiolcnojfaaGreatDoorTotals.lean).
  GIVEN WITH THE SEED: the statements are not yours to turn. If you find one false, say at which input.
  Laid BY PROGRAM, IN A SANDBOX (cutbox-rows.mjs): the forced cells as the released guide's own fill.sh prints them over the translation 57afb64c8453fc82… (all of the seat's roots in one cut). By AI agents, Wed Nov 11 2026. No macro, syntax, notation, axiom, sorry.
-/
import Derived.Test.YthhgpiolcnojfaaGreatDoorChecked
import GoSem.Claim
import GoSem.ClaimJoined
import GoSem.ClaimMapViews
import Derived.JoinedTies
import Derived.KernelRfl
namespace Go.Proofs.YthhgpiolcnojfaaGreatDoor
/- THE CELL 'sum', in the pinned program and in every row, IS THE sha256 OF THE DUMP (.gsa) THAT YthhgpiolcnojfaaGreatDoorProg.lean LOADS. Nothing in Lean hashes anything: it is a label: what it is worth is what the hold of that sum in a sandbox is worth. -/
noncomputable def Tryz.pinned : Pinned := { name := "ythhgpiolcnojfaagreatdoor", sum := "57afb64c8453fc824b119c4768c4c44c0303144fb3fdaa5583f80ca53aa8a12e", checked := Tryz.checked }
namespace Rows
def none {H : Type} : Left H := { results := [], args := [] }

/- WHAT THE LISTED PACKAGE-LEVEL VARIABLES READ AS WHEN THE CALL BEGINS. Each datum BY PROGRAM (the guide's laid-datum.mjs) off the statement by which the dump's own 'gosem.cut.vars' lays the variable. In a bare row this is a premise. The card (YthhgpiolcnojfaaGreatDoorCards.lean) ties it to the program's text. -/
def laid_herd_conf_limits {H : Type} : DataW H := .agg [.agg [.lit (.int .i64 0), .lit (.int .i64 6)], .agg [.lit (.int .i64 0), .lit (.int .i64 100)], .agg [.lit (.int .i64 0), .lit (.int .i64 3)], .agg [.lit (.int .i64 0), .lit (.int .i64 3)], .agg [.lit (.int .i64 0), .lit (.int .i64 20)], .agg [.lit (.int .i64 0), .lit (.int .i64 20)], .agg [.lit (.int .i64 0), .lit (.int .i64 20)], .agg [.lit (.int .i64 0), .lit (.int .i64 20)], .agg [.lit (.int .i64 1), .lit (.int .i64 20)], .agg [.lit (.int .i64 1), .lit (.int .i64 20)], .agg [.lit (.int .i64 1), .lit (.int .i64 20)], .agg [.lit (.int .i64 0), .lit (.int .i64 20)], .agg [.lit (.int .i64 1), .lit (.int .i64 1099511627776)]]
def laid_herd_brain_changes {H : Type} : DataW H := .agg [.nil, .slice [.lit (.int .u8 2), .lit (.int .u8 8)] [], .slice [.lit (.int .u8 3), .lit (.int .u8 8)] [], .slice [.lit (.int .u8 4)] [], .slice [.lit (.int .u8 5), .lit (.int .u8 3)] [], .slice [.lit (.int .u8 6), .lit (.int .u8 4)] [], .slice [.lit (.int .u8 7)] [], .slice [.lit (.int .u8 8)] [], .nil, .slice [.lit (.int .u8 10), .lit (.int .u8 8)] [], .slice [.lit (.int .u8 1)] []]
def laid_herd_duty_asked {H : Type} : DataW H := .map [(.int .u8 3, .lit (.int .u8 4)), (.int .u8 5, .lit (.int .u8 5)), (.int .u8 8, .lit (.int .u8 6)), (.int .u8 10, .lit (.int .u8 2))]

/-- 'herdlaw22.HearTells': WHATEVER THE INPUT: true; the input reads as it did. -/
def hearTellsSpec : ChangeSpec := { name := "hearTells", fn := fun _ => fun
  | [d1, d2, d3, d4] => { results := [.lit (.bool true)], args := [d1, d2, d3, d4] }
  | _ => none }
def hearTellsRow : OpenClaim := { program := "ythhgpiolcnojfaagreatdoor", sum := "57afb64c8453fc824b119c4768c4c44c0303144fb3fdaa5583f80ca53aa8a12e", func := "herd/herdlaw22.HearTells", spec := "hearTells", inPlace := ["slices.overlaps[herd/api.Kept]"], unfollowed := true, recurses := true, named := ["herd/duty.asked", "herd/brain.changes", "herd/conf.limits"], plainKeys := false, apart := false, laid := [("herd/conf.limits", laid_herd_conf_limits), ("herd/brain.changes", laid_herd_brain_changes), ("herd/duty.asked", laid_herd_duty_asked)] }
def HearTellsSaid : Prop := hearTellsRow.holds Tryz.pinned (OpenSpec.ofChange hearTellsSpec)

/-- ITS FALSE NEIGHBOUR: 'it returns false'. Refute it at one input. -/
def hearTellsWrong : ChangeSpec := { name := "hearTells", fn := fun _ => fun
  | [d1, d2, d3, d4] => { results := [.lit (.bool false)], args := [d1, d2, d3, d4] }
  | _ => none }
def HearTellsWrongFalsely : Prop := hearTellsRow.holds Tryz.pinned (OpenSpec.ofChange hearTellsWrong)

/-- 'herdlaw22.HearOnce': WHATEVER THE INPUT: true; the input reads as it did. -/
def hearOnceSpec : ChangeSpec := { name := "hearOnce", fn := fun _ => fun
  | [d1, d2, d3, d4] => { results := [.lit (.bool true)], args := [d1, d2, d3, d4] }
  | _ => none }
def hearOnceRow : OpenClaim := { program := "ythhgpiolcnojfaagreatdoor", sum := "57afb64c8453fc824b119c4768c4c44c0303144fb3fdaa5583f80ca53aa8a12e", func := "herd/herdlaw22.HearOnce", spec := "hearOnce", inPlace := ["slices.overlaps[herd/api.Kept]"], unfollowed := true, recurses := true, named := ["herd/duty.asked", "herd/brain.changes", "herd/conf.limits"], plainKeys := false, apart := false, laid := [("herd/conf.limits", laid_herd_conf_limits), ("herd/brain.changes", laid_herd_brain_changes), ("herd/duty.asked", laid_herd_duty_asked)] }
def HearOnceSaid : Prop := hearOnceRow.holds Tryz.pinned (OpenSpec.ofChange hearOnceSpec)

/-- ITS FALSE NEIGHBOUR: 'it returns false'. Refute it at one input. -/
def hearOnceWrong : ChangeSpec := { name := "hearOnce", fn := fun _ => fun
  | [d1, d2, d3, d4] => { results := [.lit (.bool false)], args := [d1, d2, d3, d4] }
  | _ => none }
def HearOnceWrongFalsely : Prop := hearOnceRow.holds Tryz.pinned (OpenSpec.ofChange hearOnceWrong)

/-- 'herdlaw22.HearLate': WHATEVER THE INPUT: true; the input reads as it did. -/
def hearLateSpec : ChangeSpec := { name := "hearLate", fn := fun _ => fun
  | [d1, d2, d3, d4, d5] => { results := [.lit (.bool true)], args := [d1, d2, d3, d4, d5] }
  | _ => none }
def hearLateRow : OpenClaim := { program := "ythhgpiolcnojfaagreatdoor", sum := "57afb64c8453fc824b119c4768c4c44c0303144fb3fdaa5583f80ca53aa8a12e", func := "herd/herdlaw22.HearLate", spec := "hearLate", inPlace := ["slices.overlaps[herd/api.Kept]"], unfollowed := true, recurses := true, named := ["herd/duty.asked", "herd/brain.changes", "herd/conf.limits"], plainKeys := false, apart := false, laid := [("herd/conf.limits", laid_herd_conf_limits), ("herd/brain.changes", laid_herd_brain_changes), ("herd/duty.asked", laid_herd_duty_asked)] }
def HearLateSaid : Prop := hearLateRow.holds Tryz.pinned (OpenSpec.ofChange hearLateSpec)

/-- ITS FALSE NEIGHBOUR: 'it returns false'. Refute it at one input. -/
def hearLateWrong : ChangeSpec := { name := "hearLate", fn := fun _ => fun
  | [d1, d2, d3, d4, d5] => { results := [.lit (.bool false)], args := [d1, d2, d3, d4, d5] }
  | _ => none }
def HearLateWrongFalsely : Prop := hearLateRow.holds Tryz.pinned (OpenSpec.ofChange hearLateWrong)

/-- 'herdlaw22.HearDone': WHATEVER THE INPUT: true; the input reads as it did. -/
def hearDoneSpec : ChangeSpec := { name := "hearDone", fn := fun _ => fun
  | [d1, d2, d3] => { results := [.lit (.bool true)], args := [d1, d2, d3] }
  | _ => none }
def hearDoneRow : OpenClaim := { program := "ythhgpiolcnojfaagreatdoor", sum := "57afb64c8453fc824b119c4768c4c44c0303144fb3fdaa5583f80ca53aa8a12e", func := "herd/herdlaw22.HearDone", spec := "hearDone", inPlace := ["slices.overlaps[herd/api.Kept]"], unfollowed := true, recurses := true, named := ["herd/duty.asked", "herd/brain.changes", "herd/conf.limits"], plainKeys := false, apart := false, laid := [("herd/conf.limits", laid_herd_conf_limits), ("herd/brain.changes", laid_herd_brain_changes), ("herd/duty.asked", laid_herd_duty_asked)] }
def HearDoneSaid : Prop := hearDoneRow.holds Tryz.pinned (OpenSpec.ofChange hearDoneSpec)

/-- ITS FALSE NEIGHBOUR: 'it returns false'. Refute it at one input. -/
def hearDoneWrong : ChangeSpec := { name := "hearDone", fn := fun _ => fun
  | [d1, d2, d3] => { results := [.lit (.bool false)], args := [d1, d2, d3] }
  | _ => none }
def HearDoneWrongFalsely : Prop := hearDoneRow.holds Tryz.pinned (OpenSpec.ofChange hearDoneWrong)

/- THE SECOND FORM. 'bulk': how many values and letters a reading holds, each counted each time it is reached (what is shared counts as often as it is met; a slice's spare places count too). A statement '..UptoSaid' is the law's where the arguments, and the package variables that the reading takes, are together of bulk at most 1048576: NARROWER than '..Said'. Prove '..Said' where nothing that the law and all that it calls make is longer than what came in: it says more and counts as full. Else prove '..UptoSaid'. A law counts once. -/
mutual
def uptoBulk {H : Type} : DataW H → Nat
  | .lit (.string bytes) => bytes.length + 1
  | .lit _ => 1
  | .nil => 1
  | .ptr d => uptoBulk d + 1
  | .slice elems spare => uptoBulkAll elems + uptoBulkAll spare + 1
  | .agg parts => uptoBulkAll parts + 1
  | .iface _ d => uptoBulk d + 1
  | .map entries => uptoBulkEntries entries + 1
  | .held _ => 1
def uptoBulkAll {H : Type} : List (DataW H) → Nat
  | [] => 0
  | d :: r => uptoBulk d + uptoBulkAll r
def uptoBulkEntries {H : Type} : List (Lit × DataW H) → Nat
  | [] => 0
  | x :: r => uptoBulkEntry x + uptoBulkEntries r
def uptoBulkEntry {H : Type} : Lit × DataW H → Nat
  | (.string bytes, d) => bytes.length + uptoBulk d + 1
  | (_, d) => uptoBulk d + 1
 end
def uptoSmall : (H : Type) → List (DataW H) → Bool := fun _ ds => decide (uptoBulkAll ds ≤ 1048576)
def OpenSpec.upto (s : _root_.Go.ChangeSpec) : _root_.Go.OpenSpec := { _root_.Go.OpenSpec.ofChange s with cond := some uptoSmall }

/-- 'herdlaw22.HearTells', WHERE WHAT IT READS IS OF BULK AT MOST 1048576: true; the input reads as it did. -/
def hearTellsUptoRow : OpenClaim := { program := "ythhgpiolcnojfaagreatdoor", sum := "57afb64c8453fc824b119c4768c4c44c0303144fb3fdaa5583f80ca53aa8a12e", func := "herd/herdlaw22.HearTells", spec := "hearTells", inPlace := ["slices.overlaps[herd/api.Kept]"], unfollowed := true, recurses := true, named := ["herd/duty.asked", "herd/brain.changes", "herd/conf.limits"], plainKeys := false, apart := false, laid := [("herd/conf.limits", laid_herd_conf_limits), ("herd/brain.changes", laid_herd_brain_changes), ("herd/duty.asked", laid_herd_duty_asked)], narrowed := true }
def HearTellsUptoSaid : Prop := hearTellsUptoRow.holds Tryz.pinned (OpenSpec.upto hearTellsSpec)

/-- 'herdlaw22.HearOnce', WHERE WHAT IT READS IS OF BULK AT MOST 1048576: true; the input reads as it did. -/
def hearOnceUptoRow : OpenClaim := { program := "ythhgpiolcnojfaagreatdoor", sum := "57afb64c8453fc824b119c4768c4c44c0303144fb3fdaa5583f80ca53aa8a12e", func := "herd/herdlaw22.HearOnce", spec := "hearOnce", inPlace := ["slices.overlaps[herd/api.Kept]"], unfollowed := true, recurses := true, named := ["herd/duty.asked", "herd/brain.changes", "herd/conf.limits"], plainKeys := false, apart := false, laid := [("herd/conf.limits", laid_herd_conf_limits), ("herd/brain.changes", laid_herd_brain_changes), ("herd/duty.asked", laid_herd_duty_asked)], narrowed := true }
def HearOnceUptoSaid : Prop := hearOnceUptoRow.holds Tryz.pinned (OpenSpec.upto hearOnceSpec)

/-- 'herdlaw22.HearLate', WHERE WHAT IT READS IS OF BULK AT MOST 1048576: true; the input reads as it did. -/
def hearLateUptoRow : OpenClaim := { program := "ythhgpiolcnojfaagreatdoor", sum := "57afb64c8453fc824b119c4768c4c44c0303144fb3fdaa5583f80ca53aa8a12e", func := "herd/herdlaw22.HearLate", spec := "hearLate", inPlace := ["slices.overlaps[herd/api.Kept]"], unfollowed := true, recurses := true, named := ["herd/duty.asked", "herd/brain.changes", "herd/conf.limits"], plainKeys := false, apart := false, laid := [("herd/conf.limits", laid_herd_conf_limits), ("herd/brain.changes", laid_herd_brain_changes), ("herd/duty.asked", laid_herd_duty_asked)], narrowed := true }
def HearLateUptoSaid : Prop := hearLateUptoRow.holds Tryz.pinned (OpenSpec.upto hearLateSpec)

/-- 'herdlaw22.HearDone', WHERE WHAT IT READS IS OF BULK AT MOST 1048576: true; the input reads as it did. -/
def hearDoneUptoRow : OpenClaim := { program := "ythhgpiolcnojfaagreatdoor", sum := "57afb64c8453fc824b119c4768c4c44c0303144fb3fdaa5583f80ca53aa8a12e", func := "herd/herdlaw22.HearDone", spec := "hearDone", inPlace := ["slices.overlaps[herd/api.Kept]"], unfollowed := true, recurses := true, named := ["herd/duty.asked", "herd/brain.changes", "herd/conf.limits"], plainKeys := false, apart := false, laid := [("herd/conf.limits", laid_herd_conf_limits), ("herd/brain.changes", laid_herd_brain_changes), ("herd/duty.asked", laid_herd_duty_asked)], narrowed := true }
def HearDoneUptoSaid : Prop := hearDoneUptoRow.holds Tryz.pinned (OpenSpec.upto hearDoneSpec)

end Rows
end Go.Proofs.YthhgpiolcnojfaaGreatDoor
