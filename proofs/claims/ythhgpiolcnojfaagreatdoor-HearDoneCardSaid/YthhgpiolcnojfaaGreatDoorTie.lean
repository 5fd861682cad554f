/-
  DERIVED. GIVEN WITH THE SEED: THE PROGRAM's TIES (one call each: nine closed facts by the kernel) AND EACH ROW's TIE, after the 31st guide's Derived/Test/Toyas{Tie, Card}.lean. No idea stands in it: it is a product of the set-up. Laid BY PROGRAM, IN A SANDBOX (cutbox-door.mjs). By AI agents, Wed Nov 11 2026. No macro, syntax, notation, axiom, sorry.
-/
import Derived.Test.YthhgpiolcnojfaaGreatDoorRows
import Derived.LaidByTextLater
import Derived.SevenTiedAt
import Derived.LaidSub
import Derived.LaidOnce
namespace Go.Proofs.YthhgpiolcnojfaaGreatDoor
open Go
set_option maxRecDepth 100000
theorem seatTie1 : Tryz.prog.laidByTextLater [("herd/conf.limits", Rows.laid_herd_conf_limits), ("herd/brain.changes", Rows.laid_herd_brain_changes), ("herd/duty.asked", Rows.laid_herd_duty_asked)] [.data, .widerDeep, .mapped] true :=
  Program.laidByTextLater_by_one 66 8 27 (by kernel_rfl) (by kernel_rfl) (by kernel_rfl) (by kernel_rfl) (by kernel_rfl) (by kernel_rfl) (fun _ _ => by kernel_rfl)
theorem noOwnUnsafe : Tryz.pinned.checked.prog.headLifts.contains "ownunsafe" = false := by kernel_rfl
theorem tie : Tryz.prog.laidByTextLater [("herd/conf.limits", Rows.laid_herd_conf_limits), ("herd/brain.changes", Rows.laid_herd_brain_changes), ("herd/duty.asked", Rows.laid_herd_duty_asked)] [.data, .widerDeep, .mapped] true :=
  Program.laidByTextLater.sub seatTie1 ["herd/conf.limits", "herd/brain.changes", "herd/duty.asked"] (by kernel_rfl) (by kernel_rfl)
theorem hearTells_row_tie : Rows.hearTellsRow.laidByTextAt .later Tryz.pinned [.data, .widerDeep, .mapped] true :=
  OpenClaim.laidByTextAt_later rfl rfl tie noOwnUnsafe
theorem hearOnce_row_tie : Rows.hearOnceRow.laidByTextAt .later Tryz.pinned [.data, .widerDeep, .mapped] true :=
  OpenClaim.laidByTextAt_later rfl rfl tie noOwnUnsafe
theorem hearLate_row_tie : Rows.hearLateRow.laidByTextAt .later Tryz.pinned [.data, .widerDeep, .mapped] true :=
  OpenClaim.laidByTextAt_later rfl rfl tie noOwnUnsafe
theorem hearDone_row_tie : Rows.hearDoneRow.laidByTextAt .later Tryz.pinned [.data, .widerDeep, .mapped] true :=
  OpenClaim.laidByTextAt_later rfl rfl tie noOwnUnsafe
theorem hearTellsUpto_row_tie : Rows.hearTellsUptoRow.laidByTextAt .later Tryz.pinned [.data, .widerDeep, .mapped] true :=
  OpenClaim.laidByTextAt_later rfl rfl tie noOwnUnsafe
theorem hearOnceUpto_row_tie : Rows.hearOnceUptoRow.laidByTextAt .later Tryz.pinned [.data, .widerDeep, .mapped] true :=
  OpenClaim.laidByTextAt_later rfl rfl tie noOwnUnsafe
theorem hearLateUpto_row_tie : Rows.hearLateUptoRow.laidByTextAt .later Tryz.pinned [.data, .widerDeep, .mapped] true :=
  OpenClaim.laidByTextAt_later rfl rfl tie noOwnUnsafe
theorem hearDoneUpto_row_tie : Rows.hearDoneUptoRow.laidByTextAt .later Tryz.pinned [.data, .widerDeep, .mapped] true :=
  OpenClaim.laidByTextAt_later rfl rfl tie noOwnUnsafe
end Go.Proofs.YthhgpiolcnojfaaGreatDoor
