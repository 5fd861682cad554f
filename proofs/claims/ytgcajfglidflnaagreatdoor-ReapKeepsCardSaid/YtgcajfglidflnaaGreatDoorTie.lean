/-
  DERIVED. GIVEN WITH THE SEED: THE PROGRAM's TIES (one call each: nine closed facts by the kernel) AND EACH ROW's TIE, after the 31st guide's Derived/Test/Toyas{Tie, Card}.lean. No idea stands in it: it is a product of the set-up. Laid BY PROGRAM, IN A SANDBOX (cutbox-door.mjs). By AI agents, Wed Nov 11 2026. No macro, syntax, notation, axiom, sorry.
-/
import Derived.Test.YtgcajfglidflnaaGreatDoorRows
import Derived.LaidByTextLater
import Derived.SevenTiedAt
import Derived.LaidSub
import Derived.LaidOnce
namespace Go.Proofs.YtgcajfglidflnaaGreatDoor
open Go
set_option maxRecDepth 100000
theorem seatTie1 : Tryz.prog.laidByTextLater [("herd/conf.limits", Rows.laid_herd_conf_limits), ("herd/brain.changes", Rows.laid_herd_brain_changes)] [.data, .widerDeep] true :=
  Program.laidByTextLater_by_one 41 8 27 (by kernel_rfl) (by kernel_rfl) (by kernel_rfl) (by kernel_rfl) (by kernel_rfl) (by kernel_rfl) (fun _ _ => by kernel_rfl)
theorem noOwnUnsafe : Tryz.pinned.checked.prog.headLifts.contains "ownunsafe" = false := by kernel_rfl
theorem tie : Tryz.prog.laidByTextLater [("herd/conf.limits", Rows.laid_herd_conf_limits), ("herd/brain.changes", Rows.laid_herd_brain_changes)] [.data, .widerDeep] true :=
  Program.laidByTextLater.sub seatTie1 ["herd/conf.limits", "herd/brain.changes"] (by kernel_rfl) (by kernel_rfl)
theorem reapKeeps_row_tie : Rows.reapKeepsRow.laidByTextAt .later Tryz.pinned [.data, .widerDeep] true :=
  OpenClaim.laidByTextAt_later rfl rfl tie noOwnUnsafe
theorem reapKeepsUpto_row_tie : Rows.reapKeepsUptoRow.laidByTextAt .later Tryz.pinned [.data, .widerDeep] true :=
  OpenClaim.laidByTextAt_later rfl rfl tie noOwnUnsafe
end Go.Proofs.YtgcajfglidflnaaGreatDoor
