/-
 WHICH variables are named.
-/
import Derived.Test.YtgjlbilcnlffgaaGreatDoorYe
set_option linter.unusedVariables false
set_option linter.unusedSimpArgs false
namespace Go.Proofs.YtgjlbilcnlffgaaGreatDoor
open Go
set_option maxRecDepth 100000
theorem ah0 : (Rows.scriptFirstRow.named == Tryz.pinned.checked.prog.varsNamed 4) = true := by
 unfold Program.varsNamed
 rw [Uc]
 kernel_rfl
end Go.Proofs.YtgjlbilcnlffgaaGreatDoor
