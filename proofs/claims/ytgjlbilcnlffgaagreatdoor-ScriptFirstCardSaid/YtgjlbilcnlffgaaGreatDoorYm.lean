/-
 WHAT is lifted; keys.
-/
import Derived.Test.YtgjlbilcnlffgaaGreatDoorRows
import Derived.JoinedOf
import Derived.OpenShut
import Derived.KernelRfl
set_option linter.unusedVariables false
set_option linter.unusedSimpArgs false
namespace Go.Proofs.YtgjlbilcnlffgaaGreatDoor
open Go
set_option maxRecDepth 100000
theorem ah6 : (Rows.scriptFirstRow.lifted == Tryz.pinned.checked.prog.liftsFinal) = true := by kernel_rfl
theorem ah7 : (Rows.scriptFirstRow.plainKeys == Tryz.pinned.checked.prog.plainKeys) = true := by kernel_rfl
end Go.Proofs.YtgjlbilcnlffgaaGreatDoor
