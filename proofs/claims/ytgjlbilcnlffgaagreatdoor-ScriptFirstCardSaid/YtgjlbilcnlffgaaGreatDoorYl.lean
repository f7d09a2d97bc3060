/-
 WHAT stops are heard.
-/
import Derived.Test.YtgjlbilcnlffgaaGreatDoorRows
import Derived.JoinedOf
import Derived.OpenShut
import Derived.KernelRfl
set_option linter.unusedVariables false
set_option linter.unusedSimpArgs false
namespace Go.Proofs.YtgjlbilcnlffgaaGreatDoor
open Go
set_option maxRecDepth 100000
theorem ah4 : Tryz.pinned.checked.prog.stopsHeard = true := by kernel_rfl
theorem ah5 : (Tryz.pinned.checked.prog.make == some Rows.scriptFirstRow.make) = true := by kernel_rfl
end Go.Proofs.YtgjlbilcnlffgaaGreatDoor
