/-
 WHAT may be entered.
-/
import Derived.Test.YtgjlbilcnlffgaaGreatDoorRows
import Derived.JoinedOf
import Derived.OpenShut
import Derived.KernelRfl
set_option linter.unusedVariables false
set_option linter.unusedSimpArgs false
namespace Go.Proofs.YtgjlbilcnlffgaaGreatDoor
open Go
set_option maxRecDepth 100000
theorem ah3 : Tryz.pinned.checked.prog.mayEnter = true := by kernel_rfl
end Go.Proofs.YtgjlbilcnlffgaaGreatDoor
