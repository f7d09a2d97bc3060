/-
 THE MAPS' types have rows.
-/
import Derived.Test.YtgjlbilcnlffgaaGreatDoorRows
import GoSem.ClaimJoined
import Derived.JoinedOf
import Derived.OpenShut
import Derived.KernelRfl
set_option linter.unusedVariables false
set_option linter.unusedSimpArgs false
namespace Go.Proofs.YtgjlbilcnlffgaaGreatDoor
open Go
set_option maxRecDepth 100000
theorem ah1 : mapsRowed Tryz.pinned.checked.prog = true := by kernel_rfl
end Go.Proofs.YtgjlbilcnlffgaaGreatDoor
