/-
  THE MAPS' types have rows.
-/
import Derived.Test.YtlicehodjhoamaaGreatDoorRows
import GoSem.ClaimJoined
import Derived.JoinedOf
import Derived.OpenShut
import Derived.KernelRfl
namespace Go.Proofs.YtlicehodjhoamaaGreatDoor
open Go
set_option linter.unusedVariables false
set_option linter.unusedSimpArgs false
set_option maxRecDepth 100000
theorem jf_mr : mapsRowed Tryz.pinned.checked.prog = true := by kernel_rfl
end Go.Proofs.YtlicehodjhoamaaGreatDoor
