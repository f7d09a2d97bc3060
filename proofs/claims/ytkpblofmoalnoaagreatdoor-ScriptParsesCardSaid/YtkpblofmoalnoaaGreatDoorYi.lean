/-
 THE MAPS' types have rows.
-/
import Derived.Test.YtkpblofmoalnoaaGreatDoorRows
import GoSem.ClaimJoined
import Derived.JoinedOf
import Derived.OpenShut
import Derived.KernelRfl
set_option linter.unusedVariables false
set_option linter.unusedSimpArgs false
namespace Go.Proofs.YtkpblofmoalnoaaGreatDoor
open Go
set_option maxRecDepth 100000
theorem aka : mapsRowed Tryz.pinned.checked.prog = true := by kernel_rfl
end Go.Proofs.YtkpblofmoalnoaaGreatDoor
