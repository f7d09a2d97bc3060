/-
 WHAT stops are heard.
-/
import Derived.Test.YtkpblofmoalnoaaGreatDoorRows
import Derived.JoinedOf
import Derived.OpenShut
import Derived.KernelRfl
set_option linter.unusedVariables false
set_option linter.unusedSimpArgs false
namespace Go.Proofs.YtkpblofmoalnoaaGreatDoor
open Go
set_option maxRecDepth 100000
theorem akd : Tryz.pinned.checked.prog.stopsHeard = true := by kernel_rfl
theorem ake : (Tryz.pinned.checked.prog.make == some Rows.scriptParsesRow.make) = true := by kernel_rfl
end Go.Proofs.YtkpblofmoalnoaaGreatDoor
