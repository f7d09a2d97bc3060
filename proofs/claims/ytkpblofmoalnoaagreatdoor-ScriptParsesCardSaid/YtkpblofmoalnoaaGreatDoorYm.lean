/-
 WHAT is lifted; keys.
-/
import Derived.Test.YtkpblofmoalnoaaGreatDoorRows
import Derived.JoinedOf
import Derived.OpenShut
import Derived.KernelRfl
set_option linter.unusedVariables false
set_option linter.unusedSimpArgs false
namespace Go.Proofs.YtkpblofmoalnoaaGreatDoor
open Go
set_option maxRecDepth 100000
theorem akf : (Rows.scriptParsesRow.lifted == Tryz.pinned.checked.prog.liftsFinal) = true := by kernel_rfl
theorem akg : (Rows.scriptParsesRow.plainKeys == Tryz.pinned.checked.prog.plainKeys) = true := by kernel_rfl
end Go.Proofs.YtkpblofmoalnoaaGreatDoor
