/-
  WHAT is lifted; keys.
-/
import Derived.Test.YtlicehodjhoamaaGreatDoorRows
import Derived.JoinedOf
import Derived.OpenShut
import Derived.KernelRfl
namespace Go.Proofs.YtlicehodjhoamaaGreatDoor
open Go
set_option linter.unusedVariables false
set_option linter.unusedSimpArgs false
set_option maxRecDepth 100000
theorem jf_lf : (Rows.scriptNamesRow.lifted == Tryz.pinned.checked.prog.liftsFinal) = true := by kernel_rfl
theorem jf_pk : (Rows.scriptNamesRow.plainKeys == Tryz.pinned.checked.prog.plainKeys) = true := by kernel_rfl
end Go.Proofs.YtlicehodjhoamaaGreatDoor
