/-
  WHAT may be entered.
-/
import Derived.Test.YtlicehodjhoamaaGreatDoorRows
import Derived.JoinedOf
import Derived.OpenShut
import Derived.KernelRfl
namespace Go.Proofs.YtlicehodjhoamaaGreatDoor
open Go
set_option linter.unusedVariables false
set_option linter.unusedSimpArgs false
set_option maxRecDepth 100000
theorem jf_me : Tryz.pinned.checked.prog.mayEnter = true := by kernel_rfl
end Go.Proofs.YtlicehodjhoamaaGreatDoor
