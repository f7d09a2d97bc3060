/-
  WHAT stops are heard.
-/
import Derived.Test.YtlicehodjhoamaaGreatDoorRows
import Derived.JoinedOf
import Derived.OpenShut
import Derived.KernelRfl
namespace Go.Proofs.YtlicehodjhoamaaGreatDoor
open Go
set_option linter.unusedVariables false
set_option linter.unusedSimpArgs false
set_option maxRecDepth 100000
theorem jf_sh : Tryz.pinned.checked.prog.stopsHeard = true := by kernel_rfl
theorem jf_mk : (Tryz.pinned.checked.prog.make == some Rows.scriptNamesRow.make) = true := by kernel_rfl
end Go.Proofs.YtlicehodjhoamaaGreatDoor
