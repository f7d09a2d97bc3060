/-
  WHICH variables are named.
-/
import Derived.Test.YtlicehodjhoamaaGreatDoorYe
namespace Go.Proofs.YtlicehodjhoamaaGreatDoor
open Go
set_option linter.unusedVariables false
set_option linter.unusedSimpArgs false
set_option maxRecDepth 100000
theorem jf_nm : (Rows.scriptNamesRow.named == Tryz.pinned.checked.prog.varsNamed 4) = true := by
  unfold Program.varsNamed
  rw [clos_law]
  kernel_rfl
end Go.Proofs.YtlicehodjhoamaaGreatDoor
