/-
 WHICH variables are named.
-/
import Derived.Test.YtkpblofmoalnoaaGreatDoorYe
set_option linter.unusedVariables false
set_option linter.unusedSimpArgs false
namespace Go.Proofs.YtkpblofmoalnoaaGreatDoor
open Go
set_option maxRecDepth 100000
theorem aj9 : (Rows.scriptParsesRow.named == Tryz.pinned.checked.prog.varsNamed 3) = true := by
 unfold Program.varsNamed
 rw [Vj]
 kernel_rfl
end Go.Proofs.YtkpblofmoalnoaaGreatDoor
