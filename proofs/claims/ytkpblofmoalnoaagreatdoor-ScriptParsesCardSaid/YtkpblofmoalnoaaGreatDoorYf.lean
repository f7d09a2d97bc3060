/-
 WHAT stands in place, and what is not followed.
-/
import Derived.Test.YtkpblofmoalnoaaGreatDoorYe
set_option linter.unusedVariables false
set_option linter.unusedSimpArgs false
namespace Go.Proofs.YtkpblofmoalnoaaGreatDoor
open Go
set_option maxRecDepth 100000
theorem acu : Tryz.pinned.checked.prog.unfollowed 3 = true := by
 unfold Program.unfollowed
 rw [Vj]
 kernel_rfl
theorem aj6 : (Rows.scriptParsesRow.unfollowed == Tryz.pinned.checked.prog.unfollowed 3) = true := by
 rw [acu]
 kernel_rfl
theorem aj7 : (Rows.scriptParsesRow.recurses == Tryz.pinned.checked.prog.recurses 3) = true := by
 unfold Program.recurses
 rw [acu, Bool.true_or]
 kernel_rfl
theorem aj8 : (Rows.scriptParsesRow.inPlace == Tryz.pinned.checked.prog.inPlace 3) = true := by
 unfold Program.inPlace
 rw [Vj]
 kernel_rfl
end Go.Proofs.YtkpblofmoalnoaaGreatDoor
