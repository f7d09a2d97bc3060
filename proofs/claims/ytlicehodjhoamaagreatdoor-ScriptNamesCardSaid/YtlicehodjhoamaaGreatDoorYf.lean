/-
  WHAT stands in place, and what is not followed.
-/
import Derived.Test.YtlicehodjhoamaaGreatDoorYe
namespace Go.Proofs.YtlicehodjhoamaaGreatDoor
open Go
set_option linter.unusedVariables false
set_option linter.unusedSimpArgs false
set_option maxRecDepth 100000
theorem unf_law : Tryz.pinned.checked.prog.unfollowed 4 = true := by
  unfold Program.unfollowed
  rw [clos_law]
  kernel_rfl
theorem jf_un : (Rows.scriptNamesRow.unfollowed == Tryz.pinned.checked.prog.unfollowed 4) = true := by
  rw [unf_law]
  kernel_rfl
theorem jf_re : (Rows.scriptNamesRow.recurses == Tryz.pinned.checked.prog.recurses 4) = true := by
  unfold Program.recurses
  rw [unf_law, Bool.true_or]
  kernel_rfl
theorem jf_ip : (Rows.scriptNamesRow.inPlace == Tryz.pinned.checked.prog.inPlace 4) = true := by
  unfold Program.inPlace
  rw [clos_law]
  kernel_rfl
end Go.Proofs.YtlicehodjhoamaaGreatDoor
