/-
 WHAT stands in place, and what is not followed.
-/
import Derived.Test.YtgjlbilcnlffgaaGreatDoorYe
set_option linter.unusedVariables false
set_option linter.unusedSimpArgs false
namespace Go.Proofs.YtgjlbilcnlffgaaGreatDoor
open Go
set_option maxRecDepth 100000
theorem aaY : Tryz.pinned.checked.prog.unfollowed 4 = true := by
 unfold Program.unfollowed
 rw [Uc]
 kernel_rfl
theorem ahX : (Rows.scriptFirstRow.unfollowed == Tryz.pinned.checked.prog.unfollowed 4) = true := by
 rw [aaY]
 kernel_rfl
theorem ahY : (Rows.scriptFirstRow.recurses == Tryz.pinned.checked.prog.recurses 4) = true := by
 unfold Program.recurses
 rw [aaY, Bool.true_or]
 kernel_rfl
theorem ahZ : (Rows.scriptFirstRow.inPlace == Tryz.pinned.checked.prog.inPlace 4) = true := by
 unfold Program.inPlace
 rw [Uc]
 kernel_rfl
end Go.Proofs.YtgjlbilcnlffgaaGreatDoor
