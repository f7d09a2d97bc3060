/-
 THE TIE of the listed variables: one closed fact, hw2.
-/
import Derived.Test.YtgjlbilcnlffgaaGreatDoorRows
import Derived.LaidByTextLater
import Derived.SevenTiedAt
namespace Go.Proofs.YtgjlbilcnlffgaaGreatDoor
open Go
theorem afJ : Tryz.prog.worded (varsWordLater !true) = false := by kernel_rfl
end Go.Proofs.YtgjlbilcnlffgaaGreatDoor
