/-
 THE TIE of the listed variables: one closed fact, hroot.
-/
import Derived.Test.YtgjlbilcnlffgaaGreatDoorRows
import Derived.LaidByTextLater
import Derived.SevenTiedAt
namespace Go.Proofs.YtgjlbilcnlffgaaGreatDoor
open Go
theorem ach : Tryz.prog.worded rootWordLater = true := by kernel_rfl
end Go.Proofs.YtgjlbilcnlffgaaGreatDoor
