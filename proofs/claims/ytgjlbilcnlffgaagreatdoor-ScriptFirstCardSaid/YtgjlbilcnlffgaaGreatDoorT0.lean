/-
 THE TIE of the listed variables: one closed fact, hw.
-/
import Derived.Test.YtgjlbilcnlffgaaGreatDoorRows
import Derived.LaidByTextLater
import Derived.SevenTiedAt
namespace Go.Proofs.YtgjlbilcnlffgaaGreatDoor
open Go
theorem agM : Tryz.prog.worded (varsWordLater true) = true := by kernel_rfl
end Go.Proofs.YtgjlbilcnlffgaaGreatDoor
