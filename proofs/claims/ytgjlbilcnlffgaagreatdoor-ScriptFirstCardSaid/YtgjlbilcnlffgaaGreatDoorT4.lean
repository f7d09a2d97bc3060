/-
 THE TIE of the listed variables: one closed fact, hg.
-/
import Derived.Test.YtgjlbilcnlffgaaGreatDoorRows
import Derived.LaidByTextLater
import Derived.SevenTiedAt
namespace Go.Proofs.YtgjlbilcnlffgaaGreatDoor
open Go
theorem agO : (Tryz.prog.funcNamed "gosem.cut.vars").isSome = true := by kernel_rfl
end Go.Proofs.YtgjlbilcnlffgaaGreatDoor
