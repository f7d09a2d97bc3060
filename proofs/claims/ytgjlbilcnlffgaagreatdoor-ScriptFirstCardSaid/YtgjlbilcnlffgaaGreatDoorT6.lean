/-
 THE TIE of the listed variables: one closed fact, hd.
-/
import Derived.Test.YtgjlbilcnlffgaaGreatDoorRows
import Derived.LaidByTextLater
import Derived.SevenTiedAt
namespace Go.Proofs.YtgjlbilcnlffgaaGreatDoor
open Go
theorem agQ : ∀ os tape, varsDone Tryz.prog 400 (varsId Tryz.prog) os tape = true := fun _ _ => by kernel_rfl
end Go.Proofs.YtgjlbilcnlffgaaGreatDoor
