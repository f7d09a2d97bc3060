/-
 THE TIE of the listed variables: one closed fact, hd.
-/
import Derived.Test.YtkpblofmoalnoaaGreatDoorRows
import Derived.LaidByTextLater
import Derived.SevenTiedAt
namespace Go.Proofs.YtkpblofmoalnoaaGreatDoor
open Go
theorem aiR : ∀ os tape, varsDone Tryz.prog 400 (varsId Tryz.prog) os tape = true := fun _ _ => by kernel_rfl
end Go.Proofs.YtkpblofmoalnoaaGreatDoor
