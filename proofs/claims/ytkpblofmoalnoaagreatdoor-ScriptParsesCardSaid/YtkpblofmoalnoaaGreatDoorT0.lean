/-
 THE TIE of the listed variables: one closed fact, hw.
-/
import Derived.Test.YtkpblofmoalnoaaGreatDoorRows
import Derived.LaidByTextLater
import Derived.SevenTiedAt
namespace Go.Proofs.YtkpblofmoalnoaaGreatDoor
open Go
theorem aiN : Tryz.prog.worded (varsWordLater true) = true := by kernel_rfl
end Go.Proofs.YtkpblofmoalnoaaGreatDoor
